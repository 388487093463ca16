/- The walks. Printed by wip/lift/drive.py. -/
import Derived.Test.YtbhmhindommaeaaW1
namespace Go.Proofs.Ytbhmhindommaeaa
open Go.RowKit
set_option linter.unusedSimpArgs false
set_option linter.unusedVariables false
set_option synthInstance.maxSize 2000
set_option synthInstance.maxHeartbeats 400000

set_option maxHeartbeats 4000000 in
set_option maxRecDepth 100000 in
theorem law19_sane_c {Fs : List Hp} {G : Hp}  {r : Bool} (hG : G ∈ Fs)  (h : law19_sane = some r) : RetS Try.prog 9 #[] Fs [] [] (fun v bo so => v = .bool r ∧ bo = [] ∧ so = []) := by
  unfold law19_sane at h
  try dsimp only at h
  refine RetS.of (vs := []) Try.func9 rfl Try.ntmps9 [] trivial rfl hG fun w0 S0 hS0 B0 => ?_
  refine Cov.seq ?_
  refine Cov.region rfl ?_
  refine Cov.q .ro (.assign rfl) rfl ?_
  refine Cov.region_end ?_
  refine Cov.seq ?_
  refine Cov.region rfl ?_
  refine Cov.q .ro (.build [_, _] [(0, _)] ty40 pl40 rfl rfl) rfl ?_
  refine Cov.lit [_, _] [(0, _)] .ro sl23 ty40 rfl rfl rfl rfl rfl rfl (fun b1 hb1 => ?_)
  have o2 : OL (Rep.pair (Rep.int .i64) (Rep.int .i64)) G [.int .i64 1, .int .i64 0] ([(1, 0)] : List (Int × Int)) := ((OL.cons rfl (Rep.pairI (Rep.intI .i64 1) (Rep.intI .i64 0)) (OL.nil (Rp' := (Rep.pair (Rep.int .i64) (Rep.int .i64))))) :)
  refine Cov.reval 12 (n' := ([(1, 0)] : List (Int × Int)).length) rfl rfl ?_
  refine Cov.q .ro (.build [_, _] [(0, _), (1, _)] ty25 pl25 rfl rfl) rfl ?_
  refine Cov.alloc .ro ty25 rfl (fun b4 hb4 => ?_)
  refine Cov.store 0 [_, _] [_] .ro rfl rfl rfl ty25 rfl rfl rfl rfl ?_
  refine Cov.region_end ?_
  refine Cov.seq ?_
  refine Cov.region rfl ?_
  refine Cov.q .ro (.load_own_a 0 [_, _] rfl rfl ty25 rfl) rfl ?_
  refine Cov.lit [_, _] [(0, _), (1, _)] .ro sl22 ty3 rfl rfl rfl rfl rfl rfl (fun b5 hb5 => ?_)
  have o6 : OL (Rep.int .i64) G [.int .i64 0, .int .i64 2] ([0, 2] : List Int) := ((OL.cons rfl (Rep.intI .i64 0) (OL.cons rfl (Rep.intI .i64 2) (OL.nil (Rp' := (Rep.int .i64))))) :)
  refine Cov.reval 16 (n' := ([0, 2] : List Int).length) rfl rfl ?_
  refine Cov.freezeR 1 rfl rfl o2 [_] rfl B0 (fun G8 e9 B10 s11 => ?_)
  refine Cov.freezeR 0 rfl rfl (OL.mono e9 o6) [] rfl B10 (fun G13 e14 B15 s16 => ?_)
  obtain ⟨u18, hu18, r19⟩ := bind_some h; clear h
  refine Cov.callW (b1 := []) (b2 := [_]) (s1 := []) [_, _] [] .ro rfl rfl Try.call17 rfl rfl (cuckoo_Assign_c (G := G13) List.mem_cons_self (SlR.mono e14 s11) s16 hu18) rfl B15 (fun v21 bo so G22 e23 B24 h20 => ?_)
  obtain ⟨a26, k27, rfl, rfl, rfl, s28⟩ := h20
  refine Cov.same (bl' := [_]) (sl' := []) rfl rfl rfl ?_
  refine Cov.q .ro (.move rfl) rfl ?_
  refine Cov.q .ro (.extract rfl rfl) rfl ?_
  refine Cov.q .ro (.extract rfl rfl) rfl ?_
  refine Cov.alloc .ro ty43 rfl (fun b29 hb29 => ?_)
  refine Cov.store 0 [_] [_, _] .ro rfl rfl rfl ty43 rfl rfl rfl rfl ?_
  refine Cov.q .ro (.assign rfl) rfl ?_
  refine Cov.region_end ?_
  refine Cov.seq ?_
  refine Cov.region rfl ?_
  refine Cov.q .ro (.load_own_a 1 [_, _] rfl rfl ty25 rfl) rfl ?_
  refine Cov.lit [_, _] [(0, _), (1, _)] .ro sl22 ty3 rfl rfl rfl rfl rfl rfl (fun b30 hb30 => ?_)
  have o31 : OL (Rep.int .i64) G22 [.int .i64 1, .int .i64 0] ([1, 0] : List Int) := ((OL.cons rfl (Rep.intI .i64 1) (OL.cons rfl (Rep.intI .i64 0) (OL.nil (Rp' := (Rep.int .i64))))) :)
  refine Cov.reval 22 (n' := ([1, 0] : List Int).length) rfl rfl ?_
  refine Cov.freezeR 0 rfl rfl o31 [] rfl B24 (fun G33 e34 B35 s36 => ?_)
  obtain ⟨u38, hu38, r39⟩ := bind_some r19; clear r19
  refine Cov.callW (b1 := []) (b2 := [_, _]) (s1 := []) [_, _] [] .ro rfl rfl Try.call17 rfl rfl (cuckoo_Assign_c (G := G33) List.mem_cons_self (SlR.mono (HpLe.trans (HpLe.trans e14 e23) e34) s11) s36 hu38) rfl B35 (fun v41 bo so G42 e43 B44 h40 => ?_)
  obtain ⟨a46, k47, rfl, rfl, rfl, s48⟩ := h40
  refine Cov.same (bl' := [_, _]) (sl' := []) rfl rfl rfl ?_
  refine Cov.q .ro (.move rfl) rfl ?_
  refine Cov.q .ro (.extract rfl rfl) rfl ?_
  refine Cov.q .ro (.extract rfl rfl) rfl ?_
  refine Cov.alloc .ro ty43 rfl (fun b49 hb49 => ?_)
  refine Cov.store 0 [_] [_, _, _] .ro rfl rfl rfl ty43 rfl rfl rfl rfl ?_
  refine Cov.q .ro (.assign rfl) rfl ?_
  refine Cov.region_end ?_
  refine Cov.prune [(1, _), (3, _), (4, _), (5, _)] ⟨rfl, rfl, rfl, rfl, trivial⟩ ?_
  refine Cov.seq ?_
  refine Cov.region rfl ?_
  refine Cov.q .ro (.load_own_a 2 [_, _] rfl rfl ty25 rfl) rfl ?_
  obtain ⟨u50, hu50, r51⟩ := bind_some r39; clear r39
  refine Cov.callW (b1 := []) (b2 := [_, _, _]) (s1 := []) [_, _] [] .ro rfl rfl Try.call26 rfl rfl (cuckoo_Layout_c (G := G42) List.mem_cons_self (SlR.mono (HpLe.trans (HpLe.trans (HpLe.trans e14 e23) e34) e43) s11) hu50) rfl B44 (fun v53 bo so G54 e55 B56 h52 => ?_)
  obtain ⟨a58, k59, rfl, rfl, rfl, s60⟩ := h52
  refine Cov.same (bl' := [_, _, _]) (sl' := []) rfl rfl rfl ?_
  refine Cov.q .ro (.move rfl) rfl ?_
  refine Cov.q .ro (.extract rfl rfl) rfl ?_
  refine Cov.q .ro (.extract rfl rfl) rfl ?_
  refine Cov.q .ro (.assign rfl) rfl ?_
  refine Cov.q .ro (.assign rfl) rfl ?_
  refine Cov.region_end ?_
  refine Cov.seq ?_
  refine Cov.region rfl ?_
  refine Cov.q .ro (.load_own_a 2 [_, _] rfl rfl ty25 rfl) rfl ?_
  obtain ⟨u61, hu61, r62⟩ := bind_some r51; clear r51
  refine Cov.callS (b1 := []) (b2 := [_, _, _]) (s1 := []) [_, _, _] [] .ro rfl rfl Try.call14 rfl rfl (cuckoo_Failures_c (G := G54) List.mem_cons_self (SlR.mono (HpLe.trans (HpLe.trans (HpLe.trans (HpLe.trans e14 e23) e34) e43) e55) s11) hu61) rfl (fun v64 bo so h63 => ?_)
  obtain ⟨rfl, rfl, rfl⟩ := h63
  refine Cov.same (bl' := [_, _, _]) (sl' := []) rfl rfl rfl ?_
  refine Cov.q .ro (.move rfl) rfl ?_
  refine Cov.q .ro (.extract rfl rfl) rfl ?_
  refine Cov.q .ro (.extract rfl rfl) rfl ?_
  refine Cov.q .ro (.extract rfl rfl) rfl ?_
  refine Cov.q .ro (.assign rfl) rfl ?_
  refine Cov.q .ro (.assign rfl) rfl ?_
  refine Cov.q .ro (.assign rfl) rfl ?_
  refine Cov.region_end ?_
  refine Cov.seq ?_
  refine Cov.region rfl ?_
  refine Cov.q .ro (.move rfl) rfl ?_
  refine Cov.q .ro (.eql rfl rfl) rfl ?_
  refine Cov.q .ro (.move rfl) rfl ?_
  refine Cov.cutR 3 (β := Unit) (fun y => [(42, .bool (decide ((u18.2 = 15) ∧ (u38.2 = 0))))]) [(4, _), (6, _), (7, _), (8, _), (9, _), (10, _)] (fun y => G54 :: Fs) (fun y => []) [_, _, _] (fun y => []) [] (fun y => True) ⟨rfl, rfl, rfl, rfl, rfl, rfl, trivial⟩ [0, 1, 2] rfl [] rfl ?_ ?_
  · rintro _ _
    refine Cov.prune [(42, .bool (decide ((u18.2 = 15) ∧ (u38.2 = 0)))), (4, _), (6, _), (7, _), (8, _), (9, _), (10, _)] ⟨rfl, rfl, rfl, rfl, rfl, rfl, rfl, trivial⟩ ?_
    refine Cov.same (bl' := [_, _, _]) (sl' := []) (Fs' := G54 :: Fs) rfl rfl rfl ?_
    refine Cov.q .ro (.move rfl) rfl ?_
    refine Cov.cutR 3 (β := Unit) (fun y => [(46, .bool (decide (((u18.2 = 15) ∧ (u38.2 = 0)) ∧ (u50.2 = 0))))]) [(4, _), (6, _), (8, _), (9, _), (10, _)] (fun y => G54 :: Fs) (fun y => []) [_, _, _] (fun y => []) [] (fun y => True) ⟨rfl, rfl, rfl, rfl, rfl, trivial⟩ [0, 1, 2] rfl [] rfl ?_ ?_
    · rintro _ _
      refine Cov.prune [(46, .bool (decide (((u18.2 = 15) ∧ (u38.2 = 0)) ∧ (u50.2 = 0)))), (4, _), (6, _), (8, _), (9, _), (10, _)] ⟨rfl, rfl, rfl, rfl, rfl, rfl, trivial⟩ ?_
      refine Cov.same (bl' := [_, _, _]) (sl' := []) (Fs' := G54 :: Fs) rfl rfl rfl ?_
      refine Cov.q .ro (.move rfl) rfl ?_
      refine Cov.cutR 3 (β := Unit) (fun y => [(50, .bool (decide ((((u18.2 = 15) ∧ (u38.2 = 0)) ∧ (u50.2 = 0)) ∧ (u61.2.2 = 0))))]) [(4, _), (6, _), (8, _), (9, _)] (fun y => G54 :: Fs) (fun y => []) [_, _, _] (fun y => []) [] (fun y => True) ⟨rfl, rfl, rfl, rfl, trivial⟩ [0, 1, 2] rfl [] rfl ?_ ?_
      · rintro _ _
        refine Cov.prune [(50, .bool (decide ((((u18.2 = 15) ∧ (u38.2 = 0)) ∧ (u50.2 = 0)) ∧ (u61.2.2 = 0)))), (4, _), (6, _), (8, _), (9, _)] ⟨rfl, rfl, rfl, rfl, rfl, trivial⟩ ?_
        refine Cov.same (bl' := [_, _, _]) (sl' := []) (Fs' := G54 :: Fs) rfl rfl rfl ?_
        refine Cov.q .ro (.move rfl) rfl ?_
        obtain ⟨u91, h92, r93⟩ := bind_some r62; clear r62
        refine Cov.cutR 5 (β := Hp) (fun y => [(56, .bool u91)]) [(6, _), (8, _), (9, _)] (fun y => y :: Fs) (fun y => []) [_, _, _] (fun y => []) [] (fun y => HpLe G54 y ∧ Bd w0 S0 Fs y) ⟨rfl, rfl, rfl, trivial⟩ [0, 1, 2] rfl [] rfl ?_ ?_
        · rintro G94 ⟨e95, B96⟩
          refine Cov.prune [(56, .bool u91), (6, _), (8, _), (9, _)] ⟨rfl, rfl, rfl, rfl, trivial⟩ ?_
          refine Cov.same (bl' := [_, _, _]) (sl' := []) (Fs' := G94 :: Fs) rfl rfl rfl ?_
          refine Cov.q .ro (.move rfl) rfl ?_
          obtain ⟨u128, h129, r130⟩ := bind_some r93; clear r93
          refine Cov.cutR 6 (β := Hp) (fun y => [(63, .bool u128)]) [(8, _), (9, _)] (fun y => y :: Fs) (fun y => []) [_, _, _] (fun y => []) [] (fun y => HpLe G94 y ∧ Bd w0 S0 Fs y) ⟨rfl, rfl, trivial⟩ [0, 1, 2] rfl [] rfl ?_ ?_
          · rintro G131 ⟨e132, B133⟩
            refine Cov.prune [(63, .bool u128), (8, _), (9, _)] ⟨rfl, rfl, rfl, trivial⟩ ?_
            refine Cov.same (bl' := [_, _, _]) (sl' := []) (Fs' := G131 :: Fs) rfl rfl rfl ?_
            refine Cov.q .ro (.move rfl) rfl ?_
            refine Cov.cutR 3 (β := Unit) (fun y => [(67, .bool (decide ((u128 = true) ∧ (u61.1 = 1))))]) [(9, _)] (fun y => G131 :: Fs) (fun y => []) [_, _, _] (fun y => []) [] (fun y => True) ⟨rfl, trivial⟩ [0, 1, 2] rfl [] rfl ?_ ?_
            · rintro _ _
              refine Cov.prune [(67, .bool (decide ((u128 = true) ∧ (u61.1 = 1)))), (9, _)] ⟨rfl, rfl, trivial⟩ ?_
              refine Cov.same (bl' := [_, _, _]) (sl' := []) (Fs' := G131 :: Fs) rfl rfl rfl ?_
              refine Cov.q .ro (.move rfl) rfl ?_
              refine Cov.cutR 3 (β := Unit) (fun y => [(71, .bool (decide (((u128 = true) ∧ (u61.1 = 1)) ∧ (u61.2.1 = 3))))]) [] (fun y => G131 :: Fs) (fun y => []) [_, _, _] (fun y => []) [] (fun y => True) trivial [0, 1, 2] rfl [] rfl ?_ ?_
              · rintro _ _
                refine Cov.prune [(71, .bool (decide (((u128 = true) ∧ (u61.1 = 1)) ∧ (u61.2.1 = 3))))] ⟨rfl, trivial⟩ ?_
                refine Cov.same (bl' := [_, _, _]) (sl' := []) (Fs' := G131 :: Fs) rfl rfl rfl ?_
                refine Cov.q .ro (.assign rfl) rfl ?_
                refine Cov.region_end ?_
                cases r130
                refine Cov.drop 3 0 [] _ rfl rfl ?_
                refine Cov.retS (c := ⟨9, none⟩) (.inr ⟨_, rfl⟩) [.tmp 0] [_] rfl Try.func9 Try.results9 ⟨RV.tmp rfl, trivial⟩ (fun _ h => List.mem_cons_of_mem _ h) ⟨rfl, rfl, rfl⟩
              · intro hb140
                refine Cov.split 68 rfl (fun c139 => ?_) (fun c139 => ?_)
                · refine Cov.g_on rfl ?_
                  refine Cov.q .ro (.move rfl) rfl ?_
                  refine Cov.g_on rfl ?_
                  refine Cov.q .ro (.eql rfl rfl) rfl ?_
                  refine Cov.q .ro (.pick_t rfl rfl) rfl ?_
                  refine Cov.prune _ ?_ (Cov.same rfl rfl rfl (hb140 () trivial))
                  exact ⟨dand_t c139, trivial⟩
                · refine Cov.g_off rfl rfl rfl ?_
                  refine Cov.g_off rfl rfl rfl ?_
                  refine Cov.q .ro (.pick_f rfl rfl) rfl ?_
                  refine Cov.prune _ ?_ (Cov.same rfl rfl rfl (hb140 () trivial))
                  exact ⟨dand_f c139, trivial⟩
            · intro hb136
              refine Cov.split_b 64 rfl (fun c135 => ?_) (fun c135 => ?_)
              · refine Cov.g_on rfl ?_
                refine Cov.q .ro (.move rfl) rfl ?_
                refine Cov.g_on rfl ?_
                refine Cov.q .ro (.eql rfl rfl) rfl ?_
                refine Cov.q .ro (.pick_t rfl rfl) rfl ?_
                refine Cov.prune _ ?_ (Cov.same rfl rfl rfl (hb136 () trivial))
                exact ⟨dand_t c135, rfl, trivial⟩
              · refine Cov.g_off rfl rfl rfl ?_
                refine Cov.g_off rfl rfl rfl ?_
                refine Cov.q .ro (.pick_f rfl rfl) rfl ?_
                refine Cov.prune _ ?_ (Cov.same rfl rfl rfl (hb136 () trivial))
                exact ⟨dand_f (bne_of c135), rfl, trivial⟩
          · intro hb127
            refine Cov.split_b 57 rfl (fun c126 => ?_) (fun c126 => ?_)
            · have r143 := ifT h129 c126
              refine Cov.g_on rfl ?_
              refine Cov.q .ro (.move rfl) rfl ?_
              refine Cov.g_on rfl ?_
              refine Cov.lit [_, _] [(0, _), (1, _)] .ro sl22 ty3 rfl rfl rfl rfl rfl rfl (fun b144 hb144 => ?_)
              have o145 : OL (Rep.int .i64) G94 [.int .i64 0, .int .i64 2] ([0, 2] : List Int) := ((OL.cons rfl (Rep.intI .i64 0) (OL.cons rfl (Rep.intI .i64 2) (OL.nil (Rp' := (Rep.int .i64))))) :)
              refine Cov.reval 59 (n' := ([0, 2] : List Int).length) rfl rfl ?_
              refine Cov.g_on rfl ?_
              refine Cov.lit [_] [(0, _)] .ro sl22 ty3 rfl rfl rfl rfl rfl rfl (fun b147 hb147 => ?_)
              have o148 : OL (Rep.int .i64) G94 [.int .i64 1] ([1] : List Int) := ((OL.cons rfl (Rep.intI .i64 1) (OL.nil (Rp' := (Rep.int .i64)))) :)
              refine Cov.reval 60 (n' := ([1] : List Int).length) rfl rfl ?_
              refine Cov.g_on rfl ?_
              refine Cov.freezeR 1 rfl rfl o145 [_] rfl B96 (fun G150 e151 B152 s153 => ?_)
              refine Cov.freezeR 0 rfl rfl (OL.mono e151 o148) [] rfl B152 (fun G155 e156 B157 s158 => ?_)
              refine Cov.lit [_, _] [(0, _), (1, _)] .ro sl54 ty22 rfl rfl rfl rfl rfl rfl (fun b160 hb160 => ?_)
              have o161 : OL (Rep.sl (Rep.int .i64)) G155 [.slice (some ⟨b144, 0, none⟩) ([0, 2] : List Int).length 2, .slice (some ⟨b147, 0, none⟩) ([1] : List Int).length 1] ([([0, 2] : List Int), ([1] : List Int)] : List (List Int)) := ((OL.cons rfl (Rep.slI (SlR.mono e156 s153)) (OL.cons rfl (Rep.slI s158) (OL.nil (Rp' := (Rep.sl (Rep.int .i64)))))) :)
              refine Cov.reval 61 (n' := ([([0, 2] : List Int), ([1] : List Int)] : List (List Int)).length) rfl rfl ?_
              refine Cov.g_on rfl ?_
              refine Cov.freezeR 0 rfl rfl o161 [] rfl B157 (fun G163 e164 B165 s166 => ?_)
              obtain ⟨u168, hu168, r169⟩ := bind_some r143; clear r143
              refine Cov.callS (b1 := []) (b2 := [_, _, _]) (s1 := []) [_, _] [] .ro rfl rfl Try.call28 rfl rfl (ref04_SameRows_c (G := G163) List.mem_cons_self (SlR.mono (HpLe.trans (HpLe.trans (HpLe.trans e95 e151) e156) e164) s60) s166 hu168) rfl (fun v171 bo so h170 => ?_)
              obtain ⟨rfl, rfl, rfl⟩ := h170
              refine Cov.same (bl' := [_, _, _]) (sl' := []) rfl rfl rfl ?_
              refine Cov.q .ro (.pick_t rfl rfl) rfl ?_
              refine Cov.prune _ ?_ (Cov.same rfl rfl rfl (hb127 G163 ⟨(HpLe.trans (HpLe.trans e151 e156) e164), B165⟩))
              exact ⟨sval r169, rfl, rfl, trivial⟩
            · have r172 := ifBF h129 c126
              refine Cov.g_off rfl rfl rfl ?_
              refine Cov.g_off rfl rfl rfl ?_
              refine Cov.g_off rfl rfl rfl ?_
              refine Cov.g_off rfl rfl rfl ?_
              refine Cov.g_off rfl rfl rfl ?_
              refine Cov.q .ro (.pick_f rfl rfl) rfl ?_
              refine Cov.prune _ ?_ (Cov.same rfl rfl rfl (hb127 G94 ⟨(HpLe.refl _), B96⟩))
              exact ⟨sval r172, rfl, rfl, trivial⟩
        · intro hb90
          refine Cov.split 51 rfl (fun c89 => ?_) (fun c89 => ?_)
          · have r173 := ifT h92 c89
            refine Cov.g_on rfl ?_
            refine Cov.q .ro (.fieldAddr 0 rfl fl43_0 ty22.sz rfl) rfl ?_
            refine Cov.g_on rfl ?_
            refine Cov.q .ro (.load_own 0 rfl rfl ty22 rfl) rfl ?_
            refine Cov.g_on rfl ?_
            refine Cov.lit [_, _] [(0, _), (1, _)] .ro sl22 ty3 rfl rfl rfl rfl rfl rfl (fun b174 hb174 => ?_)
            have o175 : OL (Rep.int .i64) G54 [.int .i64 1, .int .i64 0] ([1, 0] : List Int) := ((OL.cons rfl (Rep.intI .i64 1) (OL.cons rfl (Rep.intI .i64 0) (OL.nil (Rp' := (Rep.int .i64))))) :)
            refine Cov.reval 54 (n' := ([1, 0] : List Int).length) rfl rfl ?_
            refine Cov.g_on rfl ?_
            refine Cov.freezeR 0 rfl rfl o175 [] rfl B56 (fun G177 e178 B179 s180 => ?_)
            obtain ⟨u182, hu182, r183⟩ := bind_some r173; clear r173
            refine Cov.callS (b1 := []) (b2 := [_, _, _]) (s1 := []) [_, _] [] .ro rfl rfl Try.call25 rfl rfl (ref04_Same_c (G := G177) List.mem_cons_self (SlR.mono (HpLe.trans e55 e178) s48) s180 hu182) rfl (fun v185 bo so h184 => ?_)
            obtain ⟨rfl, rfl, rfl⟩ := h184
            refine Cov.same (bl' := [_, _, _]) (sl' := []) rfl rfl rfl ?_
            refine Cov.q .ro (.pick_t rfl rfl) rfl ?_
            refine Cov.prune _ ?_ (Cov.same rfl rfl rfl (hb90 G177 ⟨e178, B179⟩))
            exact ⟨sval r183, rfl, rfl, rfl, trivial⟩
          · have r186 := ifF h92 c89
            refine Cov.g_off rfl rfl rfl ?_
            refine Cov.g_off rfl rfl rfl ?_
            refine Cov.g_off rfl rfl rfl ?_
            refine Cov.g_off rfl rfl rfl ?_
            refine Cov.q .ro (.pick_f rfl rfl) rfl ?_
            refine Cov.prune _ ?_ (Cov.same rfl rfl rfl (hb90 G54 ⟨(HpLe.refl _), B56⟩))
            exact ⟨sval r186, rfl, rfl, rfl, trivial⟩
      · intro hb74
        refine Cov.split 47 rfl (fun c73 => ?_) (fun c73 => ?_)
        · refine Cov.g_on rfl ?_
          refine Cov.q .ro (.move rfl) rfl ?_
          refine Cov.g_on rfl ?_
          refine Cov.q .ro (.eql rfl rfl) rfl ?_
          refine Cov.q .ro (.pick_t rfl rfl) rfl ?_
          refine Cov.prune _ ?_ (Cov.same rfl rfl rfl (hb74 () trivial))
          exact ⟨dand_t c73, rfl, rfl, rfl, rfl, trivial⟩
        · refine Cov.g_off rfl rfl rfl ?_
          refine Cov.g_off rfl rfl rfl ?_
          refine Cov.q .ro (.pick_f rfl rfl) rfl ?_
          refine Cov.prune _ ?_ (Cov.same rfl rfl rfl (hb74 () trivial))
          exact ⟨dand_f c73, rfl, rfl, rfl, rfl, trivial⟩
    · intro hb70
      refine Cov.split 43 rfl (fun c69 => ?_) (fun c69 => ?_)
      · refine Cov.g_on rfl ?_
        refine Cov.q .ro (.move rfl) rfl ?_
        refine Cov.g_on rfl ?_
        refine Cov.q .ro (.eql rfl rfl) rfl ?_
        refine Cov.q .ro (.pick_t rfl rfl) rfl ?_
        refine Cov.prune _ ?_ (Cov.same rfl rfl rfl (hb70 () trivial))
        exact ⟨dand_t c69, rfl, rfl, rfl, rfl, rfl, trivial⟩
      · refine Cov.g_off rfl rfl rfl ?_
        refine Cov.g_off rfl rfl rfl ?_
        refine Cov.q .ro (.pick_f rfl rfl) rfl ?_
        refine Cov.prune _ ?_ (Cov.same rfl rfl rfl (hb70 () trivial))
        exact ⟨dand_f c69, rfl, rfl, rfl, rfl, rfl, trivial⟩
  · intro hb66
    refine Cov.split 39 rfl (fun c65 => ?_) (fun c65 => ?_)
    · refine Cov.g_on rfl ?_
      refine Cov.q .ro (.move rfl) rfl ?_
      refine Cov.g_on rfl ?_
      refine Cov.q .ro (.eql rfl rfl) rfl ?_
      refine Cov.q .ro (.pick_t rfl rfl) rfl ?_
      refine Cov.prune _ ?_ (Cov.same rfl rfl rfl (hb66 () trivial))
      exact ⟨dand_t c65, rfl, rfl, rfl, rfl, rfl, rfl, trivial⟩
    · refine Cov.g_off rfl rfl rfl ?_
      refine Cov.g_off rfl rfl rfl ?_
      refine Cov.q .ro (.pick_f rfl rfl) rfl ?_
      refine Cov.prune _ ?_ (Cov.same rfl rfl rfl (hb66 () trivial))
      exact ⟨dand_f c65, rfl, rfl, rfl, rfl, rfl, rfl, trivial⟩

set_option maxHeartbeats 4000000 in
set_option maxRecDepth 100000 in
theorem make_Few_c {Fs : List Hp} {G : Hp} {a0 : Option Addr} {k0 : Nat} {x0 : List Int} {r : Bool} (hG : G ∈ Fs) (s0 : SlR (Rep.int .i64) G a0 k0 x0) (h : make_Few x0 = some r) : RetS Try.prog 10 #[.slice a0 x0.length k0] Fs [] [] (fun v bo so => v = .bool r ∧ bo = [] ∧ so = []) := by
  unfold make_Few at h
  try dsimp only at h
  refine RetS.of (vs := [_]) Try.func10 rfl Try.ntmps10 [(0, _)] ⟨rfl, trivial⟩ rfl hG fun w0 S0 hS0 B0 => ?_
  refine Cov.seq ?_
  refine Cov.region rfl ?_
  refine Cov.q .ro (.assign rfl) rfl ?_
  refine Cov.region_end ?_
  refine Cov.seq ?_
  refine Cov.region rfl ?_
  refine Cov.q .ro (.move rfl) rfl ?_
  refine Cov.q .ro (.len_sl rfl rfl sl22) rfl ?_
  refine Cov.q .ro (.leq rfl rfl) rfl ?_
  refine Cov.q .ro (.assign rfl) rfl ?_
  refine Cov.region_end ?_
  cases h
  refine Cov.retS (c := ⟨10, none⟩) (.inr ⟨_, rfl⟩) [.tmp 2] [_] rfl Try.func10 Try.results10 ⟨RV.tmp rfl, trivial⟩ (fun _ h => List.mem_cons_of_mem _ h) ⟨rfl, rfl, rfl⟩

set_option maxHeartbeats 4000000 in
set_option maxRecDepth 100000 in
theorem make_Mod_c {Fs : List Hp} {G : Hp} {x0 : Int} {x1 : Int} {r : Int} (hG : G ∈ Fs)  (h : make_Mod x0 x1 = some r) : RetS Try.prog 13 #[.int .i64 x0, .int .i64 x1] Fs [] [] (fun v bo so => v = .int .i64 r ∧ bo = [] ∧ so = []) := by
  unfold make_Mod at h
  try dsimp only at h
  refine RetS.of (vs := [_, _]) Try.func13 rfl Try.ntmps13 [(0, _), (1, _)] ⟨rfl, rfl, trivial⟩ rfl hG fun w0 S0 hS0 B0 => ?_
  refine Cov.seq ?_
  refine Cov.region rfl ?_
  refine Cov.q .ro (.assign rfl) rfl ?_
  refine Cov.region_end ?_
  refine Cov.seq ?_
  refine Cov.region rfl ?_
  refine Cov.q .ro (.move rfl) rfl ?_
  refine Cov.q .ro (.move rfl) rfl ?_
  obtain ⟨u1, hu1, r2⟩ := bind_some h; clear h
  refine Cov.q .ro (.remt rfl rfl (nz_some hu1)) rfl ?_
  refine Cov.q .ro (.move rfl) rfl ?_
  refine Cov.q .ro (.addw rfl rfl) rfl ?_
  refine Cov.q .ro (.move rfl) rfl ?_
  obtain ⟨u3, hu3, r4⟩ := bind_some r2; clear r2
  refine Cov.q .ro (.remt rfl rfl (nz_some hu3)) rfl ?_
  refine Cov.q .ro (.assign rfl) rfl ?_
  refine Cov.region_end ?_
  cases r4
  refine Cov.retS (c := ⟨13, none⟩) (.inr ⟨_, rfl⟩) [.tmp 4] [_] rfl Try.func13 Try.results13 ⟨RV.tmp rfl, trivial⟩ (fun _ h => List.mem_cons_of_mem _ h) ⟨rfl, rfl, rfl⟩

set_option maxHeartbeats 4000000 in
set_option maxRecDepth 100000 in
theorem make_Deck_Next_c {Fs : List Hp} {G : Hp} {p0 : Nat} {a0_0 : Option Addr} {k0_0 : Nat} {x0_0 : List Int} {x0_1 : Int} {x1 : Int} {r : (Int × ((List Int) × Int))} (hG : G ∈ Fs) (s0_0 : SlR (Rep.int .i64) G a0_0 k0_0 x0_0) (h : make_Deck_Next (x0_0, x0_1) x1 = some r) : RetS Try.prog 31 #[.pointer (some ⟨p0, 0, none⟩), .int .i64 x1] Fs [(p0, .cells #[.slice a0_0 x0_0.length k0_0, .int .i64 x0_1] 64 (0, 0))] [] (fun v bo so => ∃ a0 : Option Addr, ∃ k0 : Nat, v = .int .i64 r.1 ∧ bo = [(p0, .cells #[.slice a0 r.2.1.length k0, .int .i64 r.2.2] 64 (0, 0))] ∧ so = [] ∧ SlR (Rep.int .i64) G a0 k0 r.2.1) := by
  unfold make_Deck_Next at h
  try dsimp only at h
  refine RetS.of (vs := [_, _]) Try.func31 rfl Try.ntmps31 [(0, _), (1, _)] ⟨rfl, rfl, trivial⟩ rfl hG fun w0 S0 hS0 B0 => ?_
  refine Cov.seq ?_
  refine Cov.region rfl ?_
  refine Cov.q .ro (.assign rfl) rfl ?_
  refine Cov.region_end ?_
  refine Cov.seq ?_
  refine Cov.seq ?_
  refine Cov.drawL (.q 0 (.q 1 (.q 2 (.q 3 (.q 4 (.q 5 (.q 6 (.q 7 (.q 8 (.q 9 (.q 10 (.q 11 (.q 12 (.q 13 .nil)))))))))))))) [_] (by kernel_rfl) (by kernel_rfl) (pick_mem [0] rfl) ?_
  refine Cov.dq (.move rfl) rfl ?_
  refine Cov.dq (.lss rfl rfl) rfl ?_
  refine Cov.dq (.move rfl) rfl ?_
  refine Cov.cutD 11 (β := Unit) (fun y => [(19, .bool (decide ((x1 < 1) ∨ ((x0_0.length : Int) ≤ x0_1))))]) [(0, _), (1, _)] (fun y => G :: Fs) (fun y => []) [_] (fun y => []) [] (fun y => True) ⟨rfl, rfl, trivial⟩ [0] rfl [] rfl ?_ ?_
  · rintro _ _
    refine Cov.prune [(19, .bool (decide ((x1 < 1) ∨ ((x0_0.length : Int) ≤ x0_1)))), (0, _), (1, _)] ⟨rfl, rfl, rfl, trivial⟩ ?_
    refine Cov.same (bl' := [_]) (sl' := []) (Fs' := G :: Fs) rfl rfl rfl ?_
    refine Cov.draw_end ?_
    refine Cov.cond_dec rfl (fun c5 => ?_) (fun c5 => ?_)
    · have r6 := ifT h c5; clear h
      refine Cov.seq ?_
      refine Cov.region rfl ?_
      refine Cov.q .ro (.assign rfl) rfl ?_
      refine Cov.region_end ?_
      cases r6
      refine Cov.retS (c := ⟨31, none⟩) (.inr ⟨_, rfl⟩) [.tmp 4] [_] rfl Try.func31 Try.results31 ⟨RV.tmp rfl, trivial⟩ (fun _ h => List.mem_cons_of_mem _ h) ⟨a0_0, k0_0, rfl, rfl, rfl, s0_0⟩
    · have r7 := ifF h c5; clear h
      refine Cov.skip ?_
      refine Cov.seq ?_
      refine Cov.drawL (.q 0 (.q 1 (.q 2 (.q 3 (.q 4 (.q 5 (.q 6 (.q 7 (.q 8 (.q 9 (.q 10 .nil))))))))))) [_] (by kernel_rfl) (by kernel_rfl) (pick_mem [0] rfl) ?_
      refine Cov.dq (.move rfl) rfl ?_
      refine Cov.dq (.nilCheck rfl rfl) rfl ?_
      refine Cov.dq (.fieldAddr 0 rfl fl64_0 ty22.sz rfl) rfl ?_
      refine Cov.dq (.load_own 0 rfl rfl ty22 rfl) rfl ?_
      refine Cov.dq (.move rfl) rfl ?_
      refine Cov.dq (.nilCheck rfl rfl) rfl ?_
      refine Cov.dq (.fieldAddr 1 rfl fl64_1 ty3.sz rfl) rfl ?_
      refine Cov.dq (.load_own 0 rfl rfl ty3 rfl) rfl ?_
      obtain ⟨u8, hu8, r9⟩ := bind_some r7; clear r7
      obtain ⟨c10, p11, h12⟩ := SlR.get s0_0 hu8
      obtain rfl := h12
      refine Cov.dq (.idxR s0_0 rfl rfl hu8 sl22 ty3.sz) rfl ?_
      refine Cov.dq (.load_rp p11 List.mem_cons_self rfl ty3 rfl) rfl ?_
      refine Cov.dq (.assign rfl) rfl ?_
      refine Cov.draw_end ?_
      refine Cov.seq ?_
      refine Cov.region rfl ?_
      refine Cov.q .ro (.move rfl) rfl ?_
      refine Cov.q .ro (.nilCheck rfl rfl) rfl ?_
      refine Cov.q .ro (.fieldAddr 1 rfl fl64_1 ty3.sz rfl) rfl ?_
      refine Cov.q .ro (.load_own 0 rfl rfl ty3 rfl) rfl ?_
      refine Cov.q .ro (.addw rfl rfl) rfl ?_
      refine Cov.q .ro (.nilCheck rfl rfl) rfl ?_
      refine Cov.q .ro (.fieldAddr 1 rfl fl64_1 ty3.sz rfl) rfl ?_
      refine Cov.store 0 [_, _] [_] .ro rfl rfl rfl ty3 rfl rfl rfl rfl ?_
      refine Cov.region_end ?_
      refine Cov.prune [(1, _), (5, _)] ⟨rfl, rfl, trivial⟩ ?_
      refine Cov.seq ?_
      refine Cov.region rfl ?_
      refine Cov.q .ro (.move rfl) rfl ?_
      refine Cov.q .ro (.move rfl) rfl ?_
      obtain ⟨u13, hu13, r14⟩ := bind_some r9; clear r9
      refine Cov.callS (b1 := []) (b2 := [_]) (s1 := []) [_, _] [] .ro rfl rfl Try.call13 rfl rfl (make_Mod_c (G := G) List.mem_cons_self  hu13) rfl (fun v16 bo so h15 => ?_)
      obtain ⟨rfl, rfl, rfl⟩ := h15
      refine Cov.same (bl' := [_]) (sl' := []) rfl rfl rfl ?_
      refine Cov.q .ro (.assign rfl) rfl ?_
      refine Cov.region_end ?_
      cases r14
      refine Cov.retS (c := ⟨31, none⟩) (.inr ⟨_, rfl⟩) [.tmp 4] [_] rfl Try.func31 Try.results31 ⟨RV.tmp rfl, trivial⟩ (fun _ h => List.mem_cons_of_mem _ h) ⟨a0_0, k0_0, rfl, rfl, rfl, s0_0⟩
  · intro hb2
    refine Cov.split 8 rfl (fun c1 => ?_) (fun c1 => ?_)
    · refine Cov.dgq_off rfl rfl rfl ?_
      refine Cov.dgq_off rfl rfl rfl ?_
      refine Cov.dgq_off rfl rfl rfl ?_
      refine Cov.dgq_off rfl rfl rfl ?_
      refine Cov.dgq_off rfl rfl rfl ?_
      refine Cov.dgq_off rfl rfl rfl ?_
      refine Cov.dgq_off rfl rfl rfl ?_
      refine Cov.dgq_off rfl rfl rfl ?_
      refine Cov.dgq_off rfl rfl rfl ?_
      refine Cov.dgq_off rfl rfl rfl ?_
      refine Cov.dq (.pick_t rfl rfl) rfl ?_
      refine Cov.prune _ ?_ (Cov.same rfl rfl rfl (hb2 () trivial))
      exact ⟨dor_t c1, rfl, rfl, trivial⟩
    · refine Cov.dgq_on rfl ?_
      refine Cov.dq (.move rfl) rfl ?_
      refine Cov.dgq_on rfl ?_
      refine Cov.dq (.nilCheck rfl rfl) rfl ?_
      refine Cov.dgq_on rfl ?_
      refine Cov.dq (.fieldAddr 1 rfl fl64_1 ty3.sz rfl) rfl ?_
      refine Cov.dgq_on rfl ?_
      refine Cov.dq (.load_own 0 rfl rfl ty3 rfl) rfl ?_
      refine Cov.dgq_on rfl ?_
      refine Cov.dq (.move rfl) rfl ?_
      refine Cov.dgq_on rfl ?_
      refine Cov.dq (.nilCheck rfl rfl) rfl ?_
      refine Cov.dgq_on rfl ?_
      refine Cov.dq (.fieldAddr 0 rfl fl64_0 ty22.sz rfl) rfl ?_
      refine Cov.dgq_on rfl ?_
      refine Cov.dq (.load_own 0 rfl rfl ty22 rfl) rfl ?_
      refine Cov.dgq_on rfl ?_
      refine Cov.dq (.len_sl rfl rfl sl22) rfl ?_
      refine Cov.dgq_on rfl ?_
      refine Cov.dq (.geq rfl rfl) rfl ?_
      refine Cov.dq (.pick_f rfl rfl) rfl ?_
      refine Cov.prune _ ?_ (Cov.same rfl rfl rfl (hb2 () trivial))
      exact ⟨dor_f c1, rfl, rfl, trivial⟩

set_option maxHeartbeats 4000000 in
set_option maxRecDepth 100000 in
theorem make_Hashing_c {Fs : List Hp} {G : Hp} {p0 : Nat} {a0_0 : Option Addr} {k0_0 : Nat} {x0_0 : List Int} {x0_1 : Int} {r : ((Int × (List (Int × Int))) × ((List Int) × Int))} (hG : G ∈ Fs) (s0_0 : SlR (Rep.int .i64) G a0_0 k0_0 x0_0) (h : make_Hashing (x0_0, x0_1) = some r) : RetW Try.prog 11 #[.pointer (some ⟨p0, 0, none⟩)] Fs [(p0, .cells #[.slice a0_0 x0_0.length k0_0, .int .i64 x0_1] 64 (0, 0))] [] (fun v bo so G => ∃ a0 : Option Addr, ∃ k0 : Nat, ∃ a1 : Option Addr, ∃ k1 : Nat, v = .agg #[.int .i64 r.1.1, .slice a0 r.1.2.length k0] ∧ bo = [(p0, .cells #[.slice a1 r.2.1.length k1, .int .i64 r.2.2] 64 (0, 0))] ∧ so = [] ∧ SlR (Rep.pair (Rep.int .i64) (Rep.int .i64)) G a0 k0 r.1.2 ∧ SlR (Rep.int .i64) G a1 k1 r.2.1) := by
  unfold make_Hashing at h
  try dsimp only at h
  refine RetW.of (vs := [_]) Try.func11 rfl Try.ntmps11 [(0, _)] ⟨rfl, trivial⟩ rfl hG fun w0 S0 hS0 B0 => ?_
  refine Cov.seq ?_
  refine Cov.region rfl ?_
  refine Cov.alloc .ro ty25 rfl (fun b1 hb1 => ?_)
  refine Cov.region_end ?_
  refine Cov.seq ?_
  refine Cov.region rfl ?_
  refine Cov.q .ro (.move rfl) rfl ?_
  obtain ⟨u2, hu2, r3⟩ := bind_some h; clear h
  refine Cov.pull 1 rfl [_, _] rfl ?_
  refine Cov.callS (b1 := [_]) (b2 := [_]) (s1 := []) [_, _] [] .ro rfl rfl Try.call31 rfl rfl (make_Deck_Next_c (G := G) List.mem_cons_self s0_0 hu2) rfl (fun v5 bo so h4 => ?_)
  obtain ⟨a6, k7, rfl, rfl, rfl, s8⟩ := h4
  refine Cov.same (bl' := [_, _]) (sl' := []) rfl rfl rfl ?_
  refine Cov.q .ro (.addw rfl rfl) rfl ?_
  refine Cov.q .ro (.build [_, _] [(0, _)] ty25 pl25 rfl rfl) rfl ?_
  refine Cov.alloc .ro ty25 rfl (fun b9 hb9 => ?_)
  refine Cov.store 0 [_, _] [_, _, _] .ro rfl rfl rfl ty25 rfl rfl rfl rfl ?_
  refine Cov.region_end ?_
  refine Cov.seq ?_
  refine Cov.seq ?_
  refine Cov.region rfl ?_
  refine Cov.q .ro (.move rfl) rfl ?_
  obtain ⟨u10, hu10, r11⟩ := bind_some r3; clear r3
  refine Cov.pull 1 rfl [_, _, _] rfl ?_
  refine Cov.callS (b1 := [_]) (b2 := [_, _]) (s1 := []) [_, _] [] .ro rfl rfl Try.call31 rfl rfl (make_Deck_Next_c (G := G) List.mem_cons_self s8 hu10) rfl (fun v13 bo so h12 => ?_)
  obtain ⟨a14, k15, rfl, rfl, rfl, s16⟩ := h12
  refine Cov.same (bl' := [_, _, _]) (sl' := []) rfl rfl rfl ?_
  refine Cov.q .ro (.assign rfl) rfl ?_
  refine Cov.region_end ?_
  refine Cov.cutB (β := List Int × Option Addr × Nat × Int × Int × (List (Int × Int)) × Option Addr × Nat × List Value × Int) (fun y => []) [(2, _), (3, _)] (fun y => G :: Fs) (fun y => [(p0, .cells #[.slice y.2.1 y.1.length y.2.2.1, .int .i64 y.2.2.2.1] 64 (0, 0)), (b9, .cells #[.int .i64 y.2.2.2.2.1, .slice y.2.2.2.2.2.2.1 y.2.2.2.2.2.1.length y.2.2.2.2.2.2.2.1] 25 (0, 0)), (b1, .cells #[.int .i64 y.2.2.2.2.2.2.2.2.2, .slice none 0 0] 25 (0, 0))]) [] (fun y => [.s (.slice y.2.2.2.2.2.2.1 y.2.2.2.2.2.1.length y.2.2.2.2.2.2.2.1) 40 2 y.2.2.2.2.2.1.length y.2.2.2.2.2.2.2.2.1]) [] (fun y => SlR (Rep.int .i64) G y.2.1 y.2.2.1 y.1 ∧ OL (Rep.pair (Rep.int .i64) (Rep.int .i64)) G y.2.2.2.2.2.2.2.2.1 y.2.2.2.2.2.1 ∧ make_Hashing_J1 y.1 y.2.2.2.1 y.2.2.2.2.1 y.2.2.2.2.2.1 y.2.2.2.2.2.2.2.2.2 = some r) ⟨rfl, rfl, trivial⟩ [] rfl [] rfl ?_ ?_
  · intro y hI
    obtain ⟨v128, a129, k130, v132, v133, v134, a135, k136, cs137, v140⟩ := y
    obtain ⟨s131, o138, r142⟩ := hI
    try dsimp only at s131 o138 r142
    refine Cov.prune [(2, _), (3, _)] ⟨rfl, rfl, trivial⟩ ?_
    refine Cov.same (bl' := [(p0, .cells #[.slice a129 v128.length k130, .int .i64 v132] 64 (0, 0)), (b9, .cells #[.int .i64 v133, .slice a135 v134.length k136] 25 (0, 0)), (b1, .cells #[.int .i64 v140, .slice none 0 0] 25 (0, 0))]) (sl' := [.s (.slice a135 v134.length k136) 40 2 v134.length cs137]) (Fs' := G :: Fs) rfl rfl rfl ?_
    unfold make_Hashing_J1 at r142
    try dsimp only at r142
    refine Cov.seq ?_
    refine Cov.region rfl ?_
    refine Cov.q .ro (.load_own_a 1 [_, _] rfl rfl ty25 rfl) rfl ?_
    refine Cov.store 2 [_, _] [_, _, _] .ro rfl rfl rfl ty25 rfl rfl rfl rfl ?_
    refine Cov.region_end ?_
    refine Cov.freezeR 0 rfl rfl o138 [] rfl B0 (fun G143 e144 B145 s146 => ?_)
    cases r142
    refine Cov.pull 2 rfl [_, _, _] rfl ?_
    refine Cov.pull 2 rfl [_, _, _] rfl ?_
    refine Cov.retWD 2 (c := ⟨11, none⟩) (.inr ⟨_, rfl⟩) [.cell 2 25] [_] rfl Try.func11 Try.results11 ⟨RV.cell_a 1 [_, _] rfl rfl ty25 rfl, trivial⟩ (fun _ h => List.mem_cons_of_mem _ h) List.mem_cons_self B145 (by subst hS0; simp [blks]) (fun G' hg => ⟨a135, k136, a129, k130, rfl, rfl, rfl, (SlR.mono hg s146), (SlR.mono hg (SlR.mono e144 s131))⟩)
  · intro hb148
    refine Cov.block ?_
    refine Cov.own_nil 40 2 ?_
    refine Cov.pull 1 rfl [_, _, _] rfl ?_
    refine Cov.pull 1 rfl [_, _, _] rfl ?_
    refine Cov.loop2 (α := Nat × Int × List Int × Option Addr × Nat × Int × (List (Int × Int)) × Option Addr × Nat × List Value) (fun y => [(4, .int .i64 y.2.1)]) [(0, _), (2, _), (3, _)] (fun y => []) (fun y => [(p0, .cells #[.slice y.2.2.2.1 y.2.2.1.length y.2.2.2.2.1, .int .i64 y.2.2.2.2.2.1] 64 (0, 0)), (b9, .cells #[.int .i64 (w64 (1 + u2.1)), .slice y.2.2.2.2.2.2.2.1 y.2.2.2.2.2.2.1.length y.2.2.2.2.2.2.2.2.1] 25 (0, 0))]) [_] (fun y => [.s (.slice y.2.2.2.2.2.2.2.1 y.2.2.2.2.2.2.1.length y.2.2.2.2.2.2.2.2.1) 40 2 y.2.2.2.2.2.2.1.length y.2.2.2.2.2.2.2.2.2]) [] (fun y => SlR (Rep.int .i64) G y.2.2.2.1 y.2.2.2.2.1 y.2.2.1 ∧ OL (Rep.pair (Rep.int .i64) (Rep.int .i64)) G y.2.2.2.2.2.2.2.2.2 y.2.2.2.2.2.2.1 ∧ make_Hashing_L2 make_Hashing_J1 (w64 (1 + u2.1)) y.1 y.2.1 y.2.2.1 y.2.2.2.2.2.1 y.2.2.2.2.2.2.1 = some r) (fun y => y.1) (big, u10.1, u10.2.1, a14, k15, u10.2.2, ([] : List (Int × Int)), none, 0, []) ⟨s16, (OL.nil (Rp' := (Rep.pair (Rep.int .i64) (Rep.int .i64)))), r11⟩ ⟨rfl, rfl, rfl, rfl, trivial⟩ rfl rfl rfl (fun y hI hb230 => ?_)
    obtain ⟨n215, v217, v218, a219, k220, v222, v223, a224, k225, cs226⟩ := y
    obtain ⟨s221, o227, r229⟩ := hI
    try dsimp only at s221 o227 r229
    refine Cov.prune [(4, .int .i64 v217), (0, _), (2, _), (3, _)] ⟨rfl, rfl, rfl, rfl, trivial⟩ ?_
    refine Cov.same (bl' := [(p0, .cells #[.slice a219 v218.length k220, .int .i64 v222] 64 (0, 0)), (b9, .cells #[.int .i64 (w64 (1 + u2.1)), .slice a224 v223.length k225] 25 (0, 0)), _]) (sl' := [.s (.slice a224 v223.length k225) 40 2 v223.length cs226]) (Fs' := G :: Fs) rfl rfl rfl ?_
    obtain ⟨m233, rfl⟩ : ∃ m, n215 = m + 1 := by cases n215 with | zero => exact absurd (show (none : Option _) = some _ from r229) (by simp) | succ m => exact ⟨m, rfl⟩
    have r232 : make_Hashing_B2 make_Hashing_J1 (w64 (1 + u2.1)) (make_Hashing_L2 make_Hashing_J1 (w64 (1 + u2.1)) m233) v217 v218 v222 v223 = some r := r229; clear r229; unfold make_Hashing_B2 at r232; try dsimp only at r232
    refine Cov.seq ?_
    refine Cov.seq ?_
    refine Cov.region rfl ?_
    refine Cov.q .ro (.move rfl) rfl ?_
    refine Cov.q .ro (.geq rfl rfl) rfl ?_
    refine Cov.region_end ?_
    refine Cov.cond_dec rfl (fun c234 => ?_) (fun c234 => ?_)
    · have r235 := ifT r232 c234; clear r232
      refine Cov.skip ?_
      refine Cov.seq ?_
      refine Cov.block ?_
      refine Cov.drawL (.q 0 (.q 1 (.q 2 (.q 4 (.e 3 1 (.e 5 1 (.q 6 (.e 7 1 (.e 8 1 (.q 9 (.e 10 2 .nil))))))))))) [_, _] (by kernel_rfl) (by kernel_rfl) (pick_mem [1, 2] rfl) ?_
      refine Cov.dq (.fieldAddr 1 rfl fl25_1 ty23.sz rfl) rfl ?_
      refine Cov.dq (.load_own 0 rfl rfl ty23 rfl) rfl ?_
      refine Cov.dq (.move rfl) rfl ?_
      refine Cov.dq (.move rfl) rfl ?_
      obtain ⟨u236, hu236, r237⟩ := bind_some r235; clear r235
      refine Cov.callS (b1 := [_]) (b2 := [_, _]) (s1 := []) [_, _] [] .d1 rfl rfl Try.call31 rfl rfl (make_Deck_Next_c (G := G) List.mem_cons_self s221 hu236) rfl (fun v239 bo so h238 => ?_)
      obtain ⟨a240, k241, rfl, rfl, rfl, s242⟩ := h238
      refine Cov.same (bl' := [_, _, _]) (sl' := [_]) rfl rfl rfl ?_
      refine Cov.clsL (HpLe.refl _) (pick_mem [1, 2] rfl) ?_
      obtain ⟨u243, hu243, r244⟩ := bind_some r237; clear r237
      refine Cov.callS (b1 := [_]) (b2 := [_, _]) (s1 := []) [_, _] [] .d1 rfl rfl Try.call31 rfl rfl (make_Deck_Next_c (G := G) List.mem_cons_self s242 hu243) rfl (fun v246 bo so h245 => ?_)
      obtain ⟨a247, k248, rfl, rfl, rfl, s249⟩ := h245
      refine Cov.same (bl' := [_, _, _]) (sl' := [_]) rfl rfl rfl ?_
      refine Cov.clsL (HpLe.refl _) (pick_mem [1, 2] rfl) ?_
      refine Cov.dq (.build [_, _] [(0, _), (1, _)] ty40 pl40 rfl rfl) rfl ?_
      refine Cov.lit [_, _] [(0, _)] .d1 sl23 ty40 rfl rfl rfl rfl rfl rfl (fun b250 hb250 => ?_)
      have o251 : OL (Rep.pair (Rep.int .i64) (Rep.int .i64)) G [.int .i64 u236.1, .int .i64 u243.1] ([(u236.1, u243.1)] : List (Int × Int)) := ((OL.cons rfl (Rep.pairI (Rep.intI .i64 u236.1) (Rep.intI .i64 u243.1)) (OL.nil (Rp' := (Rep.pair (Rep.int .i64) (Rep.int .i64))))) :)
      refine Cov.reval 22 (n' := ([(u236.1, u243.1)] : List (Int × Int)).length) rfl rfl ?_
      refine Cov.clsL (HpLe.refl _) (pick_mem [1, 2] rfl) ?_
      obtain ⟨u257, hu257, r258⟩ := bind_some r244; clear r244
      refine Cov.appO (Q := (Rep.pair (Rep.int .i64) (Rep.int .i64))) 0 .d1 sl23 ty40 rfl rfl rfl rfl rfl rfl o227 o251 rfl rfl rfl B0 hu257 rfl (fun a253 k254 cs255 o256 => ?_)
      refine Cov.clsL (HpLe.refl _) (pick_mem [1, 2] rfl) ?_
      refine Cov.dq (.fieldAddr 1 rfl fl25_1 ty23.sz rfl) rfl ?_
      refine Cov.store 1 [_, _] [_, _, _] .d2 rfl rfl rfl ty23 rfl rfl rfl rfl ?_
      refine Cov.draw_end ?_
      refine Cov.inBlock ?_
      refine Cov.region rfl ?_
      refine Cov.q .ro (.move rfl) rfl ?_
      refine Cov.q .ro (.subw rfl rfl) rfl ?_
      refine Cov.q .ro (.assign rfl) rfl ?_
      refine Cov.region_end ?_
      refine Cov.prune [(4, _), (0, _), (2, _), (3, _)] ⟨rfl, rfl, rfl, rfl, trivial⟩ ?_
      refine Cov.prune _ ?_ (Cov.same rfl rfl rfl (hb230 (m233, (w64 (v217 - 1)), u243.2.1, a247, k248, u243.2.2, u257, a253, k254, cs255) ⟨s249, o256, r258⟩ (Nat.lt_succ_self _)))
      exact ⟨rfl, rfl, rfl, rfl, trivial⟩
    · have r260 := ifF r232 c234; clear r232
      refine Cov.exit rfl ?_
      refine Cov.prune _ ?_ (Cov.same rfl rfl rfl (hb148 (v218, a219, k220, v222, (w64 (1 + u2.1)), v223, a224, k225, cs226, 0) ⟨s221, o227, r260⟩))
      exact ⟨rfl, rfl, trivial⟩

set_option maxHeartbeats 4000000 in
set_option maxRecDepth 100000 in
theorem make_New_c {Fs : List Hp} {G : Hp} {a0 : Option Addr} {k0 : Nat} {x0 : List Int} {r : ((List Int) × Int)} (hG : G ∈ Fs) (s0 : SlR (Rep.int .i64) G a0 k0 x0) (h : make_New x0 = some r) : RetS Try.prog 12 #[.slice a0 x0.length k0] Fs [] [] (fun v bo so => ∃ a0 : Option Addr, ∃ k0 : Nat, ∃ b0 : Nat, v = .pointer (some ⟨b0, 0, none⟩) ∧ bo = [(b0, .cells #[.slice a0 r.1.length k0, .int .i64 r.2] 64 (0, 0))] ∧ so = [] ∧ SlR (Rep.int .i64) G a0 k0 r.1) := by
  unfold make_New at h
  try dsimp only at h
  refine RetS.of (vs := [_]) Try.func12 rfl Try.ntmps12 [(0, _)] ⟨rfl, trivial⟩ rfl hG fun w0 S0 hS0 B0 => ?_
  refine Cov.seq ?_
  refine Cov.region rfl ?_
  refine Cov.q .ro (.assign rfl) rfl ?_
  refine Cov.region_end ?_
  refine Cov.seq ?_
  refine Cov.region rfl ?_
  refine Cov.q .ro (.move rfl) rfl ?_
  refine Cov.q .ro (.build [_, _] [(0, _)] ty64 pl64 rfl rfl) rfl ?_
  refine Cov.box [_, _] .ro rfl rfl rfl (fun b1 hb1 => ?_)
  refine Cov.q .ro (.assign rfl) rfl ?_
  refine Cov.region_end ?_
  cases h
  refine Cov.retS (c := ⟨12, none⟩) (.inr ⟨_, rfl⟩) [.tmp 2] [_] rfl Try.func12 Try.results12 ⟨RV.tmp rfl, trivial⟩ (fun _ h => List.mem_cons_of_mem _ h) ⟨a0, k0, _, rfl, rfl, rfl, s0⟩

set_option maxHeartbeats 4000000 in
set_option maxRecDepth 100000 in
theorem ref19_Check_c {Fs : List Hp} {G : Hp} {x0_0 : Int} {a0_1 : Option Addr} {k0_1 : Nat} {x0_1 : List (Int × Int)} {r : Int} (hG : G ∈ Fs) (s0_1 : SlR (Rep.pair (Rep.int .i64) (Rep.int .i64)) G a0_1 k0_1 x0_1) (h : ref19_Check (x0_0, x0_1) = some r) : RetS Try.prog 23 #[.agg #[.int .i64 x0_0, .slice a0_1 x0_1.length k0_1]] Fs [] [] (fun v bo so => v = .int .i64 r ∧ bo = [] ∧ so = []) := by
  unfold ref19_Check at h
  try dsimp only at h
  refine RetS.of (vs := [_]) Try.func23 rfl Try.ntmps23 [(0, _)] ⟨rfl, trivial⟩ rfl hG fun w0 S0 hS0 B0 => ?_
  refine Cov.seq ?_
  refine Cov.region rfl ?_
  refine Cov.box [_, _] .ro rfl rfl rfl (fun b1 hb1 => ?_)
  refine Cov.q .ro (.assign rfl) rfl ?_
  refine Cov.region_end ?_
  refine Cov.seq ?_
  refine Cov.seq ?_
  refine Cov.region rfl ?_
  refine Cov.q .ro (.fieldAddr 0 rfl fl25_0 ty3.sz rfl) rfl ?_
  refine Cov.q .ro (.load_own 0 rfl rfl ty3 rfl) rfl ?_
  refine Cov.q .ro (.lss rfl rfl) rfl ?_
  refine Cov.q .ro (.move rfl) rfl ?_
  refine Cov.cutR 4 (β := Unit) (fun y => [(12, .bool (decide ((x0_0 < 1) ∨ (64 < x0_0))))]) [(1, _)] (fun y => G :: Fs) (fun y => []) [_] (fun y => []) [] (fun y => True) ⟨rfl, trivial⟩ [0] rfl [] rfl ?_ ?_
  · rintro _ _
    refine Cov.prune [(12, .bool (decide ((x0_0 < 1) ∨ (64 < x0_0)))), (1, _)] ⟨rfl, rfl, trivial⟩ ?_
    refine Cov.same (bl' := [_]) (sl' := []) (Fs' := G :: Fs) rfl rfl rfl ?_
    refine Cov.q .ro (.move rfl) rfl ?_
    refine Cov.cutR 5 (β := Unit) (fun y => [(18, .bool (decide (((x0_0 < 1) ∨ (64 < x0_0)) ∨ ((x0_1.length : Int) < 1))))]) [(1, _)] (fun y => G :: Fs) (fun y => []) [_] (fun y => []) [] (fun y => True) ⟨rfl, trivial⟩ [0] rfl [] rfl ?_ ?_
    · rintro _ _
      refine Cov.prune [(18, .bool (decide (((x0_0 < 1) ∨ (64 < x0_0)) ∨ ((x0_1.length : Int) < 1)))), (1, _)] ⟨rfl, rfl, trivial⟩ ?_
      refine Cov.same (bl' := [_]) (sl' := []) (Fs' := G :: Fs) rfl rfl rfl ?_
      refine Cov.q .ro (.move rfl) rfl ?_
      refine Cov.cutR 5 (β := Unit) (fun y => [(24, .bool (decide ((((x0_0 < 1) ∨ (64 < x0_0)) ∨ ((x0_1.length : Int) < 1)) ∨ (4 < (x0_1.length : Int)))))]) [(1, _)] (fun y => G :: Fs) (fun y => []) [_] (fun y => []) [] (fun y => True) ⟨rfl, trivial⟩ [0] rfl [] rfl ?_ ?_
      · rintro _ _
        refine Cov.prune [(24, .bool (decide ((((x0_0 < 1) ∨ (64 < x0_0)) ∨ ((x0_1.length : Int) < 1)) ∨ (4 < (x0_1.length : Int))))), (1, _)] ⟨rfl, rfl, trivial⟩ ?_
        refine Cov.same (bl' := [_]) (sl' := []) (Fs' := G :: Fs) rfl rfl rfl ?_
        refine Cov.region_end ?_
        refine Cov.cond_dec rfl (fun c14 => ?_) (fun c14 => ?_)
        · have r15 := ifT h c14; clear h
          refine Cov.seq ?_
          refine Cov.region rfl ?_
          refine Cov.q .ro (.assign rfl) rfl ?_
          refine Cov.region_end ?_
          cases r15
          refine Cov.drop 1 0 [] _ rfl rfl ?_
          refine Cov.retS (c := ⟨23, none⟩) (.inr ⟨_, rfl⟩) [.tmp 2] [_] rfl Try.func23 Try.results23 ⟨RV.tmp rfl, trivial⟩ (fun _ h => List.mem_cons_of_mem _ h) ⟨rfl, rfl, rfl⟩
        · have r16 := ifF h c14; clear h
          refine Cov.skip ?_
          refine Cov.seq ?_
          refine Cov.seq ?_
          refine Cov.region rfl ?_
          refine Cov.q .ro (.fieldAddr 1 rfl fl25_1 ty23.sz rfl) rfl ?_
          refine Cov.q .ro (.load_own 0 rfl rfl ty23 rfl) rfl ?_
          refine Cov.q .ro (.len_sl rfl rfl sl23) rfl ?_
          refine Cov.q .ro (.move rfl) rfl ?_
          refine Cov.region_end ?_
          refine Cov.block ?_
          refine Cov.loop2 (α := Nat × (List (Int × Int))) (fun y => [(28, .int .i64 (y.1 : Int))]) [(26, _), (27, _)] (fun y => []) (fun y => []) [_] (fun y => []) [] (fun y => List.drop y.1 x0_1 = y.2 ∧ ref19_Check_L1 y.2  = some r) (fun y => y.2.length) (0, x0_1) ⟨rfl, r16⟩ ⟨rfl, rfl, rfl, trivial⟩ rfl rfl rfl (fun y hI hb49 => ?_)
          obtain ⟨i45, w46⟩ := y
          obtain ⟨g47, r48⟩ := hI
          try dsimp only at g47 r48
          refine Cov.prune [(28, .int .i64 (i45 : Int)), (26, _), (27, _)] ⟨rfl, rfl, rfl, trivial⟩ ?_
          refine Cov.same (bl' := [_]) (sl' := []) (Fs' := G :: Fs) rfl rfl rfl ?_
          cases w46 with
          | nil =>
            rw [ref19_Check_L1] at r48; try dsimp only at r48
            refine Cov.seq ?_
            refine Cov.region rfl ?_
            refine Cov.q .ro (.lss rfl rfl) rfl ?_
            refine Cov.region_end ?_
            refine Cov.seq ?_
            refine Cov.cond_dec rfl (fun c => absurd c (drop_nil g47)) (fun _ => ?_)
            refine Cov.exit rfl ?_
            refine Cov.seq ?_
            refine Cov.region rfl ?_
            refine Cov.q .ro (.assign rfl) rfl ?_
            refine Cov.region_end ?_
            cases r48
            refine Cov.drop 1 0 [] _ rfl rfl ?_
            refine Cov.retS (c := ⟨23, none⟩) (.inr ⟨_, rfl⟩) [.tmp 2] [_] rfl Try.func23 Try.results23 ⟨RV.tmp rfl, trivial⟩ (fun _ h => List.mem_cons_of_mem _ h) ⟨rfl, rfl, rfl⟩
          | cons x54 xs55 =>
            have r53 : ref19_Check_B1 (ref19_Check_L1 xs55) x54  = some r := r48; clear r48; unfold ref19_Check_B1 at r53; try dsimp only at r53
            refine Cov.seq ?_
            refine Cov.region rfl ?_
            refine Cov.q .ro (.lss rfl rfl) rfl ?_
            refine Cov.region_end ?_
            refine Cov.seq ?_
            refine Cov.cond_dec rfl (fun _ => ?_) (fun c => absurd (drop_lt g47) c)
            refine Cov.skip ?_
            refine Cov.seq ?_
            refine Cov.block ?_
            refine Cov.seq ?_
            refine Cov.region rfl ?_
            obtain ⟨c56, p57, h58⟩ := SlR.get s0_1 (drop_idx g47)
            obtain ⟨_, _, rfl, rfl, rfl⟩ := h58
            refine Cov.q .ro (.idxR s0_1 rfl rfl (drop_idx g47) sl23 ty40.sz) rfl ?_
            refine Cov.q .ro (.load_rp_a [_, _] p57 List.mem_cons_self rfl ty40 rfl) rfl ?_
            refine Cov.alloc .ro ty40 rfl (fun b59 hb59 => ?_)
            refine Cov.store 0 [_, _] [_, _] .ro rfl rfl rfl ty40 rfl rfl rfl rfl ?_
            refine Cov.region_end ?_
            refine Cov.seq ?_
            refine Cov.region rfl ?_
            refine Cov.q .ro (.fieldAddr 0 rfl fl40_0 ty3.sz rfl) rfl ?_
            refine Cov.q .ro (.load_own 0 rfl rfl ty3 rfl) rfl ?_
            refine Cov.q .ro (.lss rfl rfl) rfl ?_
            refine Cov.q .ro (.move rfl) rfl ?_
            refine Cov.cutR 4 (β := Unit) (fun y => [(39, .bool (decide ((x54.1 < 0) ∨ (2147483647 ≤ x54.1))))]) [(28, _), (26, _), (27, _), (4, _)] (fun y => G :: Fs) (fun y => []) [_, _] (fun y => []) [] (fun y => True) ⟨rfl, rfl, rfl, rfl, trivial⟩ [0, 1] rfl [] rfl ?_ ?_
            · rintro _ _
              refine Cov.prune [(39, .bool (decide ((x54.1 < 0) ∨ (2147483647 ≤ x54.1)))), (28, _), (26, _), (27, _), (4, _)] ⟨rfl, rfl, rfl, rfl, rfl, trivial⟩ ?_
              refine Cov.same (bl' := [_, _]) (sl' := []) (Fs' := G :: Fs) rfl rfl rfl ?_
              refine Cov.q .ro (.move rfl) rfl ?_
              refine Cov.cutR 4 (β := Unit) (fun y => [(44, .bool (decide (((x54.1 < 0) ∨ (2147483647 ≤ x54.1)) ∨ (x54.2 < 0))))]) [(28, _), (26, _), (27, _), (4, _)] (fun y => G :: Fs) (fun y => []) [_, _] (fun y => []) [] (fun y => True) ⟨rfl, rfl, rfl, rfl, trivial⟩ [0, 1] rfl [] rfl ?_ ?_
              · rintro _ _
                refine Cov.prune [(44, .bool (decide (((x54.1 < 0) ∨ (2147483647 ≤ x54.1)) ∨ (x54.2 < 0)))), (28, _), (26, _), (27, _), (4, _)] ⟨rfl, rfl, rfl, rfl, rfl, trivial⟩ ?_
                refine Cov.same (bl' := [_, _]) (sl' := []) (Fs' := G :: Fs) rfl rfl rfl ?_
                refine Cov.q .ro (.move rfl) rfl ?_
                refine Cov.cutR 4 (β := Unit) (fun y => [(49, .bool (decide ((((x54.1 < 0) ∨ (2147483647 ≤ x54.1)) ∨ (x54.2 < 0)) ∨ (2147483647 ≤ x54.2))))]) [(28, _), (26, _), (27, _)] (fun y => G :: Fs) (fun y => []) [_, _] (fun y => []) [] (fun y => True) ⟨rfl, rfl, rfl, trivial⟩ [0, 1] rfl [] rfl ?_ ?_
                · rintro _ _
                  refine Cov.prune [(49, .bool (decide ((((x54.1 < 0) ∨ (2147483647 ≤ x54.1)) ∨ (x54.2 < 0)) ∨ (2147483647 ≤ x54.2)))), (28, _), (26, _), (27, _)] ⟨rfl, rfl, rfl, rfl, trivial⟩ ?_
                  refine Cov.same (bl' := [_, _]) (sl' := []) (Fs' := G :: Fs) rfl rfl rfl ?_
                  refine Cov.region_end ?_
                  refine Cov.cond_dec rfl (fun c72 => ?_) (fun c72 => ?_)
                  · have r73 := ifT r53 c72; clear r53
                    refine Cov.seq ?_
                    refine Cov.region rfl ?_
                    refine Cov.q .ro (.assign rfl) rfl ?_
                    refine Cov.region_end ?_
                    cases r73
                    refine Cov.drop 2 0 [] _ rfl rfl ?_
                    refine Cov.retS (c := ⟨23, none⟩) (.inr ⟨_, rfl⟩) [.tmp 2] [_] rfl Try.func23 Try.results23 ⟨RV.tmp rfl, trivial⟩ (fun _ h => List.mem_cons_of_mem _ h) ⟨rfl, rfl, rfl⟩
                  · have r74 := ifF r53 c72; clear r53
                    refine Cov.skip ?_
                    refine Cov.inBlock ?_
                    refine Cov.region rfl ?_
                    refine Cov.q .ro (.addw rfl rfl) rfl ?_
                    refine Cov.q .ro (.move rfl) rfl ?_
                    refine Cov.region_end ?_
                    refine Cov.drop 1 0 [_] _ rfl rfl ?_
                    refine Cov.prune _ ?_ (Cov.same rfl rfl rfl (hb49 ((i45 + 1), xs55) ⟨(drop_succ g47), r74⟩ (Nat.lt_succ_self _)))
                    exact ⟨(congrArg (fun z => some (Value.int .i64 z)) (idx_wrap (SlR.len s0_1) g47)), rfl, rfl, trivial⟩
                · intro hb69
                  refine Cov.split 45 rfl (fun c68 => ?_) (fun c68 => ?_)
                  · refine Cov.g_off rfl rfl rfl ?_
                    refine Cov.g_off rfl rfl rfl ?_
                    refine Cov.g_off rfl rfl rfl ?_
                    refine Cov.q .ro (.pick_t rfl rfl) rfl ?_
                    refine Cov.prune _ ?_ (Cov.same rfl rfl rfl (hb69 () trivial))
                    exact ⟨dor_t c68, rfl, rfl, rfl, trivial⟩
                  · refine Cov.g_on rfl ?_
                    refine Cov.q .ro (.fieldAddr 1 rfl fl40_1 ty3.sz rfl) rfl ?_
                    refine Cov.g_on rfl ?_
                    refine Cov.q .ro (.load_own 0 rfl rfl ty3 rfl) rfl ?_
                    refine Cov.g_on rfl ?_
                    refine Cov.q .ro (.geq rfl rfl) rfl ?_
                    refine Cov.q .ro (.pick_f rfl rfl) rfl ?_
                    refine Cov.prune _ ?_ (Cov.same rfl rfl rfl (hb69 () trivial))
                    exact ⟨dor_f c68, rfl, rfl, rfl, trivial⟩
              · intro hb65
                refine Cov.split 40 rfl (fun c64 => ?_) (fun c64 => ?_)
                · refine Cov.g_off rfl rfl rfl ?_
                  refine Cov.g_off rfl rfl rfl ?_
                  refine Cov.g_off rfl rfl rfl ?_
                  refine Cov.q .ro (.pick_t rfl rfl) rfl ?_
                  refine Cov.prune _ ?_ (Cov.same rfl rfl rfl (hb65 () trivial))
                  exact ⟨dor_t c64, rfl, rfl, rfl, rfl, trivial⟩
                · refine Cov.g_on rfl ?_
                  refine Cov.q .ro (.fieldAddr 1 rfl fl40_1 ty3.sz rfl) rfl ?_
                  refine Cov.g_on rfl ?_
                  refine Cov.q .ro (.load_own 0 rfl rfl ty3 rfl) rfl ?_
                  refine Cov.g_on rfl ?_
                  refine Cov.q .ro (.lss rfl rfl) rfl ?_
                  refine Cov.q .ro (.pick_f rfl rfl) rfl ?_
                  refine Cov.prune _ ?_ (Cov.same rfl rfl rfl (hb65 () trivial))
                  exact ⟨dor_f c64, rfl, rfl, rfl, rfl, trivial⟩
            · intro hb61
              refine Cov.split 35 rfl (fun c60 => ?_) (fun c60 => ?_)
              · refine Cov.g_off rfl rfl rfl ?_
                refine Cov.g_off rfl rfl rfl ?_
                refine Cov.g_off rfl rfl rfl ?_
                refine Cov.q .ro (.pick_t rfl rfl) rfl ?_
                refine Cov.prune _ ?_ (Cov.same rfl rfl rfl (hb61 () trivial))
                exact ⟨dor_t c60, rfl, rfl, rfl, rfl, trivial⟩
              · refine Cov.g_on rfl ?_
                refine Cov.q .ro (.fieldAddr 0 rfl fl40_0 ty3.sz rfl) rfl ?_
                refine Cov.g_on rfl ?_
                refine Cov.q .ro (.load_own 0 rfl rfl ty3 rfl) rfl ?_
                refine Cov.g_on rfl ?_
                refine Cov.q .ro (.geq rfl rfl) rfl ?_
                refine Cov.q .ro (.pick_f rfl rfl) rfl ?_
                refine Cov.prune _ ?_ (Cov.same rfl rfl rfl (hb61 () trivial))
                exact ⟨dor_f c60, rfl, rfl, rfl, rfl, trivial⟩
      · intro hb11
        refine Cov.split 19 rfl (fun c10 => ?_) (fun c10 => ?_)
        · refine Cov.g_off rfl rfl rfl ?_
          refine Cov.g_off rfl rfl rfl ?_
          refine Cov.g_off rfl rfl rfl ?_
          refine Cov.g_off rfl rfl rfl ?_
          refine Cov.q .ro (.pick_t rfl rfl) rfl ?_
          refine Cov.prune _ ?_ (Cov.same rfl rfl rfl (hb11 () trivial))
          exact ⟨dor_t c10, rfl, trivial⟩
        · refine Cov.g_on rfl ?_
          refine Cov.q .ro (.fieldAddr 1 rfl fl25_1 ty23.sz rfl) rfl ?_
          refine Cov.g_on rfl ?_
          refine Cov.q .ro (.load_own 0 rfl rfl ty23 rfl) rfl ?_
          refine Cov.g_on rfl ?_
          refine Cov.q .ro (.len_sl rfl rfl sl23) rfl ?_
          refine Cov.g_on rfl ?_
          refine Cov.q .ro (.gtr rfl rfl) rfl ?_
          refine Cov.q .ro (.pick_f rfl rfl) rfl ?_
          refine Cov.prune _ ?_ (Cov.same rfl rfl rfl (hb11 () trivial))
          exact ⟨dor_f c10, rfl, trivial⟩
    · intro hb7
      refine Cov.split 13 rfl (fun c6 => ?_) (fun c6 => ?_)
      · refine Cov.g_off rfl rfl rfl ?_
        refine Cov.g_off rfl rfl rfl ?_
        refine Cov.g_off rfl rfl rfl ?_
        refine Cov.g_off rfl rfl rfl ?_
        refine Cov.q .ro (.pick_t rfl rfl) rfl ?_
        refine Cov.prune _ ?_ (Cov.same rfl rfl rfl (hb7 () trivial))
        exact ⟨dor_t c6, rfl, trivial⟩
      · refine Cov.g_on rfl ?_
        refine Cov.q .ro (.fieldAddr 1 rfl fl25_1 ty23.sz rfl) rfl ?_
        refine Cov.g_on rfl ?_
        refine Cov.q .ro (.load_own 0 rfl rfl ty23 rfl) rfl ?_
        refine Cov.g_on rfl ?_
        refine Cov.q .ro (.len_sl rfl rfl sl23) rfl ?_
        refine Cov.g_on rfl ?_
        refine Cov.q .ro (.lss rfl rfl) rfl ?_
        refine Cov.q .ro (.pick_f rfl rfl) rfl ?_
        refine Cov.prune _ ?_ (Cov.same rfl rfl rfl (hb7 () trivial))
        exact ⟨dor_f c6, rfl, trivial⟩
  · intro hb3
    refine Cov.split 8 rfl (fun c2 => ?_) (fun c2 => ?_)
    · refine Cov.g_off rfl rfl rfl ?_
      refine Cov.g_off rfl rfl rfl ?_
      refine Cov.g_off rfl rfl rfl ?_
      refine Cov.q .ro (.pick_t rfl rfl) rfl ?_
      refine Cov.prune _ ?_ (Cov.same rfl rfl rfl (hb3 () trivial))
      exact ⟨dor_t c2, rfl, trivial⟩
    · refine Cov.g_on rfl ?_
      refine Cov.q .ro (.fieldAddr 0 rfl fl25_0 ty3.sz rfl) rfl ?_
      refine Cov.g_on rfl ?_
      refine Cov.q .ro (.load_own 0 rfl rfl ty3 rfl) rfl ?_
      refine Cov.g_on rfl ?_
      refine Cov.q .ro (.gtr rfl rfl) rfl ?_
      refine Cov.q .ro (.pick_f rfl rfl) rfl ?_
      refine Cov.prune _ ?_ (Cov.same rfl rfl rfl (hb3 () trivial))
      exact ⟨dor_f c2, rfl, trivial⟩

set_option maxHeartbeats 4000000 in
set_option maxRecDepth 100000 in
theorem ref19_Homes_c {Fs : List Hp} {G : Hp} {x0_0 : Int} {a0_1 : Option Addr} {k0_1 : Nat} {x0_1 : List (Int × Int)} {x1 : Int} {r : ((List Int) × Int)} (hG : G ∈ Fs) (s0_1 : SlR (Rep.pair (Rep.int .i64) (Rep.int .i64)) G a0_1 k0_1 x0_1) (h : ref19_Homes (x0_0, x0_1) x1 = some r) : RetS Try.prog 24 #[.agg #[.int .i64 x0_0, .slice a0_1 x0_1.length k0_1], .int .i64 x1] Fs [] [] (fun v bo so => ∃ (oa0 : Option Addr) (ok0 : Nat) (oc0 : List Value), v = .tuple #[.slice oa0 r.1.length ok0, .int .i64 r.2] ∧ bo = [] ∧ so = [.s (.slice oa0 r.1.length ok0) 3 1 r.1.length oc0] ∧ OL (Rep.int .i64) G oc0 r.1) := by
  unfold ref19_Homes at h
  try dsimp only at h
  refine RetS.of (vs := [_, _]) Try.func24 rfl Try.ntmps24 [(0, _), (1, _)] ⟨rfl, rfl, trivial⟩ rfl hG fun w0 S0 hS0 B0 => ?_
  refine Cov.seq ?_
  refine Cov.region rfl ?_
  refine Cov.box [_, _] .ro rfl rfl rfl (fun b1 hb1 => ?_)
  refine Cov.q .ro (.assign rfl) rfl ?_
  refine Cov.q .ro (.assign rfl) rfl ?_
  refine Cov.region_end ?_
  refine Cov.seq ?_
  refine Cov.seq ?_
  refine Cov.region rfl ?_
  refine Cov.q .ro (.load_own_a 0 [_, _] rfl rfl ty25 rfl) rfl ?_
  obtain ⟨u2, hu2, r3⟩ := bind_some h; clear h
  refine Cov.callS (b1 := []) (b2 := [_]) (s1 := []) [_] [] .ro rfl rfl Try.call23 rfl rfl (ref19_Check_c (G := G) List.mem_cons_self s0_1 hu2) rfl (fun v5 bo so h4 => ?_)
  obtain ⟨rfl, rfl, rfl⟩ := h4
  refine Cov.same (bl' := [_]) (sl' := []) rfl rfl rfl ?_
  refine Cov.q .ro (.assign rfl) rfl ?_
  refine Cov.region_end ?_
  refine Cov.seq ?_
  refine Cov.region rfl ?_
  refine Cov.q .ro (.move rfl) rfl ?_
  refine Cov.q .ro (.neq rfl rfl) rfl ?_
  refine Cov.region_end ?_
  refine Cov.cond_dec rfl (fun c6 => ?_) (fun c6 => ?_)
  · have r7 := ifT r3 c6; clear r3
    refine Cov.seq ?_
    refine Cov.region rfl ?_
    refine Cov.q .ro (.move rfl) rfl ?_
    refine Cov.q .ro (.assign rfl) rfl ?_
    refine Cov.q .ro (.assign rfl) rfl ?_
    refine Cov.region_end ?_
    refine Cov.own_nil 3 1 ?_
    cases r7
    refine Cov.drop 1 0 [] _ rfl rfl ?_
    refine Cov.retS (c := ⟨24, none⟩) (.inr ⟨_, rfl⟩) [.tmp 4, .tmp 5] [_, _] rfl Try.func24 Try.results24 ⟨RV.tmp rfl, RV.tmp rfl, trivial⟩ (fun _ h => List.mem_cons_of_mem _ h) ⟨none, 0, [], rfl, rfl, rfl, (OL.nil (Rp' := (Rep.int .i64)))⟩
  · have r9 := ifF r3 c6; clear r3
    refine Cov.skip ?_
    refine Cov.seq ?_
    refine Cov.seq ?_
    refine Cov.region rfl ?_
    refine Cov.q .ro (.move rfl) rfl ?_
    refine Cov.q .ro (.lss rfl rfl) rfl ?_
    refine Cov.q .ro (.move rfl) rfl ?_
    refine Cov.cutR 3 (β := Unit) (fun y => [(20, .bool (decide ((x1 < 0) ∨ (2147483647 ≤ x1))))]) [(1, _), (2, _)] (fun y => G :: Fs) (fun y => []) [_] (fun y => []) [] (fun y => True) ⟨rfl, rfl, trivial⟩ [0] rfl [] rfl ?_ ?_
    · rintro _ _
      refine Cov.prune [(20, .bool (decide ((x1 < 0) ∨ (2147483647 ≤ x1)))), (1, _), (2, _)] ⟨rfl, rfl, rfl, trivial⟩ ?_
      refine Cov.same (bl' := [_]) (sl' := []) (Fs' := G :: Fs) rfl rfl rfl ?_
      refine Cov.region_end ?_
      refine Cov.cond_dec rfl (fun c14 => ?_) (fun c14 => ?_)
      · have r15 := ifT r9 c14; clear r9
        refine Cov.seq ?_
        refine Cov.region rfl ?_
        refine Cov.q .ro (.assign rfl) rfl ?_
        refine Cov.q .ro (.assign rfl) rfl ?_
        refine Cov.region_end ?_
        refine Cov.own_nil 3 1 ?_
        cases r15
        refine Cov.drop 1 0 [] _ rfl rfl ?_
        refine Cov.retS (c := ⟨24, none⟩) (.inr ⟨_, rfl⟩) [.tmp 4, .tmp 5] [_, _] rfl Try.func24 Try.results24 ⟨RV.tmp rfl, RV.tmp rfl, trivial⟩ (fun _ h => List.mem_cons_of_mem _ h) ⟨none, 0, [], rfl, rfl, rfl, (OL.nil (Rp' := (Rep.int .i64)))⟩
      · have r17 := ifF r9 c14; clear r9
        refine Cov.skip ?_
        refine Cov.seq ?_
        refine Cov.region rfl ?_
        refine Cov.q .ro (.assign rfl) rfl ?_
        refine Cov.region_end ?_
        refine Cov.seq ?_
        refine Cov.seq ?_
        refine Cov.region rfl ?_
        refine Cov.q .ro (.fieldAddr 1 rfl fl25_1 ty23.sz rfl) rfl ?_
        refine Cov.q .ro (.load_own 0 rfl rfl ty23 rfl) rfl ?_
        refine Cov.q .ro (.len_sl rfl rfl sl23) rfl ?_
        refine Cov.q .ro (.move rfl) rfl ?_
        refine Cov.region_end ?_
        refine Cov.block ?_
        refine Cov.own_nil 3 1 ?_
        refine Cov.loop2 (α := Nat × (List (Int × Int)) × List Int × Option Addr × Nat × List Value) (fun y => [(7, .slice y.2.2.2.1 y.2.2.1.length y.2.2.2.2.1), (24, .int .i64 (y.1 : Int))]) [(1, _), (2, _), (22, _), (23, _)] (fun y => []) (fun y => []) [_] (fun y => [.s (.slice y.2.2.2.1 y.2.2.1.length y.2.2.2.2.1) 3 1 y.2.2.1.length y.2.2.2.2.2]) [] (fun y => OL (Rep.int .i64) G y.2.2.2.2.2 y.2.2.1 ∧ List.drop y.1 x0_1 = y.2.1 ∧ ref19_Homes_L1 x1 x0_0 y.2.1 y.2.2.1 = some r) (fun y => y.2.1.length) (0, x0_1, ([] : List Int), none, 0, []) ⟨(OL.nil (Rp' := (Rep.int .i64))), rfl, r17⟩ ⟨rfl, rfl, rfl, rfl, rfl, rfl, trivial⟩ rfl rfl rfl (fun y hI hb82 => ?_)
        obtain ⟨i72, w73, v75, a76, k77, cs78⟩ := y
        obtain ⟨o79, g74, r81⟩ := hI
        try dsimp only at o79 g74 r81
        refine Cov.prune [(7, .slice a76 v75.length k77), (24, .int .i64 (i72 : Int)), (1, _), (2, _), (22, _), (23, _)] ⟨rfl, rfl, rfl, rfl, rfl, rfl, trivial⟩ ?_
        refine Cov.same (bl' := [_]) (sl' := [.s (.slice a76 v75.length k77) 3 1 v75.length cs78]) (Fs' := G :: Fs) rfl rfl rfl ?_
        cases w73 with
        | nil =>
          rw [ref19_Homes_L1] at r81; try dsimp only at r81
          refine Cov.seq ?_
          refine Cov.region rfl ?_
          refine Cov.q .ro (.lss rfl rfl) rfl ?_
          refine Cov.region_end ?_
          refine Cov.seq ?_
          refine Cov.cond_dec rfl (fun c => absurd c (drop_nil g74)) (fun _ => ?_)
          refine Cov.exit rfl ?_
          refine Cov.seq ?_
          refine Cov.region rfl ?_
          refine Cov.q .ro (.move rfl) rfl ?_
          refine Cov.q .ro (.assign rfl) rfl ?_
          refine Cov.q .ro (.assign rfl) rfl ?_
          refine Cov.region_end ?_
          cases r81
          refine Cov.drop 1 0 [] _ rfl rfl ?_
          refine Cov.retS (c := ⟨24, none⟩) (.inr ⟨_, rfl⟩) [.tmp 4, .tmp 5] [_, _] rfl Try.func24 Try.results24 ⟨RV.tmp rfl, RV.tmp rfl, trivial⟩ (fun _ h => List.mem_cons_of_mem _ h) ⟨a76, k77, cs78, rfl, rfl, rfl, o79⟩
        | cons x88 xs89 =>
          have r87 : ref19_Homes_B1 x1 x0_0 (ref19_Homes_L1 x1 x0_0 xs89) x88 v75 = some r := r81; clear r81; unfold ref19_Homes_B1 at r87; try dsimp only at r87
          refine Cov.seq ?_
          refine Cov.region rfl ?_
          refine Cov.q .ro (.lss rfl rfl) rfl ?_
          refine Cov.region_end ?_
          refine Cov.seq ?_
          refine Cov.cond_dec rfl (fun _ => ?_) (fun c => absurd (drop_lt g74) c)
          refine Cov.skip ?_
          refine Cov.seq ?_
          refine Cov.block ?_
          refine Cov.seq ?_
          refine Cov.region rfl ?_
          obtain ⟨c90, p91, h92⟩ := SlR.get s0_1 (drop_idx g74)
          obtain ⟨_, _, rfl, rfl, rfl⟩ := h92
          refine Cov.q .ro (.idxR s0_1 rfl rfl (drop_idx g74) sl23 ty40.sz) rfl ?_
          refine Cov.q .ro (.load_rp_a [_, _] p91 List.mem_cons_self rfl ty40 rfl) rfl ?_
          refine Cov.alloc .ro ty40 rfl (fun b93 hb93 => ?_)
          refine Cov.store 0 [_, _] [_, _] .ro rfl rfl rfl ty40 rfl rfl rfl rfl ?_
          refine Cov.region_end ?_
          refine Cov.region rfl ?_
          refine Cov.q .ro (.move rfl) rfl ?_
          refine Cov.q .ro (.fieldAddr 0 rfl fl40_0 ty3.sz rfl) rfl ?_
          refine Cov.q .ro (.load_own 0 rfl rfl ty3 rfl) rfl ?_
          refine Cov.q .ro (.move rfl) rfl ?_
          refine Cov.q .ro (.mulw rfl rfl) rfl ?_
          refine Cov.q .ro (.fieldAddr 1 rfl fl40_1 ty3.sz rfl) rfl ?_
          refine Cov.q .ro (.load_own 0 rfl rfl ty3 rfl) rfl ?_
          refine Cov.q .ro (.addw rfl rfl) rfl ?_
          refine Cov.q .ro (.remt rfl rfl (by decide)) rfl ?_
          refine Cov.q .ro (.fieldAddr 0 rfl fl25_0 ty3.sz rfl) rfl ?_
          refine Cov.q .ro (.load_own 1 rfl rfl ty3 rfl) rfl ?_
          obtain ⟨u94, hu94, r95⟩ := bind_some r87; clear r87
          refine Cov.q .ro (.remt rfl rfl (nz_some hu94)) rfl ?_
          refine Cov.lit [_] [(0, _)] .ro sl22 ty3 rfl rfl rfl rfl rfl rfl (fun b96 hb96 => ?_)
          have o97 : OL (Rep.int .i64) G [.int .i64 (Int.tmod (Int.tmod (w64 ((w64 (x88.1 * x1)) + x88.2)) 2147483647) x0_0)] ([(Int.tmod (Int.tmod (w64 ((w64 (x88.1 * x1)) + x88.2)) 2147483647) x0_0)] : List Int) := ((OL.cons rfl (Rep.intI .i64 (Int.tmod (Int.tmod (w64 ((w64 (x88.1 * x1)) + x88.2)) 2147483647) x0_0)) (OL.nil (Rp' := (Rep.int .i64)))) :)
          refine Cov.reval 40 (n' := ([(Int.tmod (Int.tmod (w64 ((w64 (x88.1 * x1)) + x88.2)) 2147483647) x0_0)] : List Int).length) rfl rfl ?_
          obtain ⟨u103, hu103, r104⟩ := bind_some r95; clear r95
          refine Cov.appO (Q := (Rep.int .i64)) 0 .ro sl22 ty3 rfl rfl rfl rfl rfl rfl o79 o97 rfl rfl rfl B0 hu103 rfl (fun a99 k100 cs101 o102 => ?_)
          refine Cov.q .ro (.assign rfl) rfl ?_
          refine Cov.region_end ?_
          refine Cov.prune [(7, _), (24, _), (1, _), (2, _), (22, _), (23, _)] ⟨rfl, rfl, rfl, rfl, rfl, rfl, trivial⟩ ?_
          refine Cov.inBlock ?_
          refine Cov.region rfl ?_
          refine Cov.q .ro (.addw rfl rfl) rfl ?_
          refine Cov.q .ro (.move rfl) rfl ?_
          refine Cov.region_end ?_
          refine Cov.drop 1 0 [_] _ rfl rfl ?_
          refine Cov.prune _ ?_ (Cov.same rfl rfl rfl (hb82 ((i72 + 1), xs89, u103, a99, k100, cs101) ⟨o102, (drop_succ g74), r104⟩ (Nat.lt_succ_self _)))
          exact ⟨rfl, (congrArg (fun z => some (Value.int .i64 z)) (idx_wrap (SlR.len s0_1) g74)), rfl, rfl, rfl, rfl, trivial⟩
    · intro hb11
      refine Cov.split 17 rfl (fun c10 => ?_) (fun c10 => ?_)
      · refine Cov.g_off rfl rfl rfl ?_
        refine Cov.g_off rfl rfl rfl ?_
        refine Cov.q .ro (.pick_t rfl rfl) rfl ?_
        refine Cov.prune _ ?_ (Cov.same rfl rfl rfl (hb11 () trivial))
        exact ⟨dor_t c10, rfl, rfl, trivial⟩
      · refine Cov.g_on rfl ?_
        refine Cov.q .ro (.move rfl) rfl ?_
        refine Cov.g_on rfl ?_
        refine Cov.q .ro (.geq rfl rfl) rfl ?_
        refine Cov.q .ro (.pick_f rfl rfl) rfl ?_
        refine Cov.prune _ ?_ (Cov.same rfl rfl rfl (hb11 () trivial))
        exact ⟨dor_f c10, rfl, rfl, trivial⟩

set_option maxHeartbeats 4000000 in
set_option maxRecDepth 100000 in
theorem ref19_all_c {Fs : List Hp} {G : Hp} {x0_0 : Int} {a0_1 : Option Addr} {k0_1 : Nat} {x0_1 : List (Int × Int)} {a1 : Option Addr} {k1 : Nat} {x1 : List Int} {r : ((List (List Int)) × Int)} (hG : G ∈ Fs) (s0_1 : SlR (Rep.pair (Rep.int .i64) (Rep.int .i64)) G a0_1 k0_1 x0_1) (s1 : SlR (Rep.int .i64) G a1 k1 x1) (h : ref19_all (x0_0, x0_1) x1 = some r) : RetW Try.prog 47 #[.agg #[.int .i64 x0_0, .slice a0_1 x0_1.length k0_1], .slice a1 x1.length k1] Fs [] [] (fun v bo so G => ∃ (oa0 : Option Addr) (ok0 : Nat) (oc0 : List Value), v = .tuple #[.slice oa0 r.1.length ok0, .int .i64 r.2] ∧ bo = [] ∧ so = [.s (.slice oa0 r.1.length ok0) 22 1 r.1.length oc0] ∧ OL (Rep.sl (Rep.int .i64)) G oc0 r.1) := by
  unfold ref19_all at h
  try dsimp only at h
  refine RetW.of (vs := [_, _]) Try.func47 rfl Try.ntmps47 [(0, _), (1, _)] ⟨rfl, rfl, trivial⟩ rfl hG fun w0 S0 hS0 B0 => ?_
  refine Cov.seq ?_
  refine Cov.region rfl ?_
  refine Cov.box [_, _] .ro rfl rfl rfl (fun b1 hb1 => ?_)
  refine Cov.q .ro (.assign rfl) rfl ?_
  refine Cov.q .ro (.assign rfl) rfl ?_
  refine Cov.region_end ?_
  refine Cov.seq ?_
  refine Cov.seq ?_
  refine Cov.region rfl ?_
  refine Cov.q .ro (.load_own_a 0 [_, _] rfl rfl ty25 rfl) rfl ?_
  obtain ⟨u2, hu2, r3⟩ := bind_some h; clear h
  refine Cov.callS (b1 := []) (b2 := [_]) (s1 := []) [_] [] .ro rfl rfl Try.call23 rfl rfl (ref19_Check_c (G := G) List.mem_cons_self s0_1 hu2) rfl (fun v5 bo so h4 => ?_)
  obtain ⟨rfl, rfl, rfl⟩ := h4
  refine Cov.same (bl' := [_]) (sl' := []) rfl rfl rfl ?_
  refine Cov.q .ro (.assign rfl) rfl ?_
  refine Cov.region_end ?_
  refine Cov.seq ?_
  refine Cov.region rfl ?_
  refine Cov.q .ro (.move rfl) rfl ?_
  refine Cov.q .ro (.neq rfl rfl) rfl ?_
  refine Cov.region_end ?_
  refine Cov.cond_dec rfl (fun c6 => ?_) (fun c6 => ?_)
  · have r7 := ifT r3 c6; clear r3
    refine Cov.seq ?_
    refine Cov.region rfl ?_
    refine Cov.q .ro (.move rfl) rfl ?_
    refine Cov.q .ro (.assign rfl) rfl ?_
    refine Cov.q .ro (.assign rfl) rfl ?_
    refine Cov.region_end ?_
    refine Cov.own_nil 22 1 ?_
    cases r7
    refine Cov.drop 1 0 [] _ rfl rfl ?_
    refine Cov.retW (c := ⟨47, none⟩) (.inr ⟨_, rfl⟩) [.tmp 4, .tmp 5] [_, _] rfl Try.func47 Try.results47 ⟨RV.tmp rfl, RV.tmp rfl, trivial⟩ (fun _ h => List.mem_cons_of_mem _ h) List.mem_cons_self B0 (by subst hS0; simp [blks]) (fun G' hg => ⟨none, 0, [], rfl, rfl, rfl, (OL.mono hg (OL.nil (Rp' := (Rep.sl (Rep.int .i64)))))⟩)
  · have r9 := ifF r3 c6; clear r3
    refine Cov.skip ?_
    refine Cov.seq ?_
    refine Cov.region rfl ?_
    refine Cov.q .ro (.assign rfl) rfl ?_
    refine Cov.region_end ?_
    refine Cov.seq ?_
    refine Cov.seq ?_
    refine Cov.region rfl ?_
    refine Cov.q .ro (.move rfl) rfl ?_
    refine Cov.q .ro (.len_sl rfl rfl sl22) rfl ?_
    refine Cov.q .ro (.move rfl) rfl ?_
    refine Cov.region_end ?_
    refine Cov.block ?_
    refine Cov.own_nil 22 1 ?_
    refine Cov.loop2 (α := Nat × List Int × Hp × List (List Int) × Option Addr × Nat × List Value) (fun y => [(7, .slice y.2.2.2.2.1 y.2.2.2.1.length y.2.2.2.2.2.1), (19, .int .i64 (y.1 : Int))]) [(2, _), (17, _), (18, _)] (fun y => [y.2.2.1]) (fun y => []) [_] (fun y => [.s (.slice y.2.2.2.2.1 y.2.2.2.1.length y.2.2.2.2.2.1) 22 1 y.2.2.2.1.length y.2.2.2.2.2.2]) [] (fun y => HpLe G y.2.2.1 ∧ Bd w0 S0 Fs y.2.2.1 ∧ OL (Rep.sl (Rep.int .i64)) y.2.2.1 y.2.2.2.2.2.2 y.2.2.2.1 ∧ List.drop y.1 x1 = y.2.1 ∧ ref19_all_L1 x0_0 x0_1 y.2.1 y.2.2.2.1 = some r) (fun y => y.2.1.length) (0, x1, G, ([] : List (List Int)), none, 0, []) ⟨(HpLe.refl _), B0, (OL.nil (Rp' := (Rep.sl (Rep.int .i64)))), rfl, r9⟩ ⟨rfl, rfl, rfl, rfl, rfl, trivial⟩ rfl rfl rfl (fun y hI hb108 => ?_)
    obtain ⟨i94, w95, G97, v101, a102, k103, cs104⟩ := y
    obtain ⟨e98, B99, o105, g96, r107⟩ := hI
    try dsimp only at e98 B99 o105 g96 r107
    refine Cov.prune [(7, .slice a102 v101.length k103), (19, .int .i64 (i94 : Int)), (2, _), (17, _), (18, _)] ⟨rfl, rfl, rfl, rfl, rfl, trivial⟩ ?_
    refine Cov.same (bl' := [_]) (sl' := [.s (.slice a102 v101.length k103) 22 1 v101.length cs104]) (Fs' := G97 :: Fs) rfl rfl rfl ?_
    cases w95 with
    | nil =>
      rw [ref19_all_L1] at r107; try dsimp only at r107
      refine Cov.seq ?_
      refine Cov.region rfl ?_
      refine Cov.q .ro (.lss rfl rfl) rfl ?_
      refine Cov.region_end ?_
      refine Cov.seq ?_
      refine Cov.cond_dec rfl (fun c => absurd c (drop_nil g96)) (fun _ => ?_)
      refine Cov.exit rfl ?_
      refine Cov.seq ?_
      refine Cov.region rfl ?_
      refine Cov.q .ro (.move rfl) rfl ?_
      refine Cov.q .ro (.assign rfl) rfl ?_
      refine Cov.q .ro (.assign rfl) rfl ?_
      refine Cov.region_end ?_
      cases r107
      refine Cov.drop 1 0 [] _ rfl rfl ?_
      refine Cov.retW (c := ⟨47, none⟩) (.inr ⟨_, rfl⟩) [.tmp 4, .tmp 5] [_, _] rfl Try.func47 Try.results47 ⟨RV.tmp rfl, RV.tmp rfl, trivial⟩ (fun _ h => List.mem_cons_of_mem _ h) List.mem_cons_self B99 (by subst hS0; simp [blks]) (fun G' hg => ⟨a102, k103, cs104, rfl, rfl, rfl, (OL.mono hg o105)⟩)
    | cons x114 xs115 =>
      have r113 : ref19_all_B1 x0_0 x0_1 (ref19_all_L1 x0_0 x0_1 xs115) x114 v101 = some r := r107; clear r107; unfold ref19_all_B1 at r113; try dsimp only at r113
      refine Cov.seq ?_
      refine Cov.region rfl ?_
      refine Cov.q .ro (.lss rfl rfl) rfl ?_
      refine Cov.region_end ?_
      refine Cov.seq ?_
      refine Cov.cond_dec rfl (fun _ => ?_) (fun c => absurd (drop_lt g96) c)
      refine Cov.skip ?_
      refine Cov.seq ?_
      refine Cov.block ?_
      refine Cov.seq ?_
      refine Cov.region rfl ?_
      obtain ⟨c116, p117, h118⟩ := SlR.get (SlR.mono e98 s1) (drop_idx g96)
      obtain rfl := h118
      refine Cov.q .ro (.idxR (SlR.mono e98 s1) rfl rfl (drop_idx g96) sl22 ty3.sz) rfl ?_
      refine Cov.q .ro (.load_rp p117 List.mem_cons_self rfl ty3 rfl) rfl ?_
      refine Cov.q .ro (.assign rfl) rfl ?_
      refine Cov.region_end ?_
      refine Cov.seq ?_
      refine Cov.region rfl ?_
      refine Cov.q .ro (.load_own_a 0 [_, _] rfl rfl ty25 rfl) rfl ?_
      refine Cov.q .ro (.move rfl) rfl ?_
      obtain ⟨u119, hu119, r120⟩ := bind_some r113; clear r113
      refine Cov.callS (b1 := []) (b2 := [_]) (s1 := []) [_, _] [] .ro rfl rfl Try.call24 rfl rfl (ref19_Homes_c (G := G97) List.mem_cons_self (SlR.mono e98 s0_1) hu119) rfl (fun v122 bo so h121 => ?_)
      obtain ⟨a124, k125, cs126, rfl, rfl, rfl, o127⟩ := h121
      refine Cov.same (bl' := [_]) (sl' := [_, _]) rfl rfl rfl ?_
      refine Cov.q .ro (.move rfl) rfl ?_
      refine Cov.q .ro (.extract rfl rfl) rfl ?_
      refine Cov.q .ro (.extract rfl rfl) rfl ?_
      refine Cov.q .ro (.assign rfl) rfl ?_
      refine Cov.q .ro (.assign rfl) rfl ?_
      refine Cov.region_end ?_
      refine Cov.seq ?_
      refine Cov.seq ?_
      refine Cov.region rfl ?_
      refine Cov.q .ro (.move rfl) rfl ?_
      refine Cov.q .ro (.neq rfl rfl) rfl ?_
      refine Cov.region_end ?_
      refine Cov.cond_dec rfl (fun c128 => ?_) (fun c128 => ?_)
      · have r129 := ifT r120 c128; clear r120
        refine Cov.seq ?_
        refine Cov.region rfl ?_
        refine Cov.q .ro (.move rfl) rfl ?_
        refine Cov.q .ro (.assign rfl) rfl ?_
        refine Cov.q .ro (.assign rfl) rfl ?_
        refine Cov.region_end ?_
        refine Cov.prune [(4, _), (5, _)] ⟨rfl, rfl, trivial⟩ ?_
        refine Cov.own_nil 22 1 ?_
        cases r129
        refine Cov.drop 1 0 [] _ rfl rfl ?_
        refine Cov.pullS 2 rfl [_, _, _] rfl ?_
        refine Cov.pullS 2 rfl [_, _, _] rfl ?_
        refine Cov.drop 0 2 _ [_] rfl rfl ?_
        refine Cov.retW (c := ⟨47, none⟩) (.inr ⟨_, rfl⟩) [.tmp 4, .tmp 5] [_, _] rfl Try.func47 Try.results47 ⟨RV.tmp rfl, RV.tmp rfl, trivial⟩ (fun _ h => List.mem_cons_of_mem _ h) List.mem_cons_self B99 (by subst hS0; simp [blks]) (fun G' hg => ⟨none, 0, [], rfl, rfl, rfl, (OL.mono hg (OL.nil (Rp' := (Rep.sl (Rep.int .i64)))))⟩)
      · have r131 := ifF r120 c128; clear r120
        refine Cov.skip ?_
        refine Cov.region rfl ?_
        refine Cov.q .ro (.move rfl) rfl ?_
        refine Cov.q .ro (.move rfl) rfl ?_
        refine Cov.freezeR 0 rfl rfl o127 [_] rfl B99 (fun G132 e133 B134 s135 => ?_)
        refine Cov.lit [_] [(0, _)] .ro sl54 ty22 rfl rfl rfl rfl rfl rfl (fun b137 hb137 => ?_)
        have o138 : OL (Rep.sl (Rep.int .i64)) G132 [.slice a124 u119.1.length k125] ([u119.1] : List (List Int)) := ((OL.cons rfl (Rep.slI s135) (OL.nil (Rp' := (Rep.sl (Rep.int .i64))))) :)
        refine Cov.reval 34 (n' := ([u119.1] : List (List Int)).length) rfl rfl ?_
        obtain ⟨u144, hu144, r145⟩ := bind_some r131; clear r131
        refine Cov.appO (Q := (Rep.sl (Rep.int .i64))) 0 .ro sl54 ty22 rfl rfl rfl rfl rfl rfl (OL.mono e133 o105) o138 rfl rfl rfl B134 hu144 rfl (fun a140 k141 cs142 o143 => ?_)
        refine Cov.q .ro (.assign rfl) rfl ?_
        refine Cov.region_end ?_
        refine Cov.prune [(7, _), (19, _), (2, _), (17, _), (18, _)] ⟨rfl, rfl, rfl, rfl, rfl, trivial⟩ ?_
        refine Cov.inBlock ?_
        refine Cov.region rfl ?_
        refine Cov.q .ro (.addw rfl rfl) rfl ?_
        refine Cov.q .ro (.move rfl) rfl ?_
        refine Cov.region_end ?_
        refine Cov.prune _ ?_ (Cov.same rfl rfl rfl (hb108 ((i94 + 1), xs115, G132, u144, a140, k141, cs142) ⟨(HpLe.trans e98 e133), B134, o143, (drop_succ g96), r145⟩ (Nat.lt_succ_self _)))
        exact ⟨rfl, (congrArg (fun z => some (Value.int .i64 z)) (idx_wrap (SlR.len s1) g96)), rfl, rfl, rfl, trivial⟩

set_option maxHeartbeats 4000000 in
set_option maxRecDepth 100000 in
theorem ref19_place_R_c (n : Nat) : ∀ {Fs : List Hp} {G : Hp} {a0 : Option Addr} {k0 : Nat} {x0 : List (List Int)} {a1 : Option Addr} {k1 : Nat} {x1 : List (List Int)} {cc1 : List Value} {ee1 : List NE} {a2 : Option Addr} {k2 : Nat} {x2 : List Int} {x3 : Int} {x4 : Int} {a5 : Option Addr} {k5 : Nat} {x5 : List Bool} {cc5 : List Value} {bb5 : Option Nat} {pre5 post5 : List Value} {r : (Bool × (List (List Int)) × (List Bool))} (hG : G ∈ Fs) (s0 : SlR (Rep.sl (Rep.int .i64)) G a0 k0 x0) (oo1 : NL (Rep.int .i64) G ee1 cc1 x1) (s2 : SlR (Rep.int .i64) G a2 k2 x2) (vva5 : VA a5 bb5 x5.length k5 pre5 cc5) (oo5 : OL Rep.bool G cc5 x5) (h : ref19_place_R n x0 x1 x2 x3 x4 x5 = some r), RetS Try.prog 58 #[.slice a0 x0.length k0, .slice a1 x1.length k1, .slice a2 x2.length k2, .int .i64 x3, .int .i64 x4, .slice a5 x5.length k5] Fs [] [.s (.slice a1 x1.length k1) 22 1 x1.length cc1, .g (packG 3 1 ee1), .g (viewG bb5 4 pre5 cc5 post5)] (fun v bo so => (r.1 = false ∧ ∃ lc0 : List Value, v = .bool false ∧ bo = [] ∧ so = [.s (.slice a1 x1.length k1) 22 1 x1.length cc1, .g (packG 3 1 ee1), .g (viewG bb5 4 pre5 lc0 post5)] ∧ OL Rep.bool G lc0 r.2.2 ∧ r.2.2.length = x5.length) ∨ (r.1 = true ∧ ∃ le0 : List NE, ∃ lc0 : List Value, ∃ lc1 : List Value, v = .bool true ∧ bo = [] ∧ so = [.s (.slice a1 r.2.1.length k1) 22 1 r.2.1.length lc0, .g (packG 3 1 le0), .g (viewG bb5 4 pre5 lc1 post5)] ∧ NL (Rep.int .i64) G le0 lc0 r.2.1 ∧ r.2.1.length = x1.length ∧ OL Rep.bool G lc1 r.2.2 ∧ r.2.2.length = x5.length)) := by
  induction n with
  | zero => intro Fs G a0 k0 x0 a1 k1 x1 cc1 ee1 a2 k2 x2 x3 x4 a5 k5 x5 cc5 bb5 pre5 post5 r hG s0 oo1 s2 vva5 oo5 h; exact absurd h (by unfold ref19_place_R; simp)
  | succ n ih =>
    intro Fs G a0 k0 x0 a1 k1 x1 cc1 ee1 a2 k2 x2 x3 x4 a5 k5 x5 cc5 bb5 pre5 post5 r hG s0 oo1 s2 vva5 oo5 h
    unfold ref19_place_R at h
    unfold ref19_place_B3 at h
    try dsimp only at h
    refine RetS.of (vs := [_, _, _, _, _, _]) Try.func58 rfl Try.ntmps58 [(0, _), (1, _), (2, _), (3, _), (4, _), (5, _)] ⟨rfl, rfl, rfl, rfl, rfl, rfl, trivial⟩ rfl hG fun w0 S0 hS0 B0 => ?_
    refine Cov.seq ?_
    refine Cov.region rfl ?_
    refine Cov.q .ro (.assign rfl) rfl ?_
    refine Cov.region_end ?_
    refine Cov.seq ?_
    refine Cov.seq ?_
    refine Cov.region rfl ?_
    refine Cov.q .ro (.move rfl) rfl ?_
    refine Cov.q .ro (.move rfl) rfl ?_
    obtain ⟨u4, hu4, r5⟩ := bind_some h; clear h
    obtain ⟨c6, p7, h8⟩ := SlR.get s0 hu4
    obtain ⟨a9, k10, rfl, s11⟩ := h8
    refine Cov.q .ro (.idxR s0 rfl rfl hu4 sl54 ty22.sz) rfl ?_
    refine Cov.q .ro (.load_rp p7 List.mem_cons_self rfl ty22 rfl) rfl ?_
    refine Cov.q .ro (.len_sl rfl rfl sl22) rfl ?_
    refine Cov.q .ro (.move rfl) rfl ?_
    refine Cov.region_end ?_
    refine Cov.block ?_
    refine Cov.pullS 2 rfl [_, _, _] rfl ?_
    refine Cov.loop2 (α := Nat × List Int × List Bool × List Value) (fun y => [(5, .slice a5 y.2.2.1.length k5), (22, .int .i64 (y.1 : Int))]) [(0, _), (1, _), (2, _), (3, _), (4, _), (20, _), (21, _)] (fun y => []) (fun y => []) [] (fun y => [.g (viewG bb5 4 pre5 y.2.2.2 post5)]) [_, _] (fun y => OL Rep.bool G y.2.2.2 y.2.2.1 ∧ VA a5 bb5 y.2.2.1.length k5 pre5 y.2.2.2 ∧ y.2.2.1.length = x5.length ∧ List.drop y.1 u4 = y.2.1 ∧ ref19_place_L2 (ref19_place_R n) x0 x2 x3 x4 x1 y.2.1 y.2.2.1 = some r) (fun y => y.2.1.length) (0, u4, x5, cc5) ⟨oo5, vva5, rfl, rfl, r5⟩ ⟨rfl, rfl, rfl, rfl, rfl, rfl, rfl, rfl, rfl, trivial⟩ rfl rfl rfl (fun y hI hb238 => ?_)
    obtain ⟨i228, w229, v231, cs232⟩ := y
    obtain ⟨o233, va234, hl235, g230, r237⟩ := hI
    try dsimp only at o233 va234 hl235 g230 r237
    refine Cov.prune [(5, .slice a5 v231.length k5), (22, .int .i64 (i228 : Int)), (0, _), (1, _), (2, _), (3, _), (4, _), (20, _), (21, _)] ⟨rfl, rfl, rfl, rfl, rfl, rfl, rfl, rfl, rfl, trivial⟩ ?_
    refine Cov.same (bl' := []) (sl' := [.g (viewG bb5 4 pre5 cs232 post5), _, _]) (Fs' := G :: Fs) rfl rfl rfl ?_
    cases w229 with
    | nil =>
      rw [ref19_place_L2] at r237; try dsimp only at r237
      refine Cov.seq ?_
      refine Cov.region rfl ?_
      refine Cov.q .ro (.lss rfl rfl) rfl ?_
      refine Cov.region_end ?_
      refine Cov.seq ?_
      refine Cov.cond_dec rfl (fun c => absurd c (drop_nil g230)) (fun _ => ?_)
      refine Cov.exit rfl ?_
      refine Cov.seq ?_
      refine Cov.region rfl ?_
      refine Cov.q .ro (.assign rfl) rfl ?_
      refine Cov.region_end ?_
      cases r237
      refine Cov.pullS 2 rfl [_, _, _] rfl ?_
      refine Cov.pullS 2 rfl [_, _, _] rfl ?_
      refine Cov.retS (c := ⟨58, none⟩) (.inr ⟨_, rfl⟩) [.tmp 12] [_] rfl Try.func58 Try.results58 ⟨RV.tmp rfl, trivial⟩ (fun _ h => List.mem_cons_of_mem _ h) (.inl ⟨rfl, ⟨cs232, rfl, rfl, rfl, o233, hl235⟩⟩)
    | cons x247 xs248 =>
      have r246 : ref19_place_B2 (ref19_place_R n) x0 x2 x3 x4 x1 (ref19_place_L2 (ref19_place_R n) x0 x2 x3 x4 x1 xs248) x247 v231 = some r := r237; clear r237; unfold ref19_place_B2 at r246; try dsimp only at r246
      refine Cov.seq ?_
      refine Cov.region rfl ?_
      refine Cov.q .ro (.lss rfl rfl) rfl ?_
      refine Cov.region_end ?_
      refine Cov.seq ?_
      refine Cov.cond_dec rfl (fun _ => ?_) (fun c => absurd (drop_lt g230) c)
      refine Cov.skip ?_
      refine Cov.seq ?_
      refine Cov.block ?_
      refine Cov.seq ?_
      refine Cov.region rfl ?_
      obtain ⟨c249, p250, h251⟩ := SlR.get s11 (drop_idx g230)
      obtain rfl := h251
      refine Cov.q .ro (.idxR s11 rfl rfl (drop_idx g230) sl22 ty3.sz) rfl ?_
      refine Cov.q .ro (.load_rp p250 List.mem_cons_self rfl ty3 rfl) rfl ?_
      refine Cov.q .ro (.assign rfl) rfl ?_
      refine Cov.region_end ?_
      refine Cov.seq ?_
      refine Cov.seq ?_
      refine Cov.region rfl ?_
      refine Cov.q .ro (.move rfl) rfl ?_
      refine Cov.q .ro (.move rfl) rfl ?_
      obtain ⟨u252, hu252, r253⟩ := bind_some r246; clear r246
      obtain ⟨c254, p255, h256⟩ := OL.get o233 hu252
      obtain rfl := h256
      refine Cov.q .ro (.idxV 0 rfl va234 o233 rfl rfl hu252 sl49 ty4.sz rfl rfl) rfl ?_
      refine Cov.q .ro (.loadV 0 0 rfl va234 o233 rfl rfl hu252 p255 rfl (.inl ⟨rfl, rfl⟩) ty4 rfl) rfl ?_
      refine Cov.region_end ?_
      refine Cov.cond rfl (fun c257 => ?_) (fun c257 => ?_)
      · have r258 := ifT r253 c257; clear r253
        refine Cov.exit rfl ?_
        refine Cov.region rfl ?_
        refine Cov.q .ro (.addw rfl rfl) rfl ?_
        refine Cov.q .ro (.move rfl) rfl ?_
        refine Cov.region_end ?_
        refine Cov.prune _ ?_ (Cov.same rfl rfl rfl (hb238 ((i228 + 1), xs248, v231, cs232) ⟨o233, va234, hl235, (drop_succ g230), r258⟩ (Nat.lt_succ_self _)))
        exact ⟨rfl, (congrArg (fun z => some (Value.int .i64 z)) (idx_wrap (SlR.len s11) g230)), rfl, rfl, rfl, rfl, rfl, rfl, rfl, trivial⟩
      · have r259 := ifBF r253 c257; clear r253
        refine Cov.skip ?_
        refine Cov.seq ?_
        refine Cov.region rfl ?_
        refine Cov.q .ro (.move rfl) rfl ?_
        refine Cov.q .ro (.move rfl) rfl ?_
        obtain ⟨u260, hu260, r261⟩ := bind_some r259; clear r259
        obtain ⟨c262, p263, h264⟩ := OL.get o233 hu260
        obtain rfl := h264
        refine Cov.q .ro (.idxV 0 rfl va234 o233 rfl rfl hu260 sl49 ty4.sz rfl rfl) rfl ?_
        obtain ⟨u265, hu265, r266⟩ := bind_some r261; clear r261
        refine Cov.storeV 0 0 (Q := Rep.bool) .ro rfl va234 rfl rfl o233 hu265 rfl (.inl ⟨rfl, rfl⟩) rfl ty4 p263 ((Rep.boolI true) :) rfl rfl (fun cs267 hlcs267 o268 va269 => ?_)
        refine Cov.reval 5 hlcs267 rfl ?_
        refine Cov.reval 26 hlcs267 rfl ?_
        refine Cov.reval 30 hlcs267 rfl ?_
        refine Cov.region_end ?_
        refine Cov.seq ?_
        refine Cov.seq ?_
        refine Cov.drawL (.q 0 (.q 1 (.q 5 (.q 6 (.q 7 (.q 8 (.q 10 (.e 2 1 (.e 3 1 (.q 4 (.q 9 (.q 11 .nil)))))))))))) [] (by kernel_rfl) (by kernel_rfl) (pick_mem [] rfl) ?_
        refine Cov.dq (.move rfl) rfl ?_
        refine Cov.dq (.move rfl) rfl ?_
        refine Cov.dq (.move rfl) rfl ?_
        refine Cov.dq (.move rfl) rfl ?_
        obtain ⟨u271, hu271, r272⟩ := bind_some r266; clear r266
        obtain ⟨c273, p274, h275⟩ := SlR.get s2 hu271
        obtain rfl := h275
        refine Cov.dq (.idxR s2 rfl rfl hu271 sl22 ty3.sz) rfl ?_
        refine Cov.dq (.load_rp p274 List.mem_cons_self rfl ty3 rfl) rfl ?_
        refine Cov.dq (.move rfl) rfl ?_
        obtain ⟨u276, hu276, r277⟩ := bind_some r272; clear r272
        obtain ⟨e278, he279, hn280, ho281, p282⟩ := NL.get oo1 hu276
        refine Cov.q .d1 (.idxO 1 rfl rfl rfl hu276 sl54 ty22.sz) rfl ?_
        refine Cov.clsL (HpLe.refl _) (pick_mem [] rfl) ?_
        refine Cov.q .d1 (.loadO 1 0 rfl hu276 p282 rfl (.inl ⟨rfl, rfl⟩) ty22 rfl) rfl ?_
        refine Cov.clsL (HpLe.refl _) (pick_mem [] rfl) ?_
        refine Cov.dq (.len_sl rfl rfl sl22) rfl ?_
        refine Cov.dq (.addw rfl rfl) rfl ?_
        refine Cov.dq (.lss rfl rfl) rfl ?_
        refine Cov.draw_end ?_
        refine Cov.prune [(5, _), (22, _), (0, _), (1, _), (2, _), (3, _), (4, _), (20, _), (21, _), (14, _), (44, _)] ⟨rfl, rfl, rfl, rfl, rfl, rfl, rfl, rfl, rfl, rfl, rfl, trivial⟩ ?_
        refine Cov.cond_dec rfl (fun c283 => ?_) (fun c283 => ?_)
        · have r284 := ifT r277 c283; clear r277
          refine Cov.seq ?_
          refine Cov.region rfl ?_
          refine Cov.q .ro (.move rfl) rfl ?_
          refine Cov.q .ro (.move rfl) rfl ?_
          refine Cov.q .ro (.move rfl) rfl ?_
          refine Cov.q .ro (.move rfl) rfl ?_
          obtain ⟨u285, hu285, r286⟩ := bind_some r284; clear r284
          obtain ⟨e287, he288, hn289, ho290, p291⟩ := NL.get oo1 hu285
          refine Cov.q .ro (.idxO 1 rfl rfl rfl hu285 sl54 ty22.sz) rfl ?_
          refine Cov.q .ro (.loadO 1 0 rfl hu285 p291 rfl (.inl ⟨rfl, rfl⟩) ty22 rfl) rfl ?_
          refine Cov.q .ro (.move rfl) rfl ?_
          refine Cov.lit [_] [(0, _)] .ro sl22 ty3 rfl rfl rfl rfl rfl rfl (fun b292 hb292 => ?_)
          have o293 : OL (Rep.int .i64) G [.int .i64 x4] ([x4] : List Int) := ((OL.cons rfl (Rep.intI .i64 x4) (OL.nil (Rp' := (Rep.int .i64)))) :)
          refine Cov.reval 52 (n' := ([x4] : List Int).length) rfl rfl ?_
          refine Cov.freezeR 0 rfl rfl o293 [_, _, _] rfl B0 (fun G295 e296 B297 s298 => ?_)
          refine Cov.takeN 2 rfl he288 hn289 ?_
          obtain ⟨u305, hu305, r306⟩ := bind_some r286; clear r286
          refine Cov.appR (Q := (Rep.int .i64)) 0 .ro sl22 ty3 rfl rfl rfl rfl rfl (OL.mono e296 ho290) rfl rfl s298 rfl List.mem_cons_self hu305 rfl (fun a301 k302 cs303 o304 => ?_)
          obtain ⟨u308, hu308, r309⟩ := bind_some r306; clear r306
          obtain ⟨e310, he311, hn312, ho313, p314⟩ := NL.get (NL.mono e296 oo1) hu308
          refine Cov.q .ro (.idxO 2 rfl rfl rfl hu308 sl54 ty22.sz) rfl ?_
          obtain ⟨u315, hu315, r316⟩ := bind_some r309; clear r309
          refine Cov.storeN 1 2 (Q := (Rep.int .i64)) .ro rfl rfl rfl (NL.mono e296 oo1) he288 o304 hu315 rfl (.inl ⟨rfl, rfl⟩) rfl ty22 rfl (fun es317 cs318 hlcs318 o319 => ?_)
          refine Cov.reval 1 hlcs318 rfl ?_
          refine Cov.reval 45 hlcs318 rfl ?_
          refine Cov.reval 47 hlcs318 rfl ?_
          refine Cov.region_end ?_
          refine Cov.prune [] trivial ?_
          refine Cov.seq ?_
          refine Cov.region rfl ?_
          refine Cov.q .ro (.assign rfl) rfl ?_
          refine Cov.region_end ?_
          cases r316
          refine Cov.pullS 2 rfl [_, _, _] rfl ?_
          refine Cov.pullS 2 rfl [_, _, _] rfl ?_
          refine Cov.retS (c := ⟨58, none⟩) (.inr ⟨_, rfl⟩) [.tmp 12] [_] rfl Try.func58 Try.results58 ⟨RV.tmp rfl, trivial⟩ (fun _ h => List.mem_cons_of_mem _ h) (.inr ⟨rfl, ⟨es317, cs318, cs267, rfl, rfl, rfl, (NL.flat (Rep.flat_int _) o319), hlcs318, (OL.flat Rep.flat_bool (OL.mono e296 o268)), (hlcs267.trans hl235)⟩⟩)
        · have r321 := ifF r277 c283; clear r277
          refine Cov.skip ?_
          refine Cov.seq ?_
          refine Cov.region rfl ?_
          refine Cov.q .ro (.move rfl) rfl ?_
          refine Cov.q .ro (.move rfl) rfl ?_
          obtain ⟨u322, hu322, r323⟩ := bind_some r321; clear r321
          obtain ⟨e324, he325, hn326, ho327, p328⟩ := NL.get oo1 hu322
          refine Cov.q .ro (.idxO 1 rfl rfl rfl hu322 sl54 ty22.sz) rfl ?_
          refine Cov.q .ro (.loadO 1 0 rfl hu322 p328 rfl (.inl ⟨rfl, rfl⟩) ty22 rfl) rfl ?_
          refine Cov.q .ro (.len_sl rfl rfl sl22) rfl ?_
          refine Cov.q .ro (.move rfl) rfl ?_
          refine Cov.region_end ?_
          refine Cov.block ?_
          refine Cov.loop2 (α := Nat × List Int × List Bool × List Value) (fun y => [(5, .slice a5 y.2.2.1.length k5), (60, .int .i64 (y.1 : Int))]) [(22, _), (0, _), (1, _), (2, _), (3, _), (4, _), (20, _), (21, _), (14, _), (58, _), (59, _)] (fun y => []) (fun y => []) [] (fun y => [.g (viewG bb5 4 pre5 y.2.2.2 post5)]) [_, _] (fun y => OL Rep.bool G y.2.2.2 y.2.2.1 ∧ VA a5 bb5 y.2.2.1.length k5 pre5 y.2.2.2 ∧ y.2.2.1.length = x5.length ∧ List.drop y.1 u322 = y.2.1 ∧ ref19_place_L1 (ref19_place_L2 (ref19_place_R n) x0 x2 x3 x4 x1 xs248) (ref19_place_R n) x0 x2 x3 x4 x247 x1 y.2.1 y.1 y.2.2.1 = some r) (fun y => y.2.1.length) (0, u322, u265, cs267) ⟨o268, va269, (hlcs267.trans hl235), rfl, r323⟩ ⟨rfl, rfl, rfl, rfl, rfl, rfl, rfl, rfl, rfl, rfl, rfl, rfl, rfl, trivial⟩ rfl rfl rfl (fun y hI hb395 => ?_)
          obtain ⟨i385, w386, v388, cs389⟩ := y
          obtain ⟨o390, va391, hl392, g387, r394⟩ := hI
          try dsimp only at o390 va391 hl392 g387 r394
          refine Cov.prune [(5, .slice a5 v388.length k5), (60, .int .i64 (i385 : Int)), (22, _), (0, _), (1, _), (2, _), (3, _), (4, _), (20, _), (21, _), (14, _), (58, _), (59, _)] ⟨rfl, rfl, rfl, rfl, rfl, rfl, rfl, rfl, rfl, rfl, rfl, rfl, rfl, trivial⟩ ?_
          refine Cov.same (bl' := []) (sl' := [.g (viewG bb5 4 pre5 cs389 post5), _, _]) (Fs' := G :: Fs) rfl rfl rfl ?_
          cases w386 with
          | nil =>
            rw [ref19_place_L1] at r394; try dsimp only at r394
            refine Cov.seq ?_
            refine Cov.region rfl ?_
            refine Cov.q .ro (.lss rfl rfl) rfl ?_
            refine Cov.region_end ?_
            refine Cov.seq ?_
            refine Cov.cond_dec rfl (fun c => absurd c (drop_nil g387)) (fun _ => ?_)
            refine Cov.exit rfl ?_
            refine Cov.inBlock ?_
            refine Cov.region rfl ?_
            refine Cov.q .ro (.addw rfl rfl) rfl ?_
            refine Cov.q .ro (.move rfl) rfl ?_
            refine Cov.region_end ?_
            refine Cov.prune _ ?_ (Cov.same rfl rfl rfl (hb238 ((i228 + 1), xs248, v388, cs389) ⟨o390, va391, hl392, (drop_succ g230), r394⟩ (Nat.lt_succ_self _)))
            exact ⟨rfl, (congrArg (fun z => some (Value.int .i64 z)) (idx_wrap (SlR.len s11) g230)), rfl, rfl, rfl, rfl, rfl, rfl, rfl, trivial⟩
          | cons x408 xs409 =>
            have r407 : ref19_place_B1 (ref19_place_L2 (ref19_place_R n) x0 x2 x3 x4 x1 xs248) (ref19_place_R n) x0 x2 x3 x4 x247 x1 (ref19_place_L1 (ref19_place_L2 (ref19_place_R n) x0 x2 x3 x4 x1 xs248) (ref19_place_R n) x0 x2 x3 x4 x247 x1 xs409 (i385 + 1)) x408 i385 v388 = some r := r394; clear r394; unfold ref19_place_B1 at r407; try dsimp only at r407
            refine Cov.seq ?_
            refine Cov.region rfl ?_
            refine Cov.q .ro (.lss rfl rfl) rfl ?_
            refine Cov.region_end ?_
            refine Cov.seq ?_
            refine Cov.cond_dec rfl (fun _ => ?_) (fun c => absurd (drop_lt g387) c)
            refine Cov.skip ?_
            refine Cov.seq ?_
            refine Cov.block ?_
            refine Cov.seq ?_
            refine Cov.region rfl ?_
            refine Cov.q .ro (.move rfl) rfl ?_
            obtain ⟨c410, p411, h412⟩ := OL.get ho327 (drop_idx g387)
            obtain rfl := h412
            refine Cov.q .ro (.inN 2 rfl he325 hn326 (.idxO (l := u322) 0 rfl rfl rfl (drop_idx g387) sl22 ty3.sz)) rfl ?_
            refine Cov.q .ro (.inN 2 rfl he325 hn326 (.loadO (l := u322) 0 0 rfl (drop_idx g387) p411 rfl (.inl ⟨rfl, rfl⟩) ty3 rfl)) rfl ?_
            refine Cov.q .ro (.assign rfl) rfl ?_
            refine Cov.q .ro (.assign rfl) rfl ?_
            refine Cov.region_end ?_
            refine Cov.seq ?_
            refine Cov.region rfl ?_
            refine Cov.q .ro (.move rfl) rfl ?_
            refine Cov.q .ro (.move rfl) rfl ?_
            refine Cov.q .ro (.move rfl) rfl ?_
            refine Cov.q .ro (.move rfl) rfl ?_
            refine Cov.q .ro (.move rfl) rfl ?_
            refine Cov.q .ro (.move rfl) rfl ?_
            obtain ⟨u413, hu413, r414⟩ := bind_some r407; clear r407
            refine Cov.pullS 2 rfl [_, _, _] rfl ?_
            refine Cov.pullS 2 rfl [_, _, _] rfl ?_
            refine Cov.callS (b1 := []) (b2 := []) (s1 := [_, _, _]) [_, _, _, _, _, _] [] .ro rfl rfl Try.call58 rfl rfl (ih (G := G) List.mem_cons_self s0 oo1 s2 va391 o390 hu413) rfl (fun v416 bo so h415 => ?_)
            rcases h415 with ⟨hb417, h415⟩ | ⟨hb417, h415⟩
            · have r418 := ifBF r414 hb417
              obtain ⟨cs419, rfl, rfl, rfl, o420, hl421⟩ := h415
              refine Cov.same (bl' := []) (sl' := [_, _, _]) rfl rfl rfl ?_
              have va423 := VA.call va391 o390 o420 hl421
              refine Cov.reval 5 hl421 rfl ?_
              refine Cov.reval 70 hl421 rfl ?_
              refine Cov.region_end ?_
              refine Cov.cond_false rfl ?_
              refine Cov.skip ?_
              refine Cov.inBlock ?_
              refine Cov.region rfl ?_
              refine Cov.q .ro (.addw rfl rfl) rfl ?_
              refine Cov.q .ro (.move rfl) rfl ?_
              refine Cov.region_end ?_
              refine Cov.prune [(5, _), (60, _), (22, _), (0, _), (1, _), (2, _), (3, _), (4, _), (20, _), (21, _), (14, _), (58, _), (59, _)] ⟨rfl, rfl, rfl, rfl, rfl, rfl, rfl, rfl, rfl, rfl, rfl, rfl, rfl, trivial⟩ ?_
              refine Cov.pullS 1 rfl [_, _, _] rfl ?_
              refine Cov.pullS 1 rfl [_, _, _] rfl ?_
              refine Cov.pullS 2 rfl [_, _, _] rfl ?_
              refine Cov.prune _ ?_ (Cov.same rfl rfl rfl (hb395 ((i385 + 1), xs409, u413.2.2, cs419) ⟨o420, va423, (hl421.trans hl392), (drop_succ g387), r418⟩ (Nat.lt_succ_self _)))
              exact ⟨rfl, (congrArg (fun z => some (Value.int .i64 z)) (idx_wrap (OL.len' ho327) g387)), rfl, rfl, rfl, rfl, rfl, rfl, rfl, rfl, rfl, rfl, rfl, trivial⟩
            · have r424 := ifT r414 hb417
              obtain ⟨es428, cs425, cs429, rfl, rfl, rfl, o426, hl427, o430, hl431⟩ := h415
              refine Cov.same (bl' := []) (sl' := [_, _, _]) rfl rfl rfl ?_
              have va434 := VA.call va391 o390 o430 hl431
              refine Cov.reval 1 hl427 rfl ?_
              refine Cov.reval 66 hl427 rfl ?_
              refine Cov.reval 5 hl431 rfl ?_
              refine Cov.reval 70 hl431 rfl ?_
              refine Cov.region_end ?_
              refine Cov.cond_true rfl ?_
              refine Cov.seq ?_
              refine Cov.region rfl ?_
              refine Cov.q .ro (.move rfl) rfl ?_
              refine Cov.q .ro (.move rfl) rfl ?_
              obtain ⟨u435, hu435, r436⟩ := bind_some r424; clear r424
              obtain ⟨e437, he438, hn439, ho440, p441⟩ := NL.get o426 hu435
              refine Cov.q .ro (.idxO 0 rfl rfl rfl hu435 sl54 ty22.sz) rfl ?_
              refine Cov.q .ro (.loadO 0 0 rfl hu435 p441 rfl (.inl ⟨rfl, rfl⟩) ty22 rfl) rfl ?_
              refine Cov.q .ro (.move rfl) rfl ?_
              refine Cov.q .ro (.move rfl) rfl ?_
              obtain ⟨u442, hu442, r443⟩ := bind_some r436; clear r436
              obtain ⟨c444, p445, h446⟩ := OL.get ho440 hu442
              obtain rfl := h446
              refine Cov.q .ro (.inN 1 rfl he438 hn439 (.idxO (l := u435) 0 rfl rfl rfl hu442 sl22 ty3.sz)) rfl ?_
              refine Cov.takeN 1 rfl he438 hn439 ?_
              obtain ⟨u448, hu448, r449⟩ := bind_some r443; clear r443
              refine Cov.storeR 0 0 (Q := (Rep.int .i64)) .ro rfl rfl ho440 hu448 rfl (.inl ⟨rfl, rfl⟩) rfl ty3 p445 ((Rep.intI .i64 x4) :) rfl rfl (fun cs450 hlcs450 o451 => ?_)
              obtain ⟨u453, hu453, r454⟩ := bind_some r449; clear r449
              refine Cov.backN 0 1 rfl rfl rfl o426 he438 (Eq.trans hlcs450 hn439.symm) o451 hu453 (fun es455 hles455 o456 => ?_)
              refine Cov.reval 1 hles455 rfl ?_
              refine Cov.reval 66 hles455 rfl ?_
              refine Cov.reval 72 hles455 rfl ?_
              refine Cov.region_end ?_
              refine Cov.prune [] trivial ?_
              refine Cov.seq ?_
              refine Cov.region rfl ?_
              refine Cov.q .ro (.assign rfl) rfl ?_
              refine Cov.region_end ?_
              cases r454
              refine Cov.retS (c := ⟨58, none⟩) (.inr ⟨_, rfl⟩) [.tmp 12] [_] rfl Try.func58 Try.results58 ⟨RV.tmp rfl, trivial⟩ (fun _ h => List.mem_cons_of_mem _ h) (.inr ⟨rfl, ⟨es455, cs425, cs429, rfl, rfl, rfl, o456, (hles455.trans hl427), o430, (hl431.trans hl392)⟩⟩)
theorem ref19_place_c {Fs : List Hp} {G : Hp} {a0 : Option Addr} {k0 : Nat} {x0 : List (List Int)} {a1 : Option Addr} {k1 : Nat} {x1 : List (List Int)} {cc1 : List Value} {ee1 : List NE} {a2 : Option Addr} {k2 : Nat} {x2 : List Int} {x3 : Int} {x4 : Int} {a5 : Option Addr} {k5 : Nat} {x5 : List Bool} {cc5 : List Value} {bb5 : Option Nat} {pre5 post5 : List Value} {r : (Bool × (List (List Int)) × (List Bool))} (hG : G ∈ Fs) (s0 : SlR (Rep.sl (Rep.int .i64)) G a0 k0 x0) (oo1 : NL (Rep.int .i64) G ee1 cc1 x1) (s2 : SlR (Rep.int .i64) G a2 k2 x2) (vva5 : VA a5 bb5 x5.length k5 pre5 cc5) (oo5 : OL Rep.bool G cc5 x5) (h : ref19_place x0 x1 x2 x3 x4 x5 = some r) : RetS Try.prog 58 #[.slice a0 x0.length k0, .slice a1 x1.length k1, .slice a2 x2.length k2, .int .i64 x3, .int .i64 x4, .slice a5 x5.length k5] Fs [] [.s (.slice a1 x1.length k1) 22 1 x1.length cc1, .g (packG 3 1 ee1), .g (viewG bb5 4 pre5 cc5 post5)] (fun v bo so => (r.1 = false ∧ ∃ lc0 : List Value, v = .bool false ∧ bo = [] ∧ so = [.s (.slice a1 x1.length k1) 22 1 x1.length cc1, .g (packG 3 1 ee1), .g (viewG bb5 4 pre5 lc0 post5)] ∧ OL Rep.bool G lc0 r.2.2 ∧ r.2.2.length = x5.length) ∨ (r.1 = true ∧ ∃ le0 : List NE, ∃ lc0 : List Value, ∃ lc1 : List Value, v = .bool true ∧ bo = [] ∧ so = [.s (.slice a1 r.2.1.length k1) 22 1 r.2.1.length lc0, .g (packG 3 1 le0), .g (viewG bb5 4 pre5 lc1 post5)] ∧ NL (Rep.int .i64) G le0 lc0 r.2.1 ∧ r.2.1.length = x1.length ∧ OL Rep.bool G lc1 r.2.2 ∧ r.2.2.length = x5.length)) := by
  unfold ref19_place at h
  exact ref19_place_R_c big hG s0 oo1 s2 vva5 oo5 h

set_option maxHeartbeats 4000000 in
set_option maxRecDepth 100000 in
theorem ref19_Possible_c {Fs : List Hp} {G : Hp} {a0 : Option Addr} {k0 : Nat} {x0 : List (List Int)} {x1 : Int} {x2 : Int} {a3 : Option Addr} {k3 : Nat} {x3 : List Int} {r : Bool} (hG : G ∈ Fs) (s0 : SlR (Rep.sl (Rep.int .i64)) G a0 k0 x0) (s3 : SlR (Rep.int .i64) G a3 k3 x3) (h : ref19_Possible x0 x1 x2 x3 = some r) : RetS Try.prog 55 #[.slice a0 x0.length k0, .int .i64 x1, .int .i64 x2, .slice a3 x3.length k3] Fs [] [] (fun v bo so => v = .bool r ∧ bo = [] ∧ so = []) := by
  unfold ref19_Possible at h
  try dsimp only at h
  refine RetS.of (vs := [_, _, _, _]) Try.func55 rfl Try.ntmps55 [(0, _), (1, _), (2, _), (3, _)] ⟨rfl, rfl, rfl, rfl, trivial⟩ rfl hG fun w0 S0 hS0 B0 => ?_
  refine Cov.seq ?_
  refine Cov.region rfl ?_
  refine Cov.q .ro (.assign rfl) rfl ?_
  refine Cov.region_end ?_
  refine Cov.seq ?_
  refine Cov.region rfl ?_
  refine Cov.q .ro (.move rfl) rfl ?_
  obtain ⟨u1, hu1, r2⟩ := bind_some h; clear h
  refine Cov.makeN (G := G) (Q := (Rep.int .i64)) 3 1 .ro sl54 ty22 rfl rfl hu1 rfl rfl (fun b3 es4 cs5 hb3 o6 => ?_)
  refine Cov.q .ro (.assign rfl) rfl ?_
  refine Cov.region_end ?_
  refine Cov.seq ?_
  refine Cov.seq ?_
  refine Cov.region rfl ?_
  refine Cov.q .ro (.move rfl) rfl ?_
  refine Cov.q .ro (.len_sl rfl rfl sl54) rfl ?_
  refine Cov.q .ro (.move rfl) rfl ?_
  refine Cov.region_end ?_
  refine Cov.block ?_
  refine Cov.pullS 1 rfl [_, _] rfl ?_
  refine Cov.pullS 1 rfl [_, _] rfl ?_
  refine Cov.loop2 (α := Nat × List (List Int) × List (List Int) × List NE × List Value) (fun y => [(9, .slice (some ⟨b3, 0, none⟩) y.2.2.1.length u1.length), (16, .int .i64 (y.1 : Int))]) [(0, _), (1, _), (2, _), (3, _), (15, _)] (fun y => []) (fun y => []) [] (fun y => [.s (.slice (some ⟨b3, 0, none⟩) y.2.2.1.length u1.length) 22 1 y.2.2.1.length y.2.2.2.2, .g (packG 3 1 y.2.2.2.1)]) [] (fun y => NL (Rep.int .i64) G y.2.2.2.1 y.2.2.2.2 y.2.2.1 ∧ y.2.2.1.length = u1.length ∧ List.drop y.1 x0 = y.2.1 ∧ ref19_Possible_L1 x0 x1 x2 x3 y.2.1 y.1 y.2.2.1 = some r) (fun y => y.2.1.length) (0, x0, u1, es4, cs5) ⟨o6, rfl, rfl, r2⟩ ⟨rfl, rfl, rfl, rfl, rfl, rfl, rfl, trivial⟩ rfl rfl rfl (fun y hI hb56 => ?_)
  obtain ⟨i45, w46, v48, es49, cs50⟩ := y
  obtain ⟨o51, hl52, g47, r55⟩ := hI
  try dsimp only at o51 hl52 g47 r55
  refine Cov.prune [(9, .slice (some ⟨b3, 0, none⟩) v48.length u1.length), (16, .int .i64 (i45 : Int)), (0, _), (1, _), (2, _), (3, _), (15, _)] ⟨rfl, rfl, rfl, rfl, rfl, rfl, rfl, trivial⟩ ?_
  refine Cov.same (bl' := []) (sl' := [.s (.slice (some ⟨b3, 0, none⟩) v48.length u1.length) 22 1 v48.length cs50, .g (packG 3 1 es49)]) (Fs' := G :: Fs) rfl rfl rfl ?_
  cases w46 with
  | nil =>
    rw [ref19_Possible_L1] at r55; try dsimp only at r55
    refine Cov.seq ?_
    refine Cov.region rfl ?_
    refine Cov.q .ro (.lss rfl rfl) rfl ?_
    refine Cov.region_end ?_
    refine Cov.seq ?_
    refine Cov.cond_dec rfl (fun c => absurd c (drop_nil g47)) (fun _ => ?_)
    refine Cov.exit rfl ?_
    refine Cov.seq ?_
    refine Cov.region rfl ?_
    refine Cov.q .ro (.assign rfl) rfl ?_
    refine Cov.region_end ?_
    cases r55
    refine Cov.drop 0 2 _ [] rfl rfl ?_
    refine Cov.retS (c := ⟨55, none⟩) (.inr ⟨_, rfl⟩) [.tmp 8] [_] rfl Try.func55 Try.results55 ⟨RV.tmp rfl, trivial⟩ (fun _ h => List.mem_cons_of_mem _ h) ⟨rfl, rfl, rfl⟩
  | cons x63 xs64 =>
    have r62 : ref19_Possible_B1 x0 x1 x2 x3 (ref19_Possible_L1 x0 x1 x2 x3 xs64 (i45 + 1)) x63 i45 v48 = some r := r55; clear r55; unfold ref19_Possible_B1 at r62; try dsimp only at r62
    refine Cov.seq ?_
    refine Cov.region rfl ?_
    refine Cov.q .ro (.lss rfl rfl) rfl ?_
    refine Cov.region_end ?_
    refine Cov.seq ?_
    refine Cov.cond_dec rfl (fun _ => ?_) (fun c => absurd (drop_lt g47) c)
    refine Cov.skip ?_
    refine Cov.seq ?_
    refine Cov.block ?_
    refine Cov.seq ?_
    refine Cov.region rfl ?_
    refine Cov.q .ro (.move rfl) rfl ?_
    refine Cov.q .ro (.assign rfl) rfl ?_
    refine Cov.region_end ?_
    refine Cov.seq ?_
    refine Cov.region rfl ?_
    refine Cov.q .ro (.move rfl) rfl ?_
    obtain ⟨u65, hu65, r66⟩ := bind_some r62; clear r62
    refine Cov.makeR (G := G) (Q := Rep.bool) .ro sl49 ty4 rfl rfl rfl ((Rep.boolI false) :) rfl rfl hu65 rfl rfl (fun b67 cs68 hb67 o69 => ?_)
    refine Cov.q .ro (.assign rfl) rfl ?_
    refine Cov.region_end ?_
    refine Cov.seq ?_
    refine Cov.region rfl ?_
    refine Cov.q .ro (.move rfl) rfl ?_
    refine Cov.q .ro (.move rfl) rfl ?_
    refine Cov.q .ro (.move rfl) rfl ?_
    refine Cov.q .ro (.move rfl) rfl ?_
    refine Cov.q .ro (.move rfl) rfl ?_
    refine Cov.q .ro (.move rfl) rfl ?_
    refine Cov.toV 0 rfl (fun vb71 po72 va73 vb74 => ?_)
    obtain ⟨u75, hu75, r76⟩ := bind_some r66; clear r66
    refine Cov.pullS 2 rfl [_, _, _] rfl ?_
    refine Cov.pullS 2 rfl [_, _, _] rfl ?_
    refine Cov.callS (b1 := []) (b2 := []) (s1 := [_, _, _]) [_, _, _, _, _, _] [] .ro rfl rfl Try.call58 rfl rfl (ref19_place_c (G := G) List.mem_cons_self s0 o51 s3 va73 o69 hu75) rfl (fun v78 bo so h77 => ?_)
    rcases h77 with ⟨hb79, h77⟩ | ⟨hb79, h77⟩
    · have r80 := ifBF r76 hb79
      obtain ⟨cs81, rfl, rfl, rfl, o82, hl83⟩ := h77
      refine Cov.same (bl' := []) (sl' := [_, _, _]) rfl rfl rfl ?_
      refine Cov.ofV 2 rfl vb74 hl83 o82 rfl ?_
      refine Cov.reval 20 hl83 rfl ?_
      refine Cov.reval 11 hl83 rfl ?_
      refine Cov.reval 26 hl83 rfl ?_
      refine Cov.q .ro (.not_f rfl) rfl ?_
      refine Cov.region_end ?_
      refine Cov.prune [(9, _), (16, _), (0, _), (1, _), (2, _), (3, _), (15, _), (28, _)] ⟨rfl, rfl, rfl, rfl, rfl, rfl, rfl, rfl, trivial⟩ ?_
      refine Cov.cond_true rfl ?_
      refine Cov.seq ?_
      refine Cov.region rfl ?_
      refine Cov.q .ro (.assign rfl) rfl ?_
      refine Cov.region_end ?_
      cases r80
      refine Cov.drop 0 3 _ [] rfl rfl ?_
      refine Cov.retS (c := ⟨55, none⟩) (.inr ⟨_, rfl⟩) [.tmp 8] [_] rfl Try.func55 Try.results55 ⟨RV.tmp rfl, trivial⟩ (fun _ h => List.mem_cons_of_mem _ h) ⟨rfl, rfl, rfl⟩
    · have r85 := ifT r76 hb79
      obtain ⟨es89, cs86, cs90, rfl, rfl, rfl, o87, hl88, o91, hl92⟩ := h77
      refine Cov.same (bl' := []) (sl' := [_, _, _]) rfl rfl rfl ?_
      refine Cov.ofV 2 rfl vb74 hl92 o91 rfl ?_
      refine Cov.reval 9 hl88 rfl ?_
      refine Cov.reval 22 hl88 rfl ?_
      refine Cov.reval 20 hl92 rfl ?_
      refine Cov.reval 11 hl92 rfl ?_
      refine Cov.reval 26 hl92 rfl ?_
      refine Cov.q .ro (.not_t rfl) rfl ?_
      refine Cov.region_end ?_
      refine Cov.prune [(9, _), (16, _), (0, _), (1, _), (2, _), (3, _), (15, _), (28, _)] ⟨rfl, rfl, rfl, rfl, rfl, rfl, rfl, rfl, trivial⟩ ?_
      refine Cov.cond_false rfl ?_
      refine Cov.skip ?_
      refine Cov.inBlock ?_
      refine Cov.region rfl ?_
      refine Cov.q .ro (.addw rfl rfl) rfl ?_
      refine Cov.q .ro (.move rfl) rfl ?_
      refine Cov.region_end ?_
      refine Cov.pullS 1 rfl [_, _, _] rfl ?_
      refine Cov.pullS 1 rfl [_, _, _] rfl ?_
      refine Cov.pullS 2 rfl [_, _, _] rfl ?_
      refine Cov.drop 0 1 _ [_, _] rfl rfl ?_
      refine Cov.prune _ ?_ (Cov.same rfl rfl rfl (hb56 ((i45 + 1), xs64, u75.2.1, es89, cs86) ⟨o87, (hl88.trans hl52), (drop_succ g47), r85⟩ (Nat.lt_succ_self _)))
      exact ⟨rfl, (congrArg (fun z => some (Value.int .i64 z)) (idx_wrap (SlR.len s0) g47)), rfl, rfl, rfl, rfl, rfl, trivial⟩

set_option maxHeartbeats 4000000 in
set_option maxRecDepth 100000 in
theorem ref19_First_c {Fs : List Hp} {G : Hp} {a0 : Option Addr} {k0 : Nat} {x0 : List (List Int)} {x1 : Int} {x2 : Int} {r : ((List Int) × Bool)} (hG : G ∈ Fs) (s0 : SlR (Rep.sl (Rep.int .i64)) G a0 k0 x0) (h : ref19_First x0 x1 x2 = some r) : RetS Try.prog 48 #[.slice a0 x0.length k0, .int .i64 x1, .int .i64 x2] Fs [] [] (fun v bo so => ∃ (oa0 : Option Addr) (ok0 : Nat) (oc0 : List Value), v = .tuple #[.slice oa0 r.1.length ok0, .bool r.2] ∧ bo = [] ∧ so = [.s (.slice oa0 r.1.length ok0) 3 1 r.1.length oc0] ∧ OL (Rep.int .i64) G oc0 r.1) := by
  unfold ref19_First at h
  try dsimp only at h
  refine RetS.of (vs := [_, _, _]) Try.func48 rfl Try.ntmps48 [(0, _), (1, _), (2, _)] ⟨rfl, rfl, rfl, trivial⟩ rfl hG fun w0 S0 hS0 B0 => ?_
  refine Cov.seq ?_
  refine Cov.region rfl ?_
  refine Cov.q .ro (.assign rfl) rfl ?_
  refine Cov.q .ro (.assign rfl) rfl ?_
  refine Cov.region_end ?_
  refine Cov.seq ?_
  refine Cov.region rfl ?_
  refine Cov.q .ro (.move rfl) rfl ?_
  obtain ⟨u1, hu1, r2⟩ := bind_some h; clear h
  refine Cov.makeR (G := G) (Q := (Rep.int .i64)) .ro sl22 ty3 rfl rfl rfl ((Rep.intI .i64 0) :) rfl rfl hu1 rfl rfl (fun b3 cs4 hb3 o5 => ?_)
  refine Cov.q .ro (.assign rfl) rfl ?_
  refine Cov.region_end ?_
  refine Cov.seq ?_
  refine Cov.seq ?_
  refine Cov.region rfl ?_
  refine Cov.q .ro (.move rfl) rfl ?_
  refine Cov.q .ro (.move rfl) rfl ?_
  refine Cov.q .ro (.move rfl) rfl ?_
  refine Cov.q .ro (.move rfl) rfl ?_
  obtain ⟨u7, hu7, r8⟩ := bind_some r2; clear r2
  refine Cov.callB (Q := fun v bo so => v = .bool u7 ∧ bo = [] ∧ so = []) (b1 := []) (b2 := []) (s1 := []) (sB := [_]) (s2 := []) [_, _, _, _] [] .ro rfl rfl Try.call55 rfl rfl (fun Fs' G' hle hB hm => (ref19_Possible_c (G := G') hm (SlR.mono hle s0) (SlR.rd o5 rfl hle (hB _ (List.mem_of_getElem? (i := 0) rfl))) hu7)) rfl (fun v10 bo so h9 => ?_)
  obtain ⟨rfl, rfl, rfl⟩ := h9
  refine Cov.same (bl' := []) (sl' := [_]) rfl rfl rfl ?_
  refine Cov.q .ro (.not rfl) rfl ?_
  refine Cov.region_end ?_
  refine Cov.cond rfl (fun c11 => ?_) (fun c11 => ?_)
  · have r12 := ifT r8 c11; clear r8
    refine Cov.seq ?_
    refine Cov.region rfl ?_
    refine Cov.q .ro (.assign rfl) rfl ?_
    refine Cov.q .ro (.assign rfl) rfl ?_
    refine Cov.region_end ?_
    refine Cov.own_nil 3 1 ?_
    cases r12
    refine Cov.pullS 1 rfl [_, _] rfl ?_
    refine Cov.drop 0 1 _ [_] rfl rfl ?_
    refine Cov.retS (c := ⟨48, none⟩) (.inr ⟨_, rfl⟩) [.tmp 6, .tmp 7] [_, _] rfl Try.func48 Try.results48 ⟨RV.tmp rfl, RV.tmp rfl, trivial⟩ (fun _ h => List.mem_cons_of_mem _ h) ⟨none, 0, [], rfl, rfl, rfl, (OL.nil (Rp' := (Rep.int .i64)))⟩
  · have r14 := ifBF r8 c11; clear r8
    refine Cov.skip ?_
    refine Cov.seq ?_
    refine Cov.region rfl ?_
    refine Cov.q .ro (.assign rfl) rfl ?_
    refine Cov.region_end ?_
    refine Cov.seq ?_
    refine Cov.seq ?_
    refine Cov.region rfl ?_
    refine Cov.q .ro (.move rfl) rfl ?_
    refine Cov.q .ro (.len_sl rfl rfl sl54) rfl ?_
    refine Cov.q .ro (.move rfl) rfl ?_
    refine Cov.region_end ?_
    refine Cov.block ?_
    refine Cov.own_nil 3 1 ?_
    refine Cov.pullS 1 rfl [_, _] rfl ?_
    refine Cov.pullS 1 rfl [_, _] rfl ?_
    refine Cov.loop2 (α := Nat × List (List Int) × List Int × Option Addr × Nat × List Value × List Int × Option Addr × Nat × List Value) (fun y => [(9, .slice y.2.2.2.1 y.2.2.1.length y.2.2.2.2.1), (8, .slice y.2.2.2.2.2.2.2.1 y.2.2.2.2.2.2.1.length y.2.2.2.2.2.2.2.2.1), (24, .int .i64 (y.1 : Int))]) [(0, _), (1, _), (2, _), (22, _), (23, _)] (fun y => []) (fun y => []) [] (fun y => [.s (.slice y.2.2.2.1 y.2.2.1.length y.2.2.2.2.1) 3 1 y.2.2.1.length y.2.2.2.2.2.1, .s (.slice y.2.2.2.2.2.2.2.1 y.2.2.2.2.2.2.1.length y.2.2.2.2.2.2.2.2.1) 3 1 y.2.2.2.2.2.2.1.length y.2.2.2.2.2.2.2.2.2]) [] (fun y => OL (Rep.int .i64) G y.2.2.2.2.2.1 y.2.2.1 ∧ OL (Rep.int .i64) G y.2.2.2.2.2.2.2.2.2 y.2.2.2.2.2.2.1 ∧ List.drop y.1 x0 = y.2.1 ∧ ref19_First_L2 x0 x1 x2 y.2.1 y.1 y.2.2.1 y.2.2.2.2.2.2.1 = some r) (fun y => y.2.1.length) (0, x0, ([] : List Int), none, 0, [], u1, (some ⟨b3, 0, none⟩), u1.length, cs4) ⟨(OL.nil (Rp' := (Rep.int .i64))), o5, rfl, r14⟩ ⟨rfl, rfl, rfl, rfl, rfl, rfl, rfl, rfl, trivial⟩ rfl rfl rfl (fun y hI hb381 => ?_)
    obtain ⟨i365, w366, v368, a369, k370, cs371, v374, a375, k376, cs377⟩ := y
    obtain ⟨o372, o378, g367, r380⟩ := hI
    try dsimp only at o372 o378 g367 r380
    refine Cov.prune [(9, .slice a369 v368.length k370), (8, .slice a375 v374.length k376), (24, .int .i64 (i365 : Int)), (0, _), (1, _), (2, _), (22, _), (23, _)] ⟨rfl, rfl, rfl, rfl, rfl, rfl, rfl, rfl, trivial⟩ ?_
    refine Cov.same (bl' := []) (sl' := [.s (.slice a369 v368.length k370) 3 1 v368.length cs371, .s (.slice a375 v374.length k376) 3 1 v374.length cs377]) (Fs' := G :: Fs) rfl rfl rfl ?_
    cases w366 with
    | nil =>
      rw [ref19_First_L2] at r380; try dsimp only at r380
      refine Cov.seq ?_
      refine Cov.region rfl ?_
      refine Cov.q .ro (.lss rfl rfl) rfl ?_
      refine Cov.region_end ?_
      refine Cov.seq ?_
      refine Cov.cond_dec rfl (fun c => absurd c (drop_nil g367)) (fun _ => ?_)
      refine Cov.exit rfl ?_
      refine Cov.seq ?_
      refine Cov.region rfl ?_
      refine Cov.q .ro (.move rfl) rfl ?_
      refine Cov.q .ro (.assign rfl) rfl ?_
      refine Cov.q .ro (.assign rfl) rfl ?_
      refine Cov.region_end ?_
      cases r380
      refine Cov.pullS 1 rfl [_, _] rfl ?_
      refine Cov.drop 0 1 _ [_] rfl rfl ?_
      refine Cov.retS (c := ⟨48, none⟩) (.inr ⟨_, rfl⟩) [.tmp 6, .tmp 7] [_, _] rfl Try.func48 Try.results48 ⟨RV.tmp rfl, RV.tmp rfl, trivial⟩ (fun _ h => List.mem_cons_of_mem _ h) ⟨a369, k370, cs371, rfl, rfl, rfl, o372⟩
    | cons x387 xs388 =>
      have r386 : ref19_First_B2 x0 x1 x2 (ref19_First_L2 x0 x1 x2 xs388 (i365 + 1)) x387 i365 v368 v374 = some r := r380; clear r380; unfold ref19_First_B2 at r386; try dsimp only at r386
      refine Cov.seq ?_
      refine Cov.region rfl ?_
      refine Cov.q .ro (.lss rfl rfl) rfl ?_
      refine Cov.region_end ?_
      refine Cov.seq ?_
      refine Cov.cond_dec rfl (fun _ => ?_) (fun c => absurd (drop_lt g367) c)
      refine Cov.skip ?_
      refine Cov.seq ?_
      refine Cov.block ?_
      refine Cov.seq ?_
      refine Cov.region rfl ?_
      refine Cov.q .ro (.move rfl) rfl ?_
      obtain ⟨c389, p390, h391⟩ := SlR.get s0 (drop_idx g367)
      obtain ⟨a392, k393, rfl, s394⟩ := h391
      refine Cov.q .ro (.idxR s0 rfl rfl (drop_idx g367) sl54 ty22.sz) rfl ?_
      refine Cov.q .ro (.load_rp p390 List.mem_cons_self rfl ty22 rfl) rfl ?_
      refine Cov.q .ro (.assign rfl) rfl ?_
      refine Cov.q .ro (.assign rfl) rfl ?_
      refine Cov.region_end ?_
      refine Cov.seq ?_
      refine Cov.region rfl ?_
      refine Cov.q .ro (.move rfl) rfl ?_
      refine Cov.q .ro (.len_sl rfl rfl sl22) rfl ?_
      refine Cov.q .ro (.move rfl) rfl ?_
      refine Cov.region_end ?_
      refine Cov.block ?_
      refine Cov.pullS 1 rfl [_, _] rfl ?_
      refine Cov.loop2 (α := Nat × List Int × List Int × Option Addr × Nat × List Value) (fun y => [(8, .slice y.2.2.2.1 y.2.2.1.length y.2.2.2.2.1), (31, .int .i64 (y.1 : Int))]) [(9, _), (24, _), (0, _), (1, _), (2, _), (22, _), (23, _), (10, _), (29, _), (30, _)] (fun y => []) (fun y => []) [] (fun y => [.s (.slice y.2.2.2.1 y.2.2.1.length y.2.2.2.2.1) 3 1 y.2.2.1.length y.2.2.2.2.2]) [_] (fun y => OL (Rep.int .i64) G y.2.2.2.2.2 y.2.2.1 ∧ List.drop y.1 x387 = y.2.1 ∧ ref19_First_L1 (ref19_First_L2 x0 x1 x2 xs388 (i365 + 1)) (i365 : Int) x0 x1 x2 v368 y.2.1 y.2.2.1 = some r) (fun y => y.2.1.length) (0, x387, v374, a375, k376, cs377) ⟨o378, rfl, r386⟩ ⟨rfl, rfl, rfl, rfl, rfl, rfl, rfl, rfl, rfl, rfl, rfl, rfl, trivial⟩ rfl rfl rfl (fun y hI hb481 => ?_)
      obtain ⟨i471, w472, v474, a475, k476, cs477⟩ := y
      obtain ⟨o478, g473, r480⟩ := hI
      try dsimp only at o478 g473 r480
      refine Cov.prune [(8, .slice a475 v474.length k476), (31, .int .i64 (i471 : Int)), (9, _), (24, _), (0, _), (1, _), (2, _), (22, _), (23, _), (10, _), (29, _), (30, _)] ⟨rfl, rfl, rfl, rfl, rfl, rfl, rfl, rfl, rfl, rfl, rfl, rfl, trivial⟩ ?_
      refine Cov.same (bl' := []) (sl' := [.s (.slice a475 v474.length k476) 3 1 v474.length cs477, _]) (Fs' := G :: Fs) rfl rfl rfl ?_
      cases w472 with
      | nil =>
        rw [ref19_First_L1] at r480; try dsimp only at r480
        refine Cov.seq ?_
        refine Cov.region rfl ?_
        refine Cov.q .ro (.lss rfl rfl) rfl ?_
        refine Cov.region_end ?_
        refine Cov.seq ?_
        refine Cov.cond_dec rfl (fun c => absurd c (drop_nil g473)) (fun _ => ?_)
        refine Cov.exit rfl ?_
        refine Cov.inBlock ?_
        refine Cov.region rfl ?_
        refine Cov.q .ro (.addw rfl rfl) rfl ?_
        refine Cov.q .ro (.move rfl) rfl ?_
        refine Cov.region_end ?_
        refine Cov.pullS 1 rfl [_, _] rfl ?_
        refine Cov.prune _ ?_ (Cov.same rfl rfl rfl (hb381 ((i365 + 1), xs388, v368, a369, k370, cs371, v474, a475, k476, cs477) ⟨o372, o478, (drop_succ g367), r480⟩ (Nat.lt_succ_self _)))
        exact ⟨rfl, rfl, (congrArg (fun z => some (Value.int .i64 z)) (idx_wrap (SlR.len s0) g367)), rfl, rfl, rfl, rfl, rfl, trivial⟩
      | cons x491 xs492 =>
        have r490 : ref19_First_B1 (ref19_First_L2 x0 x1 x2 xs388 (i365 + 1)) (i365 : Int) x0 x1 x2 v368 (ref19_First_L1 (ref19_First_L2 x0 x1 x2 xs388 (i365 + 1)) (i365 : Int) x0 x1 x2 v368 xs492) x491 v474 = some r := r480; clear r480; unfold ref19_First_B1 at r490; try dsimp only at r490
        refine Cov.seq ?_
        refine Cov.region rfl ?_
        refine Cov.q .ro (.lss rfl rfl) rfl ?_
        refine Cov.region_end ?_
        refine Cov.seq ?_
        refine Cov.cond_dec rfl (fun _ => ?_) (fun c => absurd (drop_lt g473) c)
        refine Cov.skip ?_
        refine Cov.seq ?_
        refine Cov.block ?_
        refine Cov.seq ?_
        refine Cov.region rfl ?_
        obtain ⟨c493, p494, h495⟩ := SlR.get s394 (drop_idx g473)
        obtain rfl := h495
        refine Cov.q .ro (.idxR s394 rfl rfl (drop_idx g473) sl22 ty3.sz) rfl ?_
        refine Cov.q .ro (.load_rp p494 List.mem_cons_self rfl ty3 rfl) rfl ?_
        refine Cov.q .ro (.assign rfl) rfl ?_
        refine Cov.region_end ?_
        refine Cov.seq ?_
        refine Cov.seq ?_
        refine Cov.region rfl ?_
        refine Cov.q .ro (.move rfl) rfl ?_
        refine Cov.q .ro (.move rfl) rfl ?_
        obtain ⟨u496, hu496, r497⟩ := bind_some r490; clear r490
        obtain ⟨c498, p499, h500⟩ := OL.get o478 hu496
        obtain rfl := h500
        refine Cov.q .ro (.idxO 0 rfl rfl rfl hu496 sl22 ty3.sz) rfl ?_
        refine Cov.q .ro (.loadO 0 0 rfl hu496 p499 rfl (.inl ⟨rfl, rfl⟩) ty3 rfl) rfl ?_
        refine Cov.q .ro (.move rfl) rfl ?_
        refine Cov.q .ro (.eql rfl rfl) rfl ?_
        refine Cov.region_end ?_
        refine Cov.cond_dec rfl (fun c501 => ?_) (fun c501 => ?_)
        · have r502 := ifT r497 c501; clear r497
          refine Cov.exit rfl ?_
          refine Cov.region rfl ?_
          refine Cov.q .ro (.addw rfl rfl) rfl ?_
          refine Cov.q .ro (.move rfl) rfl ?_
          refine Cov.region_end ?_
          refine Cov.prune _ ?_ (Cov.same rfl rfl rfl (hb481 ((i471 + 1), xs492, v474, a475, k476, cs477) ⟨o478, (drop_succ g473), r502⟩ (Nat.lt_succ_self _)))
          exact ⟨rfl, (congrArg (fun z => some (Value.int .i64 z)) (idx_wrap (SlR.len s394) g473)), rfl, rfl, rfl, rfl, rfl, rfl, rfl, rfl, rfl, rfl, trivial⟩
        · have r503 := ifF r497 c501; clear r497
          refine Cov.skip ?_
          refine Cov.seq ?_
          refine Cov.region rfl ?_
          refine Cov.q .ro (.move rfl) rfl ?_
          refine Cov.q .ro (.move rfl) rfl ?_
          obtain ⟨u504, hu504, r505⟩ := bind_some r503; clear r503
          obtain ⟨c506, p507, h508⟩ := OL.get o478 hu504
          obtain rfl := h508
          refine Cov.q .ro (.idxO 0 rfl rfl rfl hu504 sl22 ty3.sz) rfl ?_
          refine Cov.q .ro (.loadO 0 0 rfl hu504 p507 rfl (.inl ⟨rfl, rfl⟩) ty3 rfl) rfl ?_
          refine Cov.q .ro (.addw rfl rfl) rfl ?_
          obtain ⟨u509, hu509, r510⟩ := bind_some r505; clear r505
          obtain ⟨c511, p512, h513⟩ := OL.get o478 hu509
          obtain rfl := h513
          refine Cov.q .ro (.idxO 0 rfl rfl rfl hu509 sl22 ty3.sz) rfl ?_
          obtain ⟨u514, hu514, r515⟩ := bind_some r510; clear r510
          refine Cov.storeR 0 0 (Q := (Rep.int .i64)) .ro rfl rfl o478 hu514 rfl (.inl ⟨rfl, rfl⟩) rfl ty3 p512 ((Rep.intI .i64 (w64 (u504 + 1))) :) rfl rfl (fun cs516 hlcs516 o517 => ?_)
          refine Cov.reval 8 hlcs516 rfl ?_
          refine Cov.reval 35 hlcs516 rfl ?_
          refine Cov.reval 41 hlcs516 rfl ?_
          refine Cov.region_end ?_
          refine Cov.prune [(8, _), (31, _), (9, _), (24, _), (0, _), (1, _), (2, _), (22, _), (23, _), (10, _), (29, _), (30, _), (13, _)] ⟨rfl, rfl, rfl, rfl, rfl, rfl, rfl, rfl, rfl, rfl, rfl, rfl, rfl, trivial⟩ ?_
          refine Cov.seq ?_
          refine Cov.seq ?_
          refine Cov.region rfl ?_
          refine Cov.q .ro (.move rfl) rfl ?_
          refine Cov.q .ro (.move rfl) rfl ?_
          refine Cov.q .ro (.addw rfl rfl) rfl ?_
          obtain ⟨u519, hu519, r520⟩ := bind_some r515; clear r515
          obtain ⟨a521, k522, h523, s524⟩ := SlR.sub s0 hu519
          refine Cov.q .ro (.sliceR s0 rfl hu519 sl54 ty22.sz (fun h => .yes' rfl h) (fun _ => .no) h523) rfl ?_
          refine Cov.q .ro (.move rfl) rfl ?_
          refine Cov.q .ro (.move rfl) rfl ?_
          refine Cov.q .ro (.move rfl) rfl ?_
          obtain ⟨u525, hu525, r526⟩ := bind_some r520; clear r520
          refine Cov.callB (Q := fun v bo so => v = .bool u525 ∧ bo = [] ∧ so = []) (b1 := []) (b2 := []) (s1 := []) (sB := [_]) (s2 := [_]) [_, _, _, _] [] .ro rfl rfl Try.call55 rfl rfl (fun Fs' G' hle hB hm => (ref19_Possible_c (G := G') hm (SlR.mono hle s524) (SlR.rd o517 rfl hle (hB _ (List.mem_of_getElem? (i := 0) rfl))) hu525)) rfl (fun v528 bo so h527 => ?_)
          obtain ⟨rfl, rfl, rfl⟩ := h527
          refine Cov.same (bl' := []) (sl' := [_, _]) rfl rfl rfl ?_
          refine Cov.region_end ?_
          refine Cov.cond rfl (fun c529 => ?_) (fun c529 => ?_)
          · have r530 := ifT r526 c529; clear r526
            refine Cov.seq ?_
            refine Cov.region rfl ?_
            refine Cov.q .ro (.move rfl) rfl ?_
            refine Cov.q .ro (.move rfl) rfl ?_
            refine Cov.lit [_] [(0, _)] .ro sl22 ty3 rfl rfl rfl rfl rfl rfl (fun b531 hb531 => ?_)
            have o532 : OL (Rep.int .i64) G [.int .i64 x491] ([x491] : List Int) := ((OL.cons rfl (Rep.intI .i64 x491) (OL.nil (Rp' := (Rep.int .i64)))) :)
            refine Cov.reval 57 (n' := ([x491] : List Int).length) rfl rfl ?_
            obtain ⟨u538, hu538, r539⟩ := bind_some r530; clear r530
            refine Cov.appO (Q := (Rep.int .i64)) 1 .ro sl22 ty3 rfl rfl rfl rfl rfl rfl o372 o532 rfl rfl rfl B0 hu538 rfl (fun a534 k535 cs536 o537 => ?_)
            refine Cov.q .ro (.assign rfl) rfl ?_
            refine Cov.region_end ?_
            refine Cov.prune [(8, _), (9, _), (24, _), (0, _), (1, _), (2, _), (22, _), (23, _)] ⟨rfl, rfl, rfl, rfl, rfl, rfl, rfl, rfl, trivial⟩ ?_
            refine Cov.exit rfl ?_
            refine Cov.inBlock ?_
            refine Cov.region rfl ?_
            refine Cov.q .ro (.addw rfl rfl) rfl ?_
            refine Cov.q .ro (.move rfl) rfl ?_
            refine Cov.region_end ?_
            refine Cov.pullS 1 rfl [_, _] rfl ?_
            refine Cov.prune _ ?_ (Cov.same rfl rfl rfl (hb381 ((i365 + 1), xs388, u538, a534, k535, cs536, u514, a475, k476, cs516) ⟨o537, o517, (drop_succ g367), r539⟩ (Nat.lt_succ_self _)))
            exact ⟨rfl, rfl, (congrArg (fun z => some (Value.int .i64 z)) (idx_wrap (SlR.len s0) g367)), rfl, rfl, rfl, rfl, rfl, trivial⟩
          · have r541 := ifBF r526 c529; clear r526
            refine Cov.skip ?_
            refine Cov.region rfl ?_
            refine Cov.q .ro (.move rfl) rfl ?_
            refine Cov.q .ro (.move rfl) rfl ?_
            obtain ⟨u542, hu542, r543⟩ := bind_some r541; clear r541
            obtain ⟨c544, p545, h546⟩ := OL.get o517 hu542
            obtain rfl := h546
            refine Cov.q .ro (.idxO 0 rfl rfl rfl hu542 sl22 ty3.sz) rfl ?_
            refine Cov.q .ro (.loadO 0 0 rfl hu542 p545 rfl (.inl ⟨rfl, rfl⟩) ty3 rfl) rfl ?_
            refine Cov.q .ro (.subw rfl rfl) rfl ?_
            obtain ⟨u547, hu547, r548⟩ := bind_some r543; clear r543
            obtain ⟨c549, p550, h551⟩ := OL.get o517 hu547
            obtain rfl := h551
            refine Cov.q .ro (.idxO 0 rfl rfl rfl hu547 sl22 ty3.sz) rfl ?_
            obtain ⟨u552, hu552, r553⟩ := bind_some r548; clear r548
            refine Cov.storeR 0 0 (Q := (Rep.int .i64)) .ro rfl rfl o517 hu552 rfl (.inl ⟨rfl, rfl⟩) rfl ty3 p550 ((Rep.intI .i64 (w64 (u542 - 1))) :) rfl rfl (fun cs554 hlcs554 o555 => ?_)
            refine Cov.reval 8 hlcs554 rfl ?_
            refine Cov.reval 53 hlcs554 rfl ?_
            refine Cov.reval 59 hlcs554 rfl ?_
            refine Cov.region_end ?_
            refine Cov.prune [(8, _), (31, _), (9, _), (24, _), (0, _), (1, _), (2, _), (22, _), (23, _), (10, _), (29, _), (30, _)] ⟨rfl, rfl, rfl, rfl, rfl, rfl, rfl, rfl, rfl, rfl, rfl, rfl, trivial⟩ ?_
            refine Cov.inBlock ?_
            refine Cov.region rfl ?_
            refine Cov.q .ro (.addw rfl rfl) rfl ?_
            refine Cov.q .ro (.move rfl) rfl ?_
            refine Cov.region_end ?_
            refine Cov.prune _ ?_ (Cov.same rfl rfl rfl (hb481 ((i471 + 1), xs492, u552, a475, k476, cs554) ⟨o555, (drop_succ g473), r553⟩ (Nat.lt_succ_self _)))
            exact ⟨rfl, (congrArg (fun z => some (Value.int .i64 z)) (idx_wrap (SlR.len s394) g473)), rfl, rfl, rfl, rfl, rfl, rfl, rfl, rfl, rfl, rfl, trivial⟩

set_option maxHeartbeats 4000000 in
set_option maxRecDepth 100000 in
theorem ref19_Assign_c {Fs : List Hp} {G : Hp} {x0_0 : Int} {a0_1 : Option Addr} {k0_1 : Nat} {x0_1 : List (Int × Int)} {a1 : Option Addr} {k1 : Nat} {x1 : List Int} {r : ((List Int) × Int)} (hG : G ∈ Fs) (s0_1 : SlR (Rep.pair (Rep.int .i64) (Rep.int .i64)) G a0_1 k0_1 x0_1) (s1 : SlR (Rep.int .i64) G a1 k1 x1) (h : ref19_Assign (x0_0, x0_1) x1 = some r) : RetW Try.prog 29 #[.agg #[.int .i64 x0_0, .slice a0_1 x0_1.length k0_1], .slice a1 x1.length k1] Fs [] [] (fun v bo so G => ∃ a0 : Option Addr, ∃ k0 : Nat, v = .tuple #[.agg #[.slice a0 r.1.length k0], .int .i64 r.2] ∧ bo = [] ∧ so = [] ∧ SlR (Rep.int .i64) G a0 k0 r.1) := by
  unfold ref19_Assign at h
  try dsimp only at h
  refine RetW.of (vs := [_, _]) Try.func29 rfl Try.ntmps29 [(0, _), (1, _)] ⟨rfl, rfl, trivial⟩ rfl hG fun w0 S0 hS0 B0 => ?_
  refine Cov.seq ?_
  refine Cov.region rfl ?_
  refine Cov.box [_, _] .ro rfl rfl rfl (fun b1 hb1 => ?_)
  refine Cov.alloc .ro ty43 rfl (fun b2 hb2 => ?_)
  refine Cov.q .ro (.assign rfl) rfl ?_
  refine Cov.region_end ?_
  refine Cov.seq ?_
  refine Cov.region rfl ?_
  refine Cov.q .ro (.load_own_a 1 [_, _] rfl rfl ty25 rfl) rfl ?_
  refine Cov.q .ro (.move rfl) rfl ?_
  obtain ⟨u3, hu3, r4⟩ := bind_some h; clear h
  refine Cov.callW (b1 := []) (b2 := [_, _]) (s1 := []) [_, _] [] .ro rfl rfl Try.call47 rfl rfl (ref19_all_c (G := G) List.mem_cons_self s0_1 s1 hu3) rfl B0 (fun v6 bo so G7 e8 B9 h5 => ?_)
  obtain ⟨a12, k13, cs14, rfl, rfl, rfl, o15⟩ := h5
  refine Cov.same (bl' := [_, _]) (sl' := [_]) rfl rfl rfl ?_
  refine Cov.q .ro (.move rfl) rfl ?_
  refine Cov.q .ro (.extract rfl rfl) rfl ?_
  refine Cov.q .ro (.extract rfl rfl) rfl ?_
  refine Cov.q .ro (.assign rfl) rfl ?_
  refine Cov.q .ro (.assign rfl) rfl ?_
  refine Cov.region_end ?_
  refine Cov.seq ?_
  refine Cov.seq ?_
  refine Cov.region rfl ?_
  refine Cov.q .ro (.move rfl) rfl ?_
  refine Cov.q .ro (.neq rfl rfl) rfl ?_
  refine Cov.region_end ?_
  refine Cov.cond_dec rfl (fun c16 => ?_) (fun c16 => ?_)
  · have r17 := ifT r4 c16; clear r4
    refine Cov.seq ?_
    refine Cov.region rfl ?_
    refine Cov.q .ro (.build [_] [] ty43 pl43 rfl rfl) rfl ?_
    refine Cov.q .ro (.move rfl) rfl ?_
    refine Cov.store 0 [_] [_, _] .ro rfl rfl rfl ty43 rfl rfl rfl rfl ?_
    refine Cov.q .ro (.assign rfl) rfl ?_
    refine Cov.region_end ?_
    refine Cov.prune [(4, _), (5, _)] ⟨rfl, rfl, trivial⟩ ?_
    cases r17
    refine Cov.drop 0 1 _ [] rfl rfl ?_
    refine Cov.retWD 2 (c := ⟨29, none⟩) (.inr ⟨_, rfl⟩) [.cell 4 43, .tmp 5] [_, _] rfl Try.func29 Try.results29 ⟨RV.cell_a 0 [_] rfl rfl ty43 rfl, RV.tmp rfl, trivial⟩ (fun _ h => List.mem_cons_of_mem _ h) List.mem_cons_self B9 (by subst hS0; simp [blks]) (fun G' hg => ⟨none, 0, rfl, rfl, rfl, (SlR.mono hg (SlR.nil (Rp' := (Rep.int .i64))))⟩)
  · have r18 := ifF r4 c16; clear r4
    refine Cov.skip ?_
    refine Cov.seq ?_
    refine Cov.seq ?_
    refine Cov.region rfl ?_
    refine Cov.q .ro (.move rfl) rfl ?_
    refine Cov.q .ro (.len_sl rfl rfl sl22) rfl ?_
    refine Cov.q .ro (.fieldAddr 0 rfl fl25_0 ty3.sz rfl) rfl ?_
    refine Cov.q .ro (.load_own 1 rfl rfl ty3 rfl) rfl ?_
    refine Cov.q .ro (.gtr rfl rfl) rfl ?_
    refine Cov.region_end ?_
    refine Cov.prune [(2, _), (4, _), (6, _), (28, _)] ⟨rfl, rfl, rfl, rfl, trivial⟩ ?_
    refine Cov.cond_dec rfl (fun c19 => ?_) (fun c19 => ?_)
    · have r20 := ifT r18 c19; clear r18
      refine Cov.seq ?_
      refine Cov.region rfl ?_
      refine Cov.q .ro (.build [_] [] ty43 pl43 rfl rfl) rfl ?_
      refine Cov.store 0 [_] [_, _] .ro rfl rfl rfl ty43 rfl rfl rfl rfl ?_
      refine Cov.q .ro (.assign rfl) rfl ?_
      refine Cov.region_end ?_
      cases r20
      refine Cov.drop 0 1 _ [] rfl rfl ?_
      refine Cov.retWD 2 (c := ⟨29, none⟩) (.inr ⟨_, rfl⟩) [.cell 4 43, .tmp 5] [_, _] rfl Try.func29 Try.results29 ⟨RV.cell_a 0 [_] rfl rfl ty43 rfl, RV.tmp rfl, trivial⟩ (fun _ h => List.mem_cons_of_mem _ h) List.mem_cons_self B9 (by subst hS0; simp [blks]) (fun G' hg => ⟨none, 0, rfl, rfl, rfl, (SlR.mono hg (SlR.nil (Rp' := (Rep.int .i64))))⟩)
    · have r21 := ifF r18 c19; clear r18
      refine Cov.skip ?_
      refine Cov.seq ?_
      refine Cov.region rfl ?_
      refine Cov.q .ro (.move rfl) rfl ?_
      refine Cov.q .ro (.fieldAddr 0 rfl fl25_0 ty3.sz rfl) rfl ?_
      refine Cov.q .ro (.load_own 1 rfl rfl ty3 rfl) rfl ?_
      refine Cov.freezeR 0 rfl rfl o15 [] rfl B9 (fun G22 e23 B24 s25 => ?_)
      obtain ⟨u27, hu27, r28⟩ := bind_some r21; clear r21
      refine Cov.callS (b1 := []) (b2 := [_, _]) (s1 := []) [_, _, _] [] .ro rfl rfl Try.call48 rfl rfl (ref19_First_c (G := G22) List.mem_cons_self s25 hu27) rfl (fun v30 bo so h29 => ?_)
      obtain ⟨a32, k33, cs34, rfl, rfl, rfl, o35⟩ := h29
      refine Cov.same (bl' := [_, _]) (sl' := [_]) rfl rfl rfl ?_
      refine Cov.q .ro (.move rfl) rfl ?_
      refine Cov.q .ro (.extract rfl rfl) rfl ?_
      refine Cov.q .ro (.extract rfl rfl) rfl ?_
      refine Cov.q .ro (.assign rfl) rfl ?_
      refine Cov.q .ro (.assign rfl) rfl ?_
      refine Cov.region_end ?_
      refine Cov.seq ?_
      refine Cov.seq ?_
      refine Cov.region rfl ?_
      refine Cov.q .ro (.move rfl) rfl ?_
      refine Cov.q .ro (.not rfl) rfl ?_
      refine Cov.region_end ?_
      refine Cov.cond rfl (fun c36 => ?_) (fun c36 => ?_)
      · have r37 := ifT r28 c36; clear r28
        refine Cov.seq ?_
        refine Cov.region rfl ?_
        refine Cov.q .ro (.build [_] [] ty43 pl43 rfl rfl) rfl ?_
        refine Cov.store 0 [_] [_, _] .ro rfl rfl rfl ty43 rfl rfl rfl rfl ?_
        refine Cov.q .ro (.assign rfl) rfl ?_
        refine Cov.region_end ?_
        refine Cov.prune [(4, _), (5, _)] ⟨rfl, rfl, trivial⟩ ?_
        cases r37
        refine Cov.drop 0 1 _ [] rfl rfl ?_
        refine Cov.retWD 2 (c := ⟨29, none⟩) (.inr ⟨_, rfl⟩) [.cell 4 43, .tmp 5] [_, _] rfl Try.func29 Try.results29 ⟨RV.cell_a 0 [_] rfl rfl ty43 rfl, RV.tmp rfl, trivial⟩ (fun _ h => List.mem_cons_of_mem _ h) List.mem_cons_self B24 (by subst hS0; simp [blks]) (fun G' hg => ⟨none, 0, rfl, rfl, rfl, (SlR.mono hg (SlR.nil (Rp' := (Rep.int .i64))))⟩)
      · have r38 := ifBF r28 c36; clear r28
        refine Cov.skip ?_
        refine Cov.seq ?_
        refine Cov.region rfl ?_
        refine Cov.q .ro (.fieldAddr 0 rfl fl25_0 ty3.sz rfl) rfl ?_
        refine Cov.q .ro (.load_own 1 rfl rfl ty3 rfl) rfl ?_
        obtain ⟨u39, hu39, r40⟩ := bind_some r38; clear r38
        refine Cov.makeR (G := G22) (Q := (Rep.int .i64)) .ro sl22 ty3 rfl rfl rfl ((Rep.intI .i64 0) :) rfl rfl hu39 rfl rfl (fun b41 cs42 hb41 o43 => ?_)
        refine Cov.q .ro (.build [_] [(0, _)] ty43 pl43 rfl rfl) rfl ?_
        refine Cov.alloc .ro ty43 rfl (fun b45 hb45 => ?_)
        refine Cov.store 0 [_] [_, _, _] .ro rfl rfl rfl ty43 rfl rfl rfl rfl ?_
        refine Cov.region_end ?_
        refine Cov.prune [(4, _), (8, _), (10, _)] ⟨rfl, rfl, rfl, trivial⟩ ?_
        refine Cov.seq ?_
        refine Cov.seq ?_
        refine Cov.region rfl ?_
        refine Cov.q .ro (.fieldAddr 0 rfl fl43_0 ty22.sz rfl) rfl ?_
        refine Cov.q .ro (.load_own 0 rfl rfl ty22 rfl) rfl ?_
        refine Cov.q .ro (.len_sl rfl rfl sl22) rfl ?_
        refine Cov.q .ro (.move rfl) rfl ?_
        refine Cov.region_end ?_
        refine Cov.cutB (β := List Int × Option Addr × Nat × List Value × Int) (fun y => []) [(4, _), (8, _), (10, _)] (fun y => G22 :: Fs) (fun y => [(b45, .cells #[.slice y.2.1 y.1.length y.2.2.1] 43 (0, 0)), (b1, .cells #[.int .i64 y.2.2.2.2, .slice a0_1 x0_1.length k0_1] 25 (0, 0))]) [_] (fun y => [.s (.slice y.2.1 y.1.length y.2.2.1) 3 1 y.1.length y.2.2.2.1]) [_] (fun y => OL (Rep.int .i64) G22 y.2.2.2.1 y.1 ∧ (ref19_Assign_J3 u27.1) y.1 y.2.2.2.2 = some r) ⟨rfl, rfl, rfl, trivial⟩ [1] rfl [1] rfl ?_ ?_
        · intro y hI
          obtain ⟨v91, a92, k93, cs94, v97⟩ := y
          obtain ⟨o95, r99⟩ := hI
          try dsimp only at o95 r99
          refine Cov.prune [(4, _), (8, _), (10, _)] ⟨rfl, rfl, rfl, trivial⟩ ?_
          refine Cov.same (bl' := [(b45, .cells #[.slice a92 v91.length k93] 43 (0, 0)), (b1, .cells #[.int .i64 v97, .slice a0_1 x0_1.length k0_1] 25 (0, 0)), _]) (sl' := [.s (.slice a92 v91.length k93) 3 1 v91.length cs94, _]) (Fs' := G22 :: Fs) rfl rfl rfl ?_
          unfold ref19_Assign_J3 at r99
          try dsimp only at r99
          refine Cov.seq ?_
          refine Cov.seq ?_
          refine Cov.region rfl ?_
          refine Cov.q .ro (.move rfl) rfl ?_
          refine Cov.q .ro (.len_sl rfl rfl sl22) rfl ?_
          refine Cov.q .ro (.move rfl) rfl ?_
          refine Cov.region_end ?_
          refine Cov.cutB (β := List Int × Option Addr × Nat × List Value × Int) (fun y => []) [(4, _), (10, _)] (fun y => G22 :: Fs) (fun y => [(b45, .cells #[.slice y.2.1 y.1.length y.2.2.1] 43 (0, 0)), (b1, .cells #[.int .i64 y.2.2.2.2, .slice a0_1 x0_1.length k0_1] 25 (0, 0))]) [_] (fun y => [.s (.slice y.2.1 y.1.length y.2.2.1) 3 1 y.1.length y.2.2.2.1]) [_] (fun y => OL (Rep.int .i64) G22 y.2.2.2.1 y.1 ∧ ref19_Assign_J1 y.1 y.2.2.2.2 = some r) ⟨rfl, rfl, trivial⟩ [2] rfl [1] rfl ?_ ?_
          · intro y hI
            obtain ⟨v155, a156, k157, cs158, v161⟩ := y
            obtain ⟨o159, r163⟩ := hI
            try dsimp only at o159 r163
            refine Cov.prune [(4, _), (10, _)] ⟨rfl, rfl, trivial⟩ ?_
            refine Cov.same (bl' := [(b45, .cells #[.slice a156 v155.length k157] 43 (0, 0)), (b1, .cells #[.int .i64 v161, .slice a0_1 x0_1.length k0_1] 25 (0, 0)), _]) (sl' := [.s (.slice a156 v155.length k157) 3 1 v155.length cs158, _]) (Fs' := G22 :: Fs) rfl rfl rfl ?_
            unfold ref19_Assign_J1 at r163
            try dsimp only at r163
            refine Cov.seq ?_
            refine Cov.region rfl ?_
            refine Cov.q .ro (.load_own_a 0 [_] rfl rfl ty43 rfl) rfl ?_
            refine Cov.store 2 [_] [_, _, _] .ro rfl rfl rfl ty43 rfl rfl rfl rfl ?_
            refine Cov.q .ro (.assign rfl) rfl ?_
            refine Cov.region_end ?_
            refine Cov.freezeR 0 rfl rfl o159 [_] rfl B24 (fun G166 e167 B168 s169 => ?_)
            cases r163
            refine Cov.drop 0 1 _ [] rfl rfl ?_
            refine Cov.retWD 3 (c := ⟨29, none⟩) (.inr ⟨_, rfl⟩) [.cell 4 43, .tmp 5] [_, _] rfl Try.func29 Try.results29 ⟨RV.cell_a 2 [_] rfl rfl ty43 rfl, RV.tmp rfl, trivial⟩ (fun _ h => List.mem_cons_of_mem _ h) List.mem_cons_self B168 (by subst hS0; simp [blks]) (fun G' hg => ⟨a156, k157, rfl, rfl, rfl, (SlR.mono hg s169)⟩)
          · intro hb171
            refine Cov.block ?_
            refine Cov.loop2 (α := Nat × List Int × List Int × Option Addr × Nat × List Value) (fun y => [(57, .int .i64 (y.1 : Int))]) [(4, _), (10, _), (55, _), (56, _)] (fun y => []) (fun y => [(b45, .cells #[.slice y.2.2.2.1 y.2.2.1.length y.2.2.2.2.1] 43 (0, 0))]) [_, _] (fun y => [.s (.slice y.2.2.2.1 y.2.2.1.length y.2.2.2.2.1) 3 1 y.2.2.1.length y.2.2.2.2.2]) [_] (fun y => OL (Rep.int .i64) G22 y.2.2.2.2.2 y.2.2.1 ∧ List.drop y.1 u27.1 = y.2.1 ∧ ref19_Assign_L2 ref19_Assign_J1 v97 y.2.1 y.1 y.2.2.1 = some r) (fun y => y.2.1.length) (0, u27.1, v91, a92, k93, cs94) ⟨o95, rfl, r99⟩ ⟨rfl, rfl, rfl, rfl, rfl, trivial⟩ rfl rfl rfl (fun y hI hb204 => ?_)
            obtain ⟨i194, w195, v197, a198, k199, cs200⟩ := y
            obtain ⟨o201, g196, r203⟩ := hI
            try dsimp only at o201 g196 r203
            refine Cov.prune [(57, .int .i64 (i194 : Int)), (4, _), (10, _), (55, _), (56, _)] ⟨rfl, rfl, rfl, rfl, rfl, trivial⟩ ?_
            refine Cov.same (bl' := [(b45, .cells #[.slice a198 v197.length k199] 43 (0, 0)), _, _]) (sl' := [.s (.slice a198 v197.length k199) 3 1 v197.length cs200, _]) (Fs' := G22 :: Fs) rfl rfl rfl ?_
            cases w195 with
            | nil =>
              rw [ref19_Assign_L2] at r203; try dsimp only at r203
              refine Cov.seq ?_
              refine Cov.region rfl ?_
              refine Cov.q .ro (.lss rfl rfl) rfl ?_
              refine Cov.region_end ?_
              refine Cov.seq ?_
              refine Cov.cond_dec rfl (fun c => absurd c (drop_nil g196)) (fun _ => ?_)
              refine Cov.exit rfl ?_
              refine Cov.prune _ ?_ (Cov.same rfl rfl rfl (hb171 (v197, a198, k199, cs200, v97) ⟨o201, r203⟩))
              exact ⟨rfl, rfl, trivial⟩
            | cons x210 xs211 =>
              have r209 : ref19_Assign_B2 ref19_Assign_J1 v97 (ref19_Assign_L2 ref19_Assign_J1 v97 xs211 (i194 + 1)) x210 i194 v197 = some r := r203; clear r203; unfold ref19_Assign_B2 at r209; try dsimp only at r209
              refine Cov.seq ?_
              refine Cov.region rfl ?_
              refine Cov.q .ro (.lss rfl rfl) rfl ?_
              refine Cov.region_end ?_
              refine Cov.seq ?_
              refine Cov.cond_dec rfl (fun _ => ?_) (fun c => absurd (drop_lt g196) c)
              refine Cov.skip ?_
              refine Cov.seq ?_
              refine Cov.block ?_
              refine Cov.seq ?_
              refine Cov.region rfl ?_
              refine Cov.q .ro (.move rfl) rfl ?_
              obtain ⟨c212, p213, h214⟩ := OL.get o35 (drop_idx g196)
              obtain rfl := h214
              refine Cov.q .ro (.idxO 1 rfl rfl rfl (drop_idx g196) sl22 ty3.sz) rfl ?_
              refine Cov.q .ro (.loadO 1 0 rfl (drop_idx g196) p213 rfl (.inl ⟨rfl, rfl⟩) ty3 rfl) rfl ?_
              refine Cov.q .ro (.assign rfl) rfl ?_
              refine Cov.q .ro (.assign rfl) rfl ?_
              refine Cov.region_end ?_
              refine Cov.region rfl ?_
              refine Cov.q .ro (.fieldAddr 0 rfl fl43_0 ty22.sz rfl) rfl ?_
              refine Cov.q .ro (.load_own 0 rfl rfl ty22 rfl) rfl ?_
              refine Cov.q .ro (.move rfl) rfl ?_
              refine Cov.q .ro (.move rfl) rfl ?_
              obtain ⟨u215, hu215, r216⟩ := bind_some r209; clear r209
              obtain ⟨c217, p218, h219⟩ := OL.get o201 hu215
              obtain rfl := h219
              refine Cov.q .ro (.idxO 0 rfl rfl rfl hu215 sl22 ty3.sz) rfl ?_
              obtain ⟨u220, hu220, r221⟩ := bind_some r216; clear r216
              refine Cov.storeR 0 0 (Q := (Rep.int .i64)) .ro rfl rfl o201 hu220 rfl (.inl ⟨rfl, rfl⟩) rfl ty3 p218 ((Rep.intI .i64 (i194 : Int)) :) rfl rfl (fun cs222 hlcs222 o223 => ?_)
              refine Cov.reval 63 hlcs222 rfl ?_
              refine Cov.recell 0 [.slice a198 u220.length k199] rfl (by rw [hlcs222]) [_, _, _] rfl ?_
              refine Cov.region_end ?_
              refine Cov.inBlock ?_
              refine Cov.region rfl ?_
              refine Cov.q .ro (.addw rfl rfl) rfl ?_
              refine Cov.q .ro (.move rfl) rfl ?_
              refine Cov.region_end ?_
              refine Cov.prune _ ?_ (Cov.same rfl rfl rfl (hb204 ((i194 + 1), xs211, u220, a198, k199, cs222) ⟨o223, (drop_succ g196), r221⟩ (Nat.lt_succ_self _)))
              exact ⟨(congrArg (fun z => some (Value.int .i64 z)) (idx_wrap (OL.len' o35) g196)), rfl, rfl, rfl, rfl, trivial⟩
        · intro hb225
          refine Cov.block ?_
          refine Cov.loop2 (α := Nat × List Int × List Int × Option Addr × Nat × List Value) (fun y => [(47, .int .i64 (y.1 : Int))]) [(4, _), (8, _), (10, _), (46, _)] (fun y => []) (fun y => [(b45, .cells #[.slice y.2.2.2.1 y.2.2.1.length y.2.2.2.2.1] 43 (0, 0))]) [_, _] (fun y => [.s (.slice y.2.2.2.1 y.2.2.1.length y.2.2.2.2.1) 3 1 y.2.2.1.length y.2.2.2.2.2]) [_] (fun y => OL (Rep.int .i64) G22 y.2.2.2.2.2 y.2.2.1 ∧ List.drop y.1 u39 = y.2.1 ∧ ref19_Assign_L4 (ref19_Assign_J3 u27.1) x0_0 y.2.1 y.1 y.2.2.1 = some r) (fun y => y.2.1.length) (0, u39, u39, (some ⟨b41, 0, none⟩), u39.length, cs42) ⟨o43, rfl, r40⟩ ⟨rfl, rfl, rfl, rfl, rfl, trivial⟩ rfl rfl rfl (fun y hI hb253 => ?_)
          obtain ⟨i243, w244, v246, a247, k248, cs249⟩ := y
          obtain ⟨o250, g245, r252⟩ := hI
          try dsimp only at o250 g245 r252
          refine Cov.prune [(47, .int .i64 (i243 : Int)), (4, _), (8, _), (10, _), (46, _)] ⟨rfl, rfl, rfl, rfl, rfl, trivial⟩ ?_
          refine Cov.same (bl' := [(b45, .cells #[.slice a247 v246.length k248] 43 (0, 0)), _, _]) (sl' := [.s (.slice a247 v246.length k248) 3 1 v246.length cs249, _]) (Fs' := G22 :: Fs) rfl rfl rfl ?_
          cases w244 with
          | nil =>
            rw [ref19_Assign_L4] at r252; try dsimp only at r252
            refine Cov.seq ?_
            refine Cov.region rfl ?_
            refine Cov.q .ro (.lss rfl rfl) rfl ?_
            refine Cov.region_end ?_
            refine Cov.seq ?_
            refine Cov.cond_dec rfl (fun c => absurd c (drop_nil g245)) (fun _ => ?_)
            refine Cov.exit rfl ?_
            refine Cov.pull 1 rfl [_, _, _] rfl ?_
            refine Cov.pull 2 rfl [_, _, _] rfl ?_
            refine Cov.pull 2 rfl [_, _, _] rfl ?_
            refine Cov.prune _ ?_ (Cov.same rfl rfl rfl (hb225 (v246, a247, k248, cs249, x0_0) ⟨o250, r252⟩))
            exact ⟨rfl, rfl, rfl, trivial⟩
          | cons x259 xs260 =>
            have r258 : ref19_Assign_B4 (ref19_Assign_J3 u27.1) x0_0 (ref19_Assign_L4 (ref19_Assign_J3 u27.1) x0_0 xs260 (i243 + 1)) x259 i243 v246 = some r := r252; clear r252; unfold ref19_Assign_B4 at r258; try dsimp only at r258
            refine Cov.seq ?_
            refine Cov.region rfl ?_
            refine Cov.q .ro (.lss rfl rfl) rfl ?_
            refine Cov.region_end ?_
            refine Cov.seq ?_
            refine Cov.cond_dec rfl (fun _ => ?_) (fun c => absurd (drop_lt g245) c)
            refine Cov.skip ?_
            refine Cov.seq ?_
            refine Cov.block ?_
            refine Cov.seq ?_
            refine Cov.region rfl ?_
            refine Cov.q .ro (.move rfl) rfl ?_
            refine Cov.q .ro (.assign rfl) rfl ?_
            refine Cov.region_end ?_
            refine Cov.region rfl ?_
            refine Cov.q .ro (.fieldAddr 0 rfl fl43_0 ty22.sz rfl) rfl ?_
            refine Cov.q .ro (.load_own 0 rfl rfl ty22 rfl) rfl ?_
            refine Cov.q .ro (.move rfl) rfl ?_
            obtain ⟨u261, hu261, r262⟩ := bind_some r258; clear r258
            obtain ⟨c263, p264, h265⟩ := OL.get o250 hu261
            obtain rfl := h265
            refine Cov.q .ro (.idxO 0 rfl rfl rfl hu261 sl22 ty3.sz) rfl ?_
            obtain ⟨u266, hu266, r267⟩ := bind_some r262; clear r262
            refine Cov.storeR 0 0 (Q := (Rep.int .i64)) .ro rfl rfl o250 hu266 rfl (.inl ⟨rfl, rfl⟩) rfl ty3 p264 ((Rep.intI .i64 (-1)) :) rfl rfl (fun cs268 hlcs268 o269 => ?_)
            refine Cov.reval 51 hlcs268 rfl ?_
            refine Cov.recell 0 [.slice a247 u266.length k248] rfl (by rw [hlcs268]) [_, _, _] rfl ?_
            refine Cov.region_end ?_
            refine Cov.inBlock ?_
            refine Cov.region rfl ?_
            refine Cov.q .ro (.addw rfl rfl) rfl ?_
            refine Cov.q .ro (.move rfl) rfl ?_
            refine Cov.region_end ?_
            refine Cov.prune _ ?_ (Cov.same rfl rfl rfl (hb253 ((i243 + 1), xs260, u266, a247, k248, cs268) ⟨o269, (drop_succ g245), r267⟩ (Nat.lt_succ_self _)))
            exact ⟨(congrArg (fun z => some (Value.int .i64 z)) (idx_wrap (OL.len' o43) g245)), rfl, rfl, rfl, rfl, trivial⟩

set_option maxHeartbeats 4000000 in
set_option maxRecDepth 100000 in
theorem ref19_sets_c {Fs : List Hp} {G : Hp} {x0 : Int} {x1 : Int} {r : Int} (hG : G ∈ Fs)  (h : ref19_sets x0 x1 = some r) : RetS Try.prog 39 #[.int .i64 x0, .int .i64 x1] Fs [] [] (fun v bo so => v = .int .i64 r ∧ bo = [] ∧ so = []) := by
  unfold ref19_sets at h
  try dsimp only at h
  refine RetS.of (vs := [_, _]) Try.func39 rfl Try.ntmps39 [(0, _), (1, _)] ⟨rfl, rfl, trivial⟩ rfl hG fun w0 S0 hS0 B0 => ?_
  refine Cov.seq ?_
  refine Cov.region rfl ?_
  refine Cov.q .ro (.assign rfl) rfl ?_
  refine Cov.region_end ?_
  refine Cov.seq ?_
  refine Cov.region rfl ?_
  refine Cov.q .ro (.assign rfl) rfl ?_
  refine Cov.region_end ?_
  refine Cov.seq ?_
  refine Cov.seq ?_
  refine Cov.region rfl ?_
  refine Cov.q .ro (.assign rfl) rfl ?_
  refine Cov.region_end ?_
  refine Cov.block ?_
  refine Cov.loop2 (α := Nat × Int × Int) (fun y => [(5, .int .i64 y.2.1), (6, .int .i64 y.2.2)]) [(0, _), (1, _)] (fun y => []) (fun y => []) [] (fun y => []) [] (fun y => ref19_sets_L1 x0 x1 y.1 y.2.1 y.2.2 = some r) (fun y => y.1) (big, 1, 0) h ⟨rfl, rfl, rfl, rfl, trivial⟩ rfl rfl rfl (fun y hI hb17 => ?_)
  obtain ⟨n12, v14, v15⟩ := y
  have r16 := hI; clear hI
  try dsimp only at r16
  refine Cov.prune [(5, .int .i64 v14), (6, .int .i64 v15), (0, _), (1, _)] ⟨rfl, rfl, rfl, rfl, trivial⟩ ?_
  refine Cov.same (bl' := []) (sl' := []) (Fs' := G :: Fs) rfl rfl rfl ?_
  obtain ⟨m21, rfl⟩ : ∃ m, n12 = m + 1 := by cases n12 with | zero => exact absurd (show (none : Option _) = some _ from r16) (by simp) | succ m => exact ⟨m, rfl⟩
  have r20 : ref19_sets_B1 x0 x1 (ref19_sets_L1 x0 x1 m21) v14 v15 = some r := r16; clear r16; unfold ref19_sets_B1 at r20; try dsimp only at r20
  refine Cov.seq ?_
  refine Cov.seq ?_
  refine Cov.region rfl ?_
  refine Cov.q .ro (.move rfl) rfl ?_
  refine Cov.q .ro (.move rfl) rfl ?_
  refine Cov.q .ro (.move rfl) rfl ?_
  refine Cov.q .ro (.move rfl) rfl ?_
  refine Cov.q .ro (.subw rfl rfl) rfl ?_
  refine Cov.q .ro (.min2 rfl rfl) rfl ?_
  refine Cov.q .ro (.lss rfl rfl) rfl ?_
  refine Cov.region_end ?_
  refine Cov.cond_dec rfl (fun c22 => ?_) (fun c22 => ?_)
  · have r23 := ifT r20 c22; clear r20
    refine Cov.skip ?_
    refine Cov.seq ?_
    refine Cov.block ?_
    refine Cov.seq ?_
    refine Cov.region rfl ?_
    refine Cov.q .ro (.move rfl) rfl ?_
    refine Cov.q .ro (.move rfl) rfl ?_
    refine Cov.q .ro (.move rfl) rfl ?_
    refine Cov.q .ro (.subw rfl rfl) rfl ?_
    refine Cov.q .ro (.mulw rfl rfl) rfl ?_
    refine Cov.q .ro (.move rfl) rfl ?_
    refine Cov.q .ro (.addw rfl rfl) rfl ?_
    obtain ⟨u24, hu24, r25⟩ := bind_some r23; clear r23
    refine Cov.q .ro (.quow rfl rfl (nz_some hu24)) rfl ?_
    refine Cov.q .ro (.assign rfl) rfl ?_
    refine Cov.region_end ?_
    refine Cov.prune [(5, _), (6, _), (0, _), (1, _)] ⟨rfl, rfl, rfl, rfl, trivial⟩ ?_
    refine Cov.seq ?_
    refine Cov.region rfl ?_
    refine Cov.q .ro (.move rfl) rfl ?_
    refine Cov.q .ro (.gtr rfl rfl) rfl ?_
    refine Cov.region_end ?_
    refine Cov.cond_dec rfl (fun c26 => ?_) (fun c26 => ?_)
    · have r27 := ifT r25 c26; clear r25
      refine Cov.seq ?_
      refine Cov.region rfl ?_
      refine Cov.q .ro (.assign rfl) rfl ?_
      refine Cov.region_end ?_
      cases r27
      refine Cov.retS (c := ⟨39, none⟩) (.inr ⟨_, rfl⟩) [.tmp 4] [_] rfl Try.func39 Try.results39 ⟨RV.tmp rfl, trivial⟩ (fun _ h => List.mem_cons_of_mem _ h) ⟨rfl, rfl, rfl⟩
    · have r28 := ifF r25 c26; clear r25
      refine Cov.skip ?_
      refine Cov.inBlock ?_
      refine Cov.region rfl ?_
      refine Cov.q .ro (.move rfl) rfl ?_
      refine Cov.q .ro (.addw rfl rfl) rfl ?_
      refine Cov.q .ro (.assign rfl) rfl ?_
      refine Cov.region_end ?_
      refine Cov.prune _ ?_ (Cov.same rfl rfl rfl (hb17 (m21, (w64 (Int.tdiv (w64 (v14 * (w64 (x0 - v15)))) (w64 (v15 + 1)))), (w64 (v15 + 1))) r28 (Nat.lt_succ_self _)))
      exact ⟨rfl, rfl, rfl, rfl, trivial⟩
  · have r29 := ifF r20 c22; clear r20
    refine Cov.exit rfl ?_
    refine Cov.seq ?_
    refine Cov.region rfl ?_
    refine Cov.q .ro (.move rfl) rfl ?_
    refine Cov.q .ro (.assign rfl) rfl ?_
    refine Cov.region_end ?_
    cases r29
    refine Cov.retS (c := ⟨39, none⟩) (.inr ⟨_, rfl⟩) [.tmp 4] [_] rfl Try.func39 Try.results39 ⟨RV.tmp rfl, trivial⟩ (fun _ h => List.mem_cons_of_mem _ h) ⟨rfl, rfl, rfl⟩

set_option maxHeartbeats 4000000 in
set_option maxRecDepth 100000 in
theorem ref19_Failures_c {Fs : List Hp} {G : Hp} {x0_0 : Int} {a0_1 : Option Addr} {k0_1 : Nat} {x0_1 : List (Int × Int)} {x1 : Int} {x2 : Int} {r : (Int × Int × Int)} (hG : G ∈ Fs) (s0_1 : SlR (Rep.pair (Rep.int .i64) (Rep.int .i64)) G a0_1 k0_1 x0_1) (h : ref19_Failures (x0_0, x0_1) x1 x2 = some r) : RetS Try.prog 15 #[.agg #[.int .i64 x0_0, .slice a0_1 x0_1.length k0_1], .int .i64 x1, .int .i64 x2] Fs [] [] (fun v bo so => v = .tuple #[.int .i64 r.1, .int .i64 r.2.1, .int .i64 r.2.2] ∧ bo = [] ∧ so = []) := by
  unfold ref19_Failures at h
  try dsimp only at h
  refine RetS.of (vs := [_, _, _]) Try.func15 rfl Try.ntmps15 [(0, _), (1, _), (2, _)] ⟨rfl, rfl, rfl, trivial⟩ rfl hG fun w0 S0 hS0 B0 => ?_
  refine Cov.seq ?_
  refine Cov.region rfl ?_
  refine Cov.box [_, _] .ro rfl rfl rfl (fun b1 hb1 => ?_)
  refine Cov.q .ro (.assign rfl) rfl ?_
  refine Cov.q .ro (.assign rfl) rfl ?_
  refine Cov.q .ro (.assign rfl) rfl ?_
  refine Cov.region_end ?_
  refine Cov.seq ?_
  refine Cov.seq ?_
  refine Cov.region rfl ?_
  refine Cov.q .ro (.load_own_a 0 [_, _] rfl rfl ty25 rfl) rfl ?_
  obtain ⟨u2, hu2, r3⟩ := bind_some h; clear h
  refine Cov.callS (b1 := []) (b2 := [_]) (s1 := []) [_] [] .ro rfl rfl Try.call23 rfl rfl (ref19_Check_c (G := G) List.mem_cons_self s0_1 hu2) rfl (fun v5 bo so h4 => ?_)
  obtain ⟨rfl, rfl, rfl⟩ := h4
  refine Cov.same (bl' := [_]) (sl' := []) rfl rfl rfl ?_
  refine Cov.q .ro (.assign rfl) rfl ?_
  refine Cov.region_end ?_
  refine Cov.seq ?_
  refine Cov.region rfl ?_
  refine Cov.q .ro (.move rfl) rfl ?_
  refine Cov.q .ro (.neq rfl rfl) rfl ?_
  refine Cov.region_end ?_
  refine Cov.cond_dec rfl (fun c6 => ?_) (fun c6 => ?_)
  · have r7 := ifT r3 c6; clear r3
    refine Cov.seq ?_
    refine Cov.region rfl ?_
    refine Cov.q .ro (.move rfl) rfl ?_
    refine Cov.q .ro (.assign rfl) rfl ?_
    refine Cov.q .ro (.assign rfl) rfl ?_
    refine Cov.q .ro (.assign rfl) rfl ?_
    refine Cov.region_end ?_
    cases r7
    refine Cov.drop 1 0 [] _ rfl rfl ?_
    refine Cov.retS (c := ⟨15, none⟩) (.inr ⟨_, rfl⟩) [.tmp 6, .tmp 7, .tmp 8] [_, _, _] rfl Try.func15 Try.results15 ⟨RV.tmp rfl, RV.tmp rfl, RV.tmp rfl, trivial⟩ (fun _ h => List.mem_cons_of_mem _ h) ⟨rfl, rfl, rfl⟩
  · have r8 := ifF r3 c6; clear r3
    refine Cov.skip ?_
    refine Cov.seq ?_
    refine Cov.seq ?_
    refine Cov.region rfl ?_
    refine Cov.q .ro (.move rfl) rfl ?_
    refine Cov.q .ro (.lss rfl rfl) rfl ?_
    refine Cov.q .ro (.move rfl) rfl ?_
    refine Cov.cutR 3 (β := Unit) (fun y => [(28, .bool (decide ((x1 < 0) ∨ (1024 < x1))))]) [(1, _), (2, _), (3, _)] (fun y => G :: Fs) (fun y => []) [_] (fun y => []) [] (fun y => True) ⟨rfl, rfl, rfl, trivial⟩ [0] rfl [] rfl ?_ ?_
    · rintro _ _
      refine Cov.prune [(28, .bool (decide ((x1 < 0) ∨ (1024 < x1)))), (1, _), (2, _), (3, _)] ⟨rfl, rfl, rfl, rfl, trivial⟩ ?_
      refine Cov.same (bl' := [_]) (sl' := []) (Fs' := G :: Fs) rfl rfl rfl ?_
      refine Cov.q .ro (.move rfl) rfl ?_
      refine Cov.cutR 3 (β := Unit) (fun y => [(32, .bool (decide (((x1 < 0) ∨ (1024 < x1)) ∨ (x2 < 0))))]) [(1, _), (2, _), (3, _)] (fun y => G :: Fs) (fun y => []) [_] (fun y => []) [] (fun y => True) ⟨rfl, rfl, rfl, trivial⟩ [0] rfl [] rfl ?_ ?_
      · rintro _ _
        refine Cov.prune [(32, .bool (decide (((x1 < 0) ∨ (1024 < x1)) ∨ (x2 < 0)))), (1, _), (2, _), (3, _)] ⟨rfl, rfl, rfl, rfl, trivial⟩ ?_
        refine Cov.same (bl' := [_]) (sl' := []) (Fs' := G :: Fs) rfl rfl rfl ?_
        refine Cov.q .ro (.move rfl) rfl ?_
        refine Cov.cutR 4 (β := Unit) (fun y => [(37, .bool (decide ((((x1 < 0) ∨ (1024 < x1)) ∨ (x2 < 0)) ∨ (x1 < x2))))]) [(1, _), (2, _), (3, _)] (fun y => G :: Fs) (fun y => []) [_] (fun y => []) [] (fun y => True) ⟨rfl, rfl, rfl, trivial⟩ [0] rfl [] rfl ?_ ?_
        · rintro _ _
          refine Cov.prune [(37, .bool (decide ((((x1 < 0) ∨ (1024 < x1)) ∨ (x2 < 0)) ∨ (x1 < x2)))), (1, _), (2, _), (3, _)] ⟨rfl, rfl, rfl, rfl, trivial⟩ ?_
          refine Cov.same (bl' := [_]) (sl' := []) (Fs' := G :: Fs) rfl rfl rfl ?_
          refine Cov.region_end ?_
          refine Cov.cond_dec rfl (fun c21 => ?_) (fun c21 => ?_)
          · have r22 := ifT r8 c21; clear r8
            refine Cov.seq ?_
            refine Cov.region rfl ?_
            refine Cov.q .ro (.assign rfl) rfl ?_
            refine Cov.q .ro (.assign rfl) rfl ?_
            refine Cov.q .ro (.assign rfl) rfl ?_
            refine Cov.region_end ?_
            cases r22
            refine Cov.drop 1 0 [] _ rfl rfl ?_
            refine Cov.retS (c := ⟨15, none⟩) (.inr ⟨_, rfl⟩) [.tmp 6, .tmp 7, .tmp 8] [_, _, _] rfl Try.func15 Try.results15 ⟨RV.tmp rfl, RV.tmp rfl, RV.tmp rfl, trivial⟩ (fun _ h => List.mem_cons_of_mem _ h) ⟨rfl, rfl, rfl⟩
          · have r23 := ifF r8 c21; clear r8
            refine Cov.skip ?_
            refine Cov.seq ?_
            refine Cov.region rfl ?_
            refine Cov.q .ro (.move rfl) rfl ?_
            refine Cov.q .ro (.move rfl) rfl ?_
            obtain ⟨u24, hu24, r25⟩ := bind_some r23; clear r23
            refine Cov.callS (b1 := []) (b2 := [_]) (s1 := []) [_, _] [] .ro rfl rfl Try.call39 rfl rfl (ref19_sets_c (G := G) List.mem_cons_self  hu24) rfl (fun v27 bo so h26 => ?_)
            obtain ⟨rfl, rfl, rfl⟩ := h26
            refine Cov.same (bl' := [_]) (sl' := []) rfl rfl rfl ?_
            refine Cov.q .ro (.assign rfl) rfl ?_
            refine Cov.region_end ?_
            refine Cov.seq ?_
            refine Cov.seq ?_
            refine Cov.region rfl ?_
            refine Cov.q .ro (.move rfl) rfl ?_
            refine Cov.q .ro (.gtr rfl rfl) rfl ?_
            refine Cov.region_end ?_
            refine Cov.cond_dec rfl (fun c28 => ?_) (fun c28 => ?_)
            · have r29 := ifT r25 c28; clear r25
              refine Cov.seq ?_
              refine Cov.region rfl ?_
              refine Cov.q .ro (.assign rfl) rfl ?_
              refine Cov.q .ro (.assign rfl) rfl ?_
              refine Cov.q .ro (.assign rfl) rfl ?_
              refine Cov.region_end ?_
              cases r29
              refine Cov.drop 1 0 [] _ rfl rfl ?_
              refine Cov.retS (c := ⟨15, none⟩) (.inr ⟨_, rfl⟩) [.tmp 6, .tmp 7, .tmp 8] [_, _, _] rfl Try.func15 Try.results15 ⟨RV.tmp rfl, RV.tmp rfl, RV.tmp rfl, trivial⟩ (fun _ h => List.mem_cons_of_mem _ h) ⟨rfl, rfl, rfl⟩
            · have r30 := ifF r25 c28; clear r25
              refine Cov.skip ?_
              refine Cov.seq ?_
              refine Cov.region rfl ?_
              refine Cov.q .ro (.assign rfl) rfl ?_
              refine Cov.region_end ?_
              refine Cov.seq ?_
              refine Cov.region rfl ?_
              refine Cov.q .ro (.assign rfl) rfl ?_
              refine Cov.region_end ?_
              refine Cov.seq ?_
              refine Cov.seq ?_
              refine Cov.region rfl ?_
              refine Cov.q .ro (.assign rfl) rfl ?_
              refine Cov.region_end ?_
              refine Cov.cutB (β := List Int × Option Addr × Nat × List Value × Int) (fun y => [(12, .slice y.2.1 y.1.length y.2.2.1)]) [(1, _), (2, _), (3, _), (10, _), (11, _)] (fun y => G :: Fs) (fun y => [(b1, .cells #[.int .i64 y.2.2.2.2, .slice a0_1 x0_1.length k0_1] 25 (0, 0))]) [] (fun y => [.s (.slice y.2.1 y.1.length y.2.2.1) 3 1 y.1.length y.2.2.2.1]) [] (fun y => OL (Rep.int .i64) G y.2.2.2.1 y.1 ∧ (ref19_Failures_J6 x1 x2 u24 x0_1) y.1 y.2.2.2.2 = some r) ⟨rfl, rfl, rfl, rfl, rfl, trivial⟩ [] rfl [] rfl ?_ ?_
              · intro y hI
                obtain ⟨v99, a100, k101, cs102, v105⟩ := y
                obtain ⟨o103, r107⟩ := hI
                try dsimp only at o103 r107
                refine Cov.prune [(12, .slice a100 v99.length k101), (1, _), (2, _), (3, _), (10, _), (11, _)] ⟨rfl, rfl, rfl, rfl, rfl, rfl, trivial⟩ ?_
                refine Cov.same (bl' := [(b1, .cells #[.int .i64 v105, .slice a0_1 x0_1.length k0_1] 25 (0, 0))]) (sl' := [.s (.slice a100 v99.length k101) 3 1 v99.length cs102]) (Fs' := G :: Fs) rfl rfl rfl ?_
                unfold ref19_Failures_J6 at r107
                try dsimp only at r107
                refine Cov.seq ?_
                refine Cov.seq ?_
                refine Cov.region rfl ?_
                refine Cov.q .ro (.move rfl) rfl ?_
                refine Cov.q .ro (.move rfl) rfl ?_
                refine Cov.region_end ?_
                refine Cov.block ?_
                refine Cov.loop2 (α := Nat × Int × Int × List Int × Option Addr × Nat × List Value × Int) (fun y => [(11, .int .i64 y.2.1), (53, .int .i64 y.2.2.1), (12, .slice y.2.2.2.2.1 y.2.2.2.1.length y.2.2.2.2.2.1)]) [(1, _), (2, _), (3, _), (10, _), (52, _)] (fun y => []) (fun y => [(b1, .cells #[.int .i64 y.2.2.2.2.2.2.2, .slice a0_1 x0_1.length k0_1] 25 (0, 0))]) [] (fun y => [.s (.slice y.2.2.2.2.1 y.2.2.2.1.length y.2.2.2.2.2.1) 3 1 y.2.2.2.1.length y.2.2.2.2.2.2.1]) [] (fun y => OL (Rep.int .i64) G y.2.2.2.2.2.2.1 y.2.2.2.1 ∧ ref19_Failures_L5 x1 x2 u24 x0_1 y.1 y.2.1 y.2.2.1 y.2.2.2.1 y.2.2.2.2.2.2.2 = some r) (fun y => y.1) (big, 0, 0, v99, a100, k101, cs102, v105) ⟨o103, r107⟩ ⟨rfl, rfl, rfl, rfl, rfl, rfl, rfl, rfl, trivial⟩ rfl rfl rfl (fun y hI hb381 => ?_)
                obtain ⟨n369, v371, v372, v373, a374, k375, cs376, v379⟩ := y
                obtain ⟨o377, r380⟩ := hI
                try dsimp only at o377 r380
                refine Cov.prune [(11, .int .i64 v371), (53, .int .i64 v372), (12, .slice a374 v373.length k375), (1, _), (2, _), (3, _), (10, _), (52, _)] ⟨rfl, rfl, rfl, rfl, rfl, rfl, rfl, rfl, trivial⟩ ?_
                refine Cov.same (bl' := [(b1, .cells #[.int .i64 v379, .slice a0_1 x0_1.length k0_1] 25 (0, 0))]) (sl' := [.s (.slice a374 v373.length k375) 3 1 v373.length cs376]) (Fs' := G :: Fs) rfl rfl rfl ?_
                obtain ⟨m387, rfl⟩ : ∃ m, n369 = m + 1 := by cases n369 with | zero => exact absurd (show (none : Option _) = some _ from r380) (by simp) | succ m => exact ⟨m, rfl⟩
                have r386 : ref19_Failures_B5 x1 x2 u24 x0_1 (ref19_Failures_L5 x1 x2 u24 x0_1 m387) v371 v372 v373 v379 = some r := r380; clear r380; unfold ref19_Failures_B5 at r386; try dsimp only at r386
                refine Cov.seq ?_
                refine Cov.region rfl ?_
                refine Cov.q .ro (.lss rfl rfl) rfl ?_
                refine Cov.region_end ?_
                refine Cov.seq ?_
                refine Cov.cond_dec rfl (fun c388 => ?_) (fun c388 => ?_)
                · have r389 := ifT r386 c388; clear r386
                  refine Cov.skip ?_
                  refine Cov.seq ?_
                  refine Cov.block ?_
                  refine Cov.seq ?_
                  refine Cov.seq ?_
                  refine Cov.region rfl ?_
                  refine Cov.q .ro (.load_own_a 0 [_, _] rfl rfl ty25 rfl) rfl ?_
                  refine Cov.q .ro (.move rfl) rfl ?_
                  refine Cov.openB (sB := [_]) (s2 := []) rfl B0 (fun G390 e391 B392 hr393 hc394 => ?_)
                  have s396 := SlR.rd o377 rfl e391 (hr393 _ (List.mem_of_getElem? (i := 0) rfl))
                  obtain ⟨u397, hu397, r398⟩ := bind_some r389; clear r389
                  refine Cov.callW (b1 := []) (b2 := [_]) (s1 := []) [_, _] [] .ro rfl rfl Try.call29 rfl rfl (ref19_Assign_c (G := G390) List.mem_cons_self (SlR.mono e391 s0_1) s396 hu397) rfl B392 (fun v400 bo so G401 e402 B403 h399 => ?_)
                  obtain ⟨a405, k406, rfl, rfl, rfl, s407⟩ := h399
                  refine Cov.same (bl' := [_]) (sl' := []) rfl rfl rfl ?_
                  refine Cov.q .ro (.move rfl) rfl ?_
                  refine Cov.q .ro (.extract rfl rfl) rfl ?_
                  refine Cov.q .ro (.extract rfl rfl) rfl ?_
                  refine Cov.alloc .ro ty43 rfl (fun b408 hb408 => ?_)
                  refine Cov.store 0 [_] [_, _] .ro rfl rfl rfl ty43 rfl rfl rfl rfl ?_
                  refine Cov.q .ro (.assign rfl) rfl ?_
                  refine hc394 _ _ _ _ _ _ e402 ?_
                  refine Cov.region_end ?_
                  refine Cov.seq ?_
                  refine Cov.region rfl ?_
                  refine Cov.q .ro (.move rfl) rfl ?_
                  refine Cov.q .ro (.neq rfl rfl) rfl ?_
                  refine Cov.region_end ?_
                  refine Cov.cutI (β := Int) (fun y => [(11, .int .i64 y)]) [(53, _), (12, _), (1, _), (2, _), (3, _), (10, _), (52, _)] (fun y => G :: Fs) (fun y => []) [_, _] (fun y => []) [_] (fun y => (ref19_Failures_J4 (ref19_Failures_L5 x1 x2 u24 x0_1 m387) v372 x1 x2 u24 v379 v373) y = some r) ⟨rfl, rfl, rfl, rfl, rfl, rfl, rfl, trivial⟩ [0, 1] rfl [0] rfl ?_ ?_
                  · intro v413 hI
                    have r415 := hI; clear hI
                    refine Cov.prune [(11, .int .i64 v413), (53, _), (12, _), (1, _), (2, _), (3, _), (10, _), (52, _)] ⟨rfl, rfl, rfl, rfl, rfl, rfl, rfl, rfl, trivial⟩ ?_
                    refine Cov.same (bl' := [_, _]) (sl' := [_]) (Fs' := G :: Fs) rfl rfl rfl ?_
                    unfold ref19_Failures_J4 at r415
                    try dsimp only at r415
                    refine Cov.seq ?_
                    refine Cov.region rfl ?_
                    refine Cov.q .ro (.move rfl) rfl ?_
                    refine Cov.q .ro (.subw rfl rfl) rfl ?_
                    refine Cov.q .ro (.assign rfl) rfl ?_
                    refine Cov.region_end ?_
                    refine Cov.seq ?_
                    refine Cov.cutB (β := Int × Int) (fun y => [(16, .int .i64 y.1)]) [(11, _), (53, _), (12, _), (1, _), (2, _), (3, _), (10, _), (52, _)] (fun y => G :: Fs) (fun y => [(b1, .cells #[.int .i64 y.2, .slice a0_1 x0_1.length k0_1] 25 (0, 0))]) [_] (fun y => []) [_] (fun y => (ref19_Failures_J2 (ref19_Failures_L5 x1 x2 u24 x0_1 m387) v413 v372 x2 u24 v373) y.1 y.2 = some r) ⟨rfl, rfl, rfl, rfl, rfl, rfl, rfl, rfl, trivial⟩ [0] rfl [0] rfl ?_ ?_
                    · intro y hI
                      obtain ⟨v485, v486⟩ := y
                      have r488 := hI; clear hI
                      try dsimp only at r488
                      refine Cov.prune [(16, .int .i64 v485), (11, _), (53, _), (12, _), (1, _), (2, _), (3, _), (10, _), (52, _)] ⟨rfl, rfl, rfl, rfl, rfl, rfl, rfl, rfl, rfl, trivial⟩ ?_
                      refine Cov.same (bl' := [(b1, .cells #[.int .i64 v486, .slice a0_1 x0_1.length k0_1] 25 (0, 0)), _]) (sl' := [_]) (Fs' := G :: Fs) rfl rfl rfl ?_
                      unfold ref19_Failures_J2 at r488
                      try dsimp only at r488
                      refine Cov.seq ?_
                      refine Cov.seq ?_
                      refine Cov.region rfl ?_
                      refine Cov.q .ro (.move rfl) rfl ?_
                      refine Cov.q .ro (.lss rfl rfl) rfl ?_
                      refine Cov.region_end ?_
                      refine Cov.cond_dec rfl (fun c496 => ?_) (fun c496 => ?_)
                      · have r497 := ifT r488 c496; clear r488
                        refine Cov.exit rfl ?_
                        refine Cov.seq ?_
                        refine Cov.region rfl ?_
                        refine Cov.q .ro (.move rfl) rfl ?_
                        refine Cov.q .ro (.move rfl) rfl ?_
                        refine Cov.q .ro (.assign rfl) rfl ?_
                        refine Cov.q .ro (.assign rfl) rfl ?_
                        refine Cov.q .ro (.assign rfl) rfl ?_
                        refine Cov.region_end ?_
                        refine Cov.prune [(6, _), (7, _), (8, _)] ⟨rfl, rfl, rfl, trivial⟩ ?_
                        cases r497
                        refine Cov.drop 2 0 [] _ rfl rfl ?_
                        refine Cov.drop 0 1 _ [] rfl rfl ?_
                        refine Cov.retS (c := ⟨15, none⟩) (.inr ⟨_, rfl⟩) [.tmp 6, .tmp 7, .tmp 8] [_, _, _] rfl Try.func15 Try.results15 ⟨RV.tmp rfl, RV.tmp rfl, RV.tmp rfl, trivial⟩ (fun _ h => List.mem_cons_of_mem _ h) ⟨rfl, rfl, rfl⟩
                      · have r498 := ifF r488 c496; clear r488
                        refine Cov.skip ?_
                        refine Cov.seq ?_
                        refine Cov.region rfl ?_
                        refine Cov.q .ro (.move rfl) rfl ?_
                        refine Cov.q .ro (.move rfl) rfl ?_
                        obtain ⟨u499, hu499, r500⟩ := bind_some r498; clear r498
                        obtain ⟨c501, p502, h503⟩ := OL.get o377 hu499
                        obtain rfl := h503
                        refine Cov.q .ro (.idxO 0 rfl rfl rfl hu499 sl22 ty3.sz) rfl ?_
                        refine Cov.q .ro (.loadO 0 0 rfl hu499 p502 rfl (.inl ⟨rfl, rfl⟩) ty3 rfl) rfl ?_
                        refine Cov.q .ro (.addw rfl rfl) rfl ?_
                        obtain ⟨u504, hu504, r505⟩ := bind_some r500; clear r500
                        obtain ⟨c506, p507, h508⟩ := OL.get o377 hu504
                        obtain rfl := h508
                        refine Cov.q .ro (.idxO 0 rfl rfl rfl hu504 sl22 ty3.sz) rfl ?_
                        obtain ⟨u509, hu509, r510⟩ := bind_some r505; clear r505
                        refine Cov.storeR 0 0 (Q := (Rep.int .i64)) .ro rfl rfl o377 hu509 rfl (.inl ⟨rfl, rfl⟩) rfl ty3 p507 ((Rep.intI .i64 (w64 (u499 + 1))) :) rfl rfl (fun cs511 hlcs511 o512 => ?_)
                        refine Cov.reval 12 hlcs511 rfl ?_
                        refine Cov.reval 85 hlcs511 rfl ?_
                        refine Cov.region_end ?_
                        refine Cov.seq ?_
                        refine Cov.region rfl ?_
                        refine Cov.q .ro (.move rfl) rfl ?_
                        refine Cov.q .ro (.addw rfl rfl) rfl ?_
                        refine Cov.q .ro (.assign rfl) rfl ?_
                        refine Cov.region_end ?_
                        refine Cov.block ?_
                        refine Cov.loop2 (α := Nat × Int × List Int × Option Addr × Nat × List Value) (fun y => [(17, .int .i64 y.2.1), (12, .slice y.2.2.2.1 y.2.2.1.length y.2.2.2.2.1)]) [(11, _), (53, _), (1, _), (2, _), (3, _), (10, _), (52, _)] (fun y => []) (fun y => []) [_, _] (fun y => [.s (.slice y.2.2.2.1 y.2.2.1.length y.2.2.2.2.1) 3 1 y.2.2.1.length y.2.2.2.2.2]) [] (fun y => OL (Rep.int .i64) G y.2.2.2.2.2 y.2.2.1 ∧ ref19_Failures_L1 (ref19_Failures_L5 x1 x2 u24 x0_1 m387) v413 v372 x2 v486 y.1 y.2.1 y.2.2.1 = some r) (fun y => y.1) (big, (w64 (v485 + 1)), u509, a374, k375, cs511) ⟨o512, r510⟩ ⟨rfl, rfl, rfl, rfl, rfl, rfl, rfl, rfl, rfl, trivial⟩ rfl rfl rfl (fun y hI hb545 => ?_)
                        obtain ⟨n535, v537, v538, a539, k540, cs541⟩ := y
                        obtain ⟨o542, r544⟩ := hI
                        try dsimp only at o542 r544
                        refine Cov.prune [(17, .int .i64 v537), (12, .slice a539 v538.length k540), (11, _), (53, _), (1, _), (2, _), (3, _), (10, _), (52, _)] ⟨rfl, rfl, rfl, rfl, rfl, rfl, rfl, rfl, rfl, trivial⟩ ?_
                        refine Cov.same (bl' := [_, _]) (sl' := [.s (.slice a539 v538.length k540) 3 1 v538.length cs541]) (Fs' := G :: Fs) rfl rfl rfl ?_
                        obtain ⟨m554, rfl⟩ : ∃ m, n535 = m + 1 := by cases n535 with | zero => exact absurd (show (none : Option _) = some _ from r544) (by simp) | succ m => exact ⟨m, rfl⟩
                        have r553 : ref19_Failures_B1 (ref19_Failures_L5 x1 x2 u24 x0_1 m387) v413 v372 x2 v486 (ref19_Failures_L1 (ref19_Failures_L5 x1 x2 u24 x0_1 m387) v413 v372 x2 v486 m554) v537 v538 = some r := r544; clear r544; unfold ref19_Failures_B1 at r553; try dsimp only at r553
                        refine Cov.seq ?_
                        refine Cov.seq ?_
                        refine Cov.region rfl ?_
                        refine Cov.q .ro (.move rfl) rfl ?_
                        refine Cov.q .ro (.move rfl) rfl ?_
                        refine Cov.q .ro (.lss rfl rfl) rfl ?_
                        refine Cov.region_end ?_
                        refine Cov.cond_dec rfl (fun c555 => ?_) (fun c555 => ?_)
                        · have r556 := ifT r553 c555; clear r553
                          refine Cov.skip ?_
                          refine Cov.seq ?_
                          refine Cov.block ?_
                          refine Cov.region rfl ?_
                          refine Cov.q .ro (.move rfl) rfl ?_
                          refine Cov.q .ro (.move rfl) rfl ?_
                          refine Cov.q .ro (.move rfl) rfl ?_
                          refine Cov.q .ro (.move rfl) rfl ?_
                          refine Cov.q .ro (.subw rfl rfl) rfl ?_
                          obtain ⟨u557, hu557, r558⟩ := bind_some r556; clear r556
                          obtain ⟨c559, p560, h561⟩ := OL.get o542 hu557
                          obtain rfl := h561
                          refine Cov.q .ro (.idxO 0 rfl rfl rfl hu557 sl22 ty3.sz) rfl ?_
                          refine Cov.q .ro (.loadO 0 0 rfl hu557 p560 rfl (.inl ⟨rfl, rfl⟩) ty3 rfl) rfl ?_
                          refine Cov.q .ro (.addw rfl rfl) rfl ?_
                          obtain ⟨u562, hu562, r563⟩ := bind_some r558; clear r558
                          obtain ⟨c564, p565, h566⟩ := OL.get o542 hu562
                          obtain rfl := h566
                          refine Cov.q .ro (.idxO 0 rfl rfl rfl hu562 sl22 ty3.sz) rfl ?_
                          obtain ⟨u567, hu567, r568⟩ := bind_some r563; clear r563
                          refine Cov.storeR 0 0 (Q := (Rep.int .i64)) .ro rfl rfl o542 hu567 rfl (.inl ⟨rfl, rfl⟩) rfl ty3 p565 ((Rep.intI .i64 (w64 (u557 + 1))) :) rfl rfl (fun cs569 hlcs569 o570 => ?_)
                          refine Cov.reval 12 hlcs569 rfl ?_
                          refine Cov.reval 98 hlcs569 rfl ?_
                          refine Cov.reval 100 hlcs569 rfl ?_
                          refine Cov.region_end ?_
                          refine Cov.inBlock ?_
                          refine Cov.region rfl ?_
                          refine Cov.q .ro (.move rfl) rfl ?_
                          refine Cov.q .ro (.addw rfl rfl) rfl ?_
                          refine Cov.q .ro (.assign rfl) rfl ?_
                          refine Cov.region_end ?_
                          refine Cov.prune [(17, _), (12, _), (11, _), (53, _), (1, _), (2, _), (3, _), (10, _), (52, _)] ⟨rfl, rfl, rfl, rfl, rfl, rfl, rfl, rfl, rfl, trivial⟩ ?_
                          refine Cov.prune _ ?_ (Cov.same rfl rfl rfl (hb545 (m554, (w64 (v537 + 1)), u567, a539, k540, cs569) ⟨o570, r568⟩ (Nat.lt_succ_self _)))
                          exact ⟨rfl, rfl, rfl, rfl, rfl, rfl, rfl, rfl, rfl, trivial⟩
                        · have r572 := ifF r553 c555; clear r553
                          refine Cov.exit rfl ?_
                          refine Cov.inBlock ?_
                          refine Cov.region rfl ?_
                          refine Cov.q .ro (.addw rfl rfl) rfl ?_
                          refine Cov.q .ro (.move rfl) rfl ?_
                          refine Cov.region_end ?_
                          refine Cov.pull 1 rfl [_, _] rfl ?_
                          refine Cov.drop 1 0 [_] _ rfl rfl ?_
                          refine Cov.prune _ ?_ (Cov.same rfl rfl rfl (hb381 (m387, v413, (w64 (v372 + 1)), v538, a539, k540, cs541, v486) ⟨o542, r572⟩ (Nat.lt_succ_self _)))
                          exact ⟨rfl, rfl, rfl, rfl, rfl, rfl, rfl, rfl, trivial⟩
                    · intro hb573
                      refine Cov.block ?_
                      refine Cov.loop2 (α := Nat × Int) (fun y => [(16, .int .i64 y.2)]) [(11, _), (53, _), (12, _), (1, _), (2, _), (3, _), (10, _), (52, _)] (fun y => []) (fun y => []) [_, _] (fun y => []) [_] (fun y => ref19_Failures_L3 (ref19_Failures_J2 (ref19_Failures_L5 x1 x2 u24 x0_1 m387) v413 v372 x2 u24 v373) x1 x2 v379 v373 y.1 y.2 = some r) (fun y => y.1) (big, (w64 (x2 - 1))) r415 ⟨rfl, rfl, rfl, rfl, rfl, rfl, rfl, rfl, rfl, trivial⟩ rfl rfl rfl (fun y hI hb603 => ?_)
                      obtain ⟨n599, v601⟩ := y
                      have r602 := hI; clear hI
                      try dsimp only at r602
                      refine Cov.prune [(16, .int .i64 v601), (11, _), (53, _), (12, _), (1, _), (2, _), (3, _), (10, _), (52, _)] ⟨rfl, rfl, rfl, rfl, rfl, rfl, rfl, rfl, rfl, trivial⟩ ?_
                      refine Cov.same (bl' := [_, _]) (sl' := [_]) (Fs' := G :: Fs) rfl rfl rfl ?_
                      obtain ⟨m613, rfl⟩ : ∃ m, n599 = m + 1 := by cases n599 with | zero => exact absurd (show (none : Option _) = some _ from r602) (by simp) | succ m => exact ⟨m, rfl⟩
                      have r612 : ref19_Failures_B3 (ref19_Failures_J2 (ref19_Failures_L5 x1 x2 u24 x0_1 m387) v413 v372 x2 u24 v373) x1 x2 v379 v373 (ref19_Failures_L3 (ref19_Failures_J2 (ref19_Failures_L5 x1 x2 u24 x0_1 m387) v413 v372 x2 u24 v373) x1 x2 v379 v373 m613) v601 = some r := r602; clear r602; unfold ref19_Failures_B3 at r612; try dsimp only at r612
                      refine Cov.seq ?_
                      refine Cov.seq ?_
                      refine Cov.region rfl ?_
                      refine Cov.q .ro (.move rfl) rfl ?_
                      refine Cov.q .ro (.geq rfl rfl) rfl ?_
                      refine Cov.q .ro (.move rfl) rfl ?_
                      obtain ⟨u621, h622, r623⟩ := bind_some r612; clear r612
                      refine Cov.cutR 11 (β := Unit) (fun y => [(80, .bool u621)]) [(16, _), (11, _), (53, _), (12, _), (1, _), (2, _), (3, _), (10, _), (52, _)] (fun y => G :: Fs) (fun y => []) [_, _] (fun y => []) [_] (fun y => True) ⟨rfl, rfl, rfl, rfl, rfl, rfl, rfl, rfl, rfl, trivial⟩ [0, 1] rfl [0] rfl ?_ ?_
                      · rintro _ _
                        refine Cov.prune [(80, .bool u621), (16, _), (11, _), (53, _), (12, _), (1, _), (2, _), (3, _), (10, _), (52, _)] ⟨rfl, rfl, rfl, rfl, rfl, rfl, rfl, rfl, rfl, rfl, trivial⟩ ?_
                        refine Cov.same (bl' := [_, _]) (sl' := [_]) (Fs' := G :: Fs) rfl rfl rfl ?_
                        refine Cov.region_end ?_
                        refine Cov.cond rfl (fun c626 => ?_) (fun c626 => ?_)
                        · have r627 := ifT r623 c626; clear r623
                          refine Cov.skip ?_
                          refine Cov.block ?_
                          refine Cov.region rfl ?_
                          refine Cov.q .ro (.move rfl) rfl ?_
                          refine Cov.q .ro (.subw rfl rfl) rfl ?_
                          refine Cov.q .ro (.assign rfl) rfl ?_
                          refine Cov.region_end ?_
                          refine Cov.inBlock ?_
                          refine Cov.prune _ ?_ (Cov.same rfl rfl rfl (hb603 (m613, (w64 (v601 - 1))) r627 (Nat.lt_succ_self _)))
                          exact ⟨rfl, rfl, rfl, rfl, rfl, rfl, rfl, rfl, rfl, trivial⟩
                        · have r628 := ifBF r623 c626; clear r623
                          refine Cov.exit rfl ?_
                          refine Cov.pull 1 rfl [_, _] rfl ?_
                          refine Cov.prune _ ?_ (Cov.same rfl rfl rfl (hb573 (v601, v379) r628))
                          exact ⟨rfl, rfl, rfl, rfl, rfl, rfl, rfl, rfl, rfl, trivial⟩
                      · intro hb620
                        refine Cov.split 69 rfl (fun c619 => ?_) (fun c619 => ?_)
                        · have r629 := ifT h622 c619
                          refine Cov.g_on rfl ?_
                          refine Cov.q .ro (.move rfl) rfl ?_
                          refine Cov.g_on rfl ?_
                          refine Cov.q .ro (.move rfl) rfl ?_
                          refine Cov.g_on rfl ?_
                          obtain ⟨u630, hu630, r631⟩ := bind_some r629; clear r629
                          obtain ⟨c632, p633, h634⟩ := OL.get o377 hu630
                          obtain rfl := h634
                          refine Cov.q .ro (.idxO 0 rfl rfl rfl hu630 sl22 ty3.sz) rfl ?_
                          refine Cov.g_on rfl ?_
                          refine Cov.q .ro (.loadO 0 0 rfl hu630 p633 rfl (.inl ⟨rfl, rfl⟩) ty3 rfl) rfl ?_
                          refine Cov.g_on rfl ?_
                          refine Cov.q .ro (.move rfl) rfl ?_
                          refine Cov.g_on rfl ?_
                          refine Cov.q .ro (.move rfl) rfl ?_
                          refine Cov.g_on rfl ?_
                          refine Cov.q .ro (.subw rfl rfl) rfl ?_
                          refine Cov.g_on rfl ?_
                          refine Cov.q .ro (.move rfl) rfl ?_
                          refine Cov.g_on rfl ?_
                          refine Cov.q .ro (.addw rfl rfl) rfl ?_
                          refine Cov.g_on rfl ?_
                          refine Cov.q .ro (.eql rfl rfl) rfl ?_
                          refine Cov.q .ro (.pick_t rfl rfl) rfl ?_
                          refine Cov.prune _ ?_ (Cov.same rfl rfl rfl (hb620 () trivial))
                          exact ⟨sval r631, rfl, rfl, rfl, rfl, rfl, rfl, rfl, rfl, rfl, trivial⟩
                        · have r635 := ifF h622 c619
                          refine Cov.g_off rfl rfl rfl ?_
                          refine Cov.g_off rfl rfl rfl ?_
                          refine Cov.g_off rfl rfl rfl ?_
                          refine Cov.g_off rfl rfl rfl ?_
                          refine Cov.g_off rfl rfl rfl ?_
                          refine Cov.g_off rfl rfl rfl ?_
                          refine Cov.g_off rfl rfl rfl ?_
                          refine Cov.g_off rfl rfl rfl ?_
                          refine Cov.g_off rfl rfl rfl ?_
                          refine Cov.g_off rfl rfl rfl ?_
                          refine Cov.q .ro (.pick_f rfl rfl) rfl ?_
                          refine Cov.prune _ ?_ (Cov.same rfl rfl rfl (hb620 () trivial))
                          exact ⟨sval r635, rfl, rfl, rfl, rfl, rfl, rfl, rfl, rfl, rfl, trivial⟩
                  · intro hb636
                    refine Cov.cond_dec rfl (fun c637 => ?_) (fun c637 => ?_)
                    · have r638 := ifT r398 c637; clear r398
                      refine Cov.region rfl ?_
                      refine Cov.q .ro (.move rfl) rfl ?_
                      refine Cov.q .ro (.addw rfl rfl) rfl ?_
                      refine Cov.q .ro (.assign rfl) rfl ?_
                      refine Cov.region_end ?_
                      refine Cov.prune [(11, _), (53, _), (12, _), (1, _), (2, _), (3, _), (10, _), (52, _)] ⟨rfl, rfl, rfl, rfl, rfl, rfl, rfl, rfl, trivial⟩ ?_
                      refine Cov.prune _ ?_ (Cov.same rfl rfl rfl (hb636 ((w64 (v371 + 1))) r638))
                      exact ⟨rfl, rfl, rfl, rfl, rfl, rfl, rfl, rfl, trivial⟩
                    · have r639 := ifF r398 c637; clear r398
                      refine Cov.skip ?_
                      refine Cov.prune _ ?_ (Cov.same rfl rfl rfl (hb636 (v371) r639))
                      exact ⟨rfl, rfl, rfl, rfl, rfl, rfl, rfl, rfl, trivial⟩
                · have r640 := ifF r386 c388; clear r386
                  refine Cov.exit rfl ?_
                  refine Cov.seq ?_
                  refine Cov.region rfl ?_
                  refine Cov.q .ro (.move rfl) rfl ?_
                  refine Cov.q .ro (.move rfl) rfl ?_
                  refine Cov.q .ro (.assign rfl) rfl ?_
                  refine Cov.q .ro (.assign rfl) rfl ?_
                  refine Cov.q .ro (.assign rfl) rfl ?_
                  refine Cov.region_end ?_
                  cases r640
                  refine Cov.drop 1 0 [] _ rfl rfl ?_
                  refine Cov.drop 0 1 _ [] rfl rfl ?_
                  refine Cov.retS (c := ⟨15, none⟩) (.inr ⟨_, rfl⟩) [.tmp 6, .tmp 7, .tmp 8] [_, _, _] rfl Try.func15 Try.results15 ⟨RV.tmp rfl, RV.tmp rfl, RV.tmp rfl, trivial⟩ (fun _ h => List.mem_cons_of_mem _ h) ⟨rfl, rfl, rfl⟩
              · intro hb641
                refine Cov.block ?_
                refine Cov.own_nil 3 1 ?_
                refine Cov.loop2 (α := Nat × List Int × Option Addr × Nat × List Value × Int) (fun y => [(12, .slice y.2.2.1 y.2.1.length y.2.2.2.1), (13, .int .i64 y.2.2.2.2.2)]) [(1, _), (2, _), (3, _), (10, _), (11, _)] (fun y => []) (fun y => []) [_] (fun y => [.s (.slice y.2.2.1 y.2.1.length y.2.2.2.1) 3 1 y.2.1.length y.2.2.2.2.1]) [] (fun y => OL (Rep.int .i64) G y.2.2.2.2.1 y.2.1 ∧ ref19_Failures_L7 (ref19_Failures_J6 x1 x2 u24 x0_1) x2 x0_0 y.1 y.2.1 y.2.2.2.2.2 = some r) (fun y => y.1) (big, ([] : List Int), none, 0, [], 0) ⟨(OL.nil (Rp' := (Rep.int .i64))), r30⟩ ⟨rfl, rfl, rfl, rfl, rfl, rfl, rfl, trivial⟩ rfl rfl rfl (fun y hI hb690 => ?_)
                obtain ⟨n680, v682, a683, k684, cs685, v688⟩ := y
                obtain ⟨o686, r689⟩ := hI
                try dsimp only at o686 r689
                refine Cov.prune [(12, .slice a683 v682.length k684), (13, .int .i64 v688), (1, _), (2, _), (3, _), (10, _), (11, _)] ⟨rfl, rfl, rfl, rfl, rfl, rfl, rfl, trivial⟩ ?_
                refine Cov.same (bl' := [_]) (sl' := [.s (.slice a683 v682.length k684) 3 1 v682.length cs685]) (Fs' := G :: Fs) rfl rfl rfl ?_
                obtain ⟨m697, rfl⟩ : ∃ m, n680 = m + 1 := by cases n680 with | zero => exact absurd (show (none : Option _) = some _ from r689) (by simp) | succ m => exact ⟨m, rfl⟩
                have r696 : ref19_Failures_B7 (ref19_Failures_J6 x1 x2 u24 x0_1) x2 x0_0 (ref19_Failures_L7 (ref19_Failures_J6 x1 x2 u24 x0_1) x2 x0_0 m697) v682 v688 = some r := r689; clear r689; unfold ref19_Failures_B7 at r696; try dsimp only at r696
                refine Cov.seq ?_
                refine Cov.seq ?_
                refine Cov.region rfl ?_
                refine Cov.q .ro (.move rfl) rfl ?_
                refine Cov.q .ro (.move rfl) rfl ?_
                refine Cov.q .ro (.lss rfl rfl) rfl ?_
                refine Cov.region_end ?_
                refine Cov.cond_dec rfl (fun c698 => ?_) (fun c698 => ?_)
                · have r699 := ifT r696 c698; clear r696
                  refine Cov.skip ?_
                  refine Cov.seq ?_
                  refine Cov.block ?_
                  refine Cov.region rfl ?_
                  refine Cov.q .ro (.move rfl) rfl ?_
                  refine Cov.q .ro (.move rfl) rfl ?_
                  refine Cov.lit [_] [(0, _)] .ro sl22 ty3 rfl rfl rfl rfl rfl rfl (fun b700 hb700 => ?_)
                  have o701 : OL (Rep.int .i64) G [.int .i64 v688] ([v688] : List Int) := ((OL.cons rfl (Rep.intI .i64 v688) (OL.nil (Rp' := (Rep.int .i64)))) :)
                  refine Cov.reval 50 (n' := ([v688] : List Int).length) rfl rfl ?_
                  obtain ⟨u707, hu707, r708⟩ := bind_some r699; clear r699
                  refine Cov.appO (Q := (Rep.int .i64)) 0 .ro sl22 ty3 rfl rfl rfl rfl rfl rfl o686 o701 rfl rfl rfl B0 hu707 rfl (fun a703 k704 cs705 o706 => ?_)
                  refine Cov.q .ro (.assign rfl) rfl ?_
                  refine Cov.region_end ?_
                  refine Cov.inBlock ?_
                  refine Cov.region rfl ?_
                  refine Cov.q .ro (.move rfl) rfl ?_
                  refine Cov.q .ro (.addw rfl rfl) rfl ?_
                  refine Cov.q .ro (.assign rfl) rfl ?_
                  refine Cov.region_end ?_
                  refine Cov.prune _ ?_ (Cov.same rfl rfl rfl (hb690 (m697, u707, a703, k704, cs705, (w64 (v688 + 1))) ⟨o706, r708⟩ (Nat.lt_succ_self _)))
                  exact ⟨rfl, rfl, rfl, rfl, rfl, rfl, rfl, trivial⟩
                · have r710 := ifF r696 c698; clear r696
                  refine Cov.exit rfl ?_
                  refine Cov.prune _ ?_ (Cov.same rfl rfl rfl (hb641 (v682, a683, k684, cs685, x0_0) ⟨o686, r710⟩))
                  exact ⟨rfl, rfl, rfl, rfl, rfl, rfl, trivial⟩
        · intro hb18
          refine Cov.split 33 rfl (fun c17 => ?_) (fun c17 => ?_)
          · refine Cov.g_off rfl rfl rfl ?_
            refine Cov.g_off rfl rfl rfl ?_
            refine Cov.g_off rfl rfl rfl ?_
            refine Cov.q .ro (.pick_t rfl rfl) rfl ?_
            refine Cov.prune _ ?_ (Cov.same rfl rfl rfl (hb18 () trivial))
            exact ⟨dor_t c17, rfl, rfl, rfl, trivial⟩
          · refine Cov.g_on rfl ?_
            refine Cov.q .ro (.move rfl) rfl ?_
            refine Cov.g_on rfl ?_
            refine Cov.q .ro (.move rfl) rfl ?_
            refine Cov.g_on rfl ?_
            refine Cov.q .ro (.gtr rfl rfl) rfl ?_
            refine Cov.q .ro (.pick_f rfl rfl) rfl ?_
            refine Cov.prune _ ?_ (Cov.same rfl rfl rfl (hb18 () trivial))
            exact ⟨dor_f c17, rfl, rfl, rfl, trivial⟩
      · intro hb14
        refine Cov.split 29 rfl (fun c13 => ?_) (fun c13 => ?_)
        · refine Cov.g_off rfl rfl rfl ?_
          refine Cov.g_off rfl rfl rfl ?_
          refine Cov.q .ro (.pick_t rfl rfl) rfl ?_
          refine Cov.prune _ ?_ (Cov.same rfl rfl rfl (hb14 () trivial))
          exact ⟨dor_t c13, rfl, rfl, rfl, trivial⟩
        · refine Cov.g_on rfl ?_
          refine Cov.q .ro (.move rfl) rfl ?_
          refine Cov.g_on rfl ?_
          refine Cov.q .ro (.lss rfl rfl) rfl ?_
          refine Cov.q .ro (.pick_f rfl rfl) rfl ?_
          refine Cov.prune _ ?_ (Cov.same rfl rfl rfl (hb14 () trivial))
          exact ⟨dor_f c13, rfl, rfl, rfl, trivial⟩
    · intro hb10
      refine Cov.split 25 rfl (fun c9 => ?_) (fun c9 => ?_)
      · refine Cov.g_off rfl rfl rfl ?_
        refine Cov.g_off rfl rfl rfl ?_
        refine Cov.q .ro (.pick_t rfl rfl) rfl ?_
        refine Cov.prune _ ?_ (Cov.same rfl rfl rfl (hb10 () trivial))
        exact ⟨dor_t c9, rfl, rfl, rfl, trivial⟩
      · refine Cov.g_on rfl ?_
        refine Cov.q .ro (.move rfl) rfl ?_
        refine Cov.g_on rfl ?_
        refine Cov.q .ro (.gtr rfl rfl) rfl ?_
        refine Cov.q .ro (.pick_f rfl rfl) rfl ?_
        refine Cov.prune _ ?_ (Cov.same rfl rfl rfl (hb10 () trivial))
        exact ⟨dor_f c9, rfl, rfl, rfl, trivial⟩

set_option maxHeartbeats 4000000 in
set_option maxRecDepth 100000 in
theorem law19_items_c {Fs : List Hp} {G : Hp} {p0 : Nat} {a0_0 : Option Addr} {k0_0 : Nat} {x0_0 : List Int} {x0_1 : Int} {x1 : Int} {r : ((List Int) × ((List Int) × Int))} (hG : G ∈ Fs) (s0_0 : SlR (Rep.int .i64) G a0_0 k0_0 x0_0) (h : law19_items (x0_0, x0_1) x1 = some r) : RetS Try.prog 16 #[.pointer (some ⟨p0, 0, none⟩), .int .i64 x1] Fs [(p0, .cells #[.slice a0_0 x0_0.length k0_0, .int .i64 x0_1] 64 (0, 0))] [] (fun v bo so => ∃ a0 : Option Addr, ∃ k0 : Nat, ∃ (oa0 : Option Addr) (ok0 : Nat) (oc0 : List Value), v = .slice oa0 r.1.length ok0 ∧ bo = [(p0, .cells #[.slice a0 r.2.1.length k0, .int .i64 r.2.2] 64 (0, 0))] ∧ so = [.s (.slice oa0 r.1.length ok0) 3 1 r.1.length oc0] ∧ SlR (Rep.int .i64) G a0 k0 r.2.1 ∧ OL (Rep.int .i64) G oc0 r.1) := by
  unfold law19_items at h
  try dsimp only at h
  refine RetS.of (vs := [_, _]) Try.func16 rfl Try.ntmps16 [(0, _), (1, _)] ⟨rfl, rfl, trivial⟩ rfl hG fun w0 S0 hS0 B0 => ?_
  refine Cov.seq ?_
  refine Cov.region rfl ?_
  refine Cov.q .ro (.assign rfl) rfl ?_
  refine Cov.region_end ?_
  refine Cov.seq ?_
  refine Cov.region rfl ?_
  refine Cov.q .ro (.assign rfl) rfl ?_
  refine Cov.region_end ?_
  refine Cov.seq ?_
  refine Cov.seq ?_
  refine Cov.region rfl ?_
  refine Cov.q .ro (.move rfl) rfl ?_
  refine Cov.q .ro (.move rfl) rfl ?_
  refine Cov.q .ro (.addw rfl rfl) rfl ?_
  obtain ⟨u1, hu1, r2⟩ := bind_some h; clear h
  refine Cov.callS (b1 := [_]) (b2 := []) (s1 := []) [_, _] [] .ro rfl rfl Try.call31 rfl rfl (make_Deck_Next_c (G := G) List.mem_cons_self s0_0 hu1) rfl (fun v4 bo so h3 => ?_)
  obtain ⟨a5, k6, rfl, rfl, rfl, s7⟩ := h3
  refine Cov.same (bl' := [_]) (sl' := []) rfl rfl rfl ?_
  refine Cov.q .ro (.assign rfl) rfl ?_
  refine Cov.region_end ?_
  refine Cov.block ?_
  refine Cov.own_nil 3 1 ?_
  refine Cov.loop2 (α := Nat × List Int × Option Addr × Nat × List Value × Int × List Int × Option Addr × Nat × Int) (fun y => [(5, .slice y.2.2.1 y.2.1.length y.2.2.2.1), (6, .int .i64 y.2.2.2.2.2.1)]) [(0, _)] (fun y => []) (fun y => [(p0, .cells #[.slice y.2.2.2.2.2.2.2.1 y.2.2.2.2.2.2.1.length y.2.2.2.2.2.2.2.2.1, .int .i64 y.2.2.2.2.2.2.2.2.2] 64 (0, 0))]) [] (fun y => [.s (.slice y.2.2.1 y.2.1.length y.2.2.2.1) 3 1 y.2.1.length y.2.2.2.2.1]) [] (fun y => OL (Rep.int .i64) G y.2.2.2.2.1 y.2.1 ∧ SlR (Rep.int .i64) G y.2.2.2.2.2.2.2.1 y.2.2.2.2.2.2.2.2.1 y.2.2.2.2.2.2.1 ∧ law19_items_L1 y.1 y.2.1 y.2.2.2.2.2.1 y.2.2.2.2.2.2.1 y.2.2.2.2.2.2.2.2.2 = some r) (fun y => y.1) (big, ([] : List Int), none, 0, [], u1.1, u1.2.1, a5, k6, u1.2.2) ⟨(OL.nil (Rp' := (Rep.int .i64))), s7, r2⟩ ⟨rfl, rfl, rfl, trivial⟩ rfl rfl rfl (fun y hI hb75 => ?_)
  obtain ⟨n60, v62, a63, k64, cs65, v68, v69, a70, k71, v73⟩ := y
  obtain ⟨o66, s72, r74⟩ := hI
  try dsimp only at o66 s72 r74
  refine Cov.prune [(5, .slice a63 v62.length k64), (6, .int .i64 v68), (0, _)] ⟨rfl, rfl, rfl, trivial⟩ ?_
  refine Cov.same (bl' := [(p0, .cells #[.slice a70 v69.length k71, .int .i64 v73] 64 (0, 0))]) (sl' := [.s (.slice a63 v62.length k64) 3 1 v62.length cs65]) (Fs' := G :: Fs) rfl rfl rfl ?_
  obtain ⟨m77, rfl⟩ : ∃ m, n60 = m + 1 := by cases n60 with | zero => exact absurd (show (none : Option _) = some _ from r74) (by simp) | succ m => exact ⟨m, rfl⟩
  have r76 : law19_items_B1 (law19_items_L1 m77) v62 v68 v69 v73 = some r := r74; clear r74; unfold law19_items_B1 at r76; try dsimp only at r76
  refine Cov.seq ?_
  refine Cov.seq ?_
  refine Cov.region rfl ?_
  refine Cov.q .ro (.move rfl) rfl ?_
  refine Cov.q .ro (.gtr rfl rfl) rfl ?_
  refine Cov.region_end ?_
  refine Cov.cond_dec rfl (fun c78 => ?_) (fun c78 => ?_)
  · have r79 := ifT r76 c78; clear r76
    refine Cov.skip ?_
    refine Cov.seq ?_
    refine Cov.block ?_
    refine Cov.region rfl ?_
    refine Cov.q .ro (.move rfl) rfl ?_
    refine Cov.q .ro (.move rfl) rfl ?_
    obtain ⟨u80, hu80, r81⟩ := bind_some r79; clear r79
    refine Cov.callS (b1 := [_]) (b2 := []) (s1 := []) [_, _] [] .ro rfl rfl Try.call31 rfl rfl (make_Deck_Next_c (G := G) List.mem_cons_self s72 hu80) rfl (fun v83 bo so h82 => ?_)
    obtain ⟨a84, k85, rfl, rfl, rfl, s86⟩ := h82
    refine Cov.same (bl' := [_]) (sl' := [_]) rfl rfl rfl ?_
    refine Cov.lit [_] [(0, _)] .ro sl22 ty3 rfl rfl rfl rfl rfl rfl (fun b87 hb87 => ?_)
    have o88 : OL (Rep.int .i64) G [.int .i64 u80.1] ([u80.1] : List Int) := ((OL.cons rfl (Rep.intI .i64 u80.1) (OL.nil (Rp' := (Rep.int .i64)))) :)
    refine Cov.reval 18 (n' := ([u80.1] : List Int).length) rfl rfl ?_
    obtain ⟨u94, hu94, r95⟩ := bind_some r81; clear r81
    refine Cov.appO (Q := (Rep.int .i64)) 0 .ro sl22 ty3 rfl rfl rfl rfl rfl rfl o66 o88 rfl rfl rfl B0 hu94 rfl (fun a90 k91 cs92 o93 => ?_)
    refine Cov.q .ro (.assign rfl) rfl ?_
    refine Cov.region_end ?_
    refine Cov.inBlock ?_
    refine Cov.region rfl ?_
    refine Cov.q .ro (.move rfl) rfl ?_
    refine Cov.q .ro (.subw rfl rfl) rfl ?_
    refine Cov.q .ro (.assign rfl) rfl ?_
    refine Cov.region_end ?_
    refine Cov.prune _ ?_ (Cov.same rfl rfl rfl (hb75 (m77, u94, a90, k91, cs92, (w64 (v68 - 1)), u80.2.1, a84, k85, u80.2.2) ⟨o93, s86, r95⟩ (Nat.lt_succ_self _)))
    exact ⟨rfl, rfl, rfl, trivial⟩
  · have r97 := ifF r76 c78; clear r76
    refine Cov.exit rfl ?_
    refine Cov.seq ?_
    refine Cov.region rfl ?_
    refine Cov.q .ro (.move rfl) rfl ?_
    refine Cov.q .ro (.assign rfl) rfl ?_
    refine Cov.region_end ?_
    cases r97
    refine Cov.retS (c := ⟨16, none⟩) (.inr ⟨_, rfl⟩) [.tmp 4] [_] rfl Try.func16 Try.results16 ⟨RV.tmp rfl, trivial⟩ (fun _ h => List.mem_cons_of_mem _ h) ⟨a70, k71, a63, k64, cs65, rfl, rfl, rfl, s72, o66⟩

end Go.Proofs.Ytbhmhindommaeaa
