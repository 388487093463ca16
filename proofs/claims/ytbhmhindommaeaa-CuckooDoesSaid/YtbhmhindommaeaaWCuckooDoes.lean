/- The walks. Printed by wip/lift/drive.py. -/
import Derived.Test.YtbhmhindommaeaaW3
namespace Go.Proofs.Ytbhmhindommaeaa
open Go.RowKit
set_option linter.unusedSimpArgs false
set_option linter.unusedVariables false
set_option synthInstance.maxSize 2000
set_option synthInstance.maxHeartbeats 400000

set_option maxHeartbeats 4000000 in
set_option maxRecDepth 100000 in
theorem law19_CuckooDoes_c {Fs : List Hp} {G : Hp} {a0 : Option Addr} {k0 : Nat} {x0 : List Int} {x1_0 : Int} {a1_1 : Option Addr} {k1_1 : Nat} {x1_1 : List (Int × Int)} {a2 : Option Addr} {k2 : Nat} {x2 : List Int} {x3 : Int} {x4 : Int} {a5_0 : Option Addr} {k5_0 : Nat} {x5_0 : List Int} {r : Bool} (hG : G ∈ Fs) (s0 : SlR (Rep.int .i64) G a0 k0 x0) (s1_1 : SlR (Rep.pair (Rep.int .i64) (Rep.int .i64)) G a1_1 k1_1 x1_1) (s2 : SlR (Rep.int .i64) G a2 k2 x2) (s5_0 : SlR (Rep.int .i64) G a5_0 k5_0 x5_0) (h : law19_CuckooDoes x0 (x1_0, x1_1) x2 x3 x4 x5_0 = some r) : RetS Try.prog 7 #[.slice a0 x0.length k0, .agg #[.int .i64 x1_0, .slice a1_1 x1_1.length k1_1], .slice a2 x2.length k2, .int .i64 x3, .int .i64 x4, .agg #[.slice a5_0 x5_0.length k5_0]] Fs [] [] (fun v bo so => v = .bool r ∧ bo = [] ∧ so = []) := by
  unfold law19_CuckooDoes at h
  try dsimp only at h
  refine RetS.of (vs := [_, _, _, _, _, _]) Try.func7 rfl Try.ntmps7 [(0, _), (1, _), (2, _), (3, _), (4, _), (5, _)] ⟨rfl, rfl, rfl, rfl, rfl, rfl, trivial⟩ rfl hG fun w0 S0 hS0 B0 => ?_
  refine Cov.seq ?_
  refine Cov.region rfl ?_
  refine Cov.box [_, _] .ro rfl rfl rfl (fun b1 hb1 => ?_)
  refine Cov.box [_] .ro rfl rfl rfl (fun b2 hb2 => ?_)
  refine Cov.q .ro (.assign rfl) rfl ?_
  refine Cov.region_end ?_
  refine Cov.seq ?_
  refine Cov.seq ?_
  refine Cov.region rfl ?_
  obtain ⟨u3, hu3, r4⟩ := bind_some h; clear h
  refine Cov.callS (b1 := []) (b2 := [_, _]) (s1 := []) [] [] .ro rfl rfl Try.call9 rfl rfl (law19_sane_c (G := G) List.mem_cons_self  hu3) rfl (fun v6 bo so h5 => ?_)
  obtain ⟨rfl, rfl, rfl⟩ := h5
  refine Cov.same (bl' := [_, _]) (sl' := []) rfl rfl rfl ?_
  refine Cov.q .ro (.not rfl) rfl ?_
  refine Cov.region_end ?_
  refine Cov.cond rfl (fun c7 => ?_) (fun c7 => ?_)
  · have r8 := ifT r4 c7; clear r4
    refine Cov.seq ?_
    refine Cov.region rfl ?_
    refine Cov.q .ro (.assign rfl) rfl ?_
    refine Cov.region_end ?_
    cases r8
    refine Cov.drop 2 0 [] _ rfl rfl ?_
    refine Cov.retS (c := ⟨7, none⟩) (.inr ⟨_, rfl⟩) [.tmp 12] [_] rfl Try.func7 Try.results7 ⟨RV.tmp rfl, trivial⟩ (fun _ h => List.mem_cons_of_mem _ h) ⟨rfl, rfl, rfl⟩
  · have r9 := ifBF r4 c7; clear r4
    refine Cov.skip ?_
    refine Cov.seq ?_
    refine Cov.seq ?_
    refine Cov.region rfl ?_
    refine Cov.q .ro (.move rfl) rfl ?_
    obtain ⟨u10, hu10, r11⟩ := bind_some r9; clear r9
    refine Cov.callS (b1 := []) (b2 := [_, _]) (s1 := []) [_] [] .ro rfl rfl Try.call10 rfl rfl (make_Few_c (G := G) List.mem_cons_self s0 hu10) rfl (fun v13 bo so h12 => ?_)
    obtain ⟨rfl, rfl, rfl⟩ := h12
    refine Cov.same (bl' := [_, _]) (sl' := []) rfl rfl rfl ?_
    refine Cov.q .ro (.not rfl) rfl ?_
    refine Cov.q .ro (.move rfl) rfl ?_
    refine Cov.cutR 5 (β := Unit) (fun y => [(53, .bool (decide (((!u10) = true) ∨ (20 < (x1_1.length : Int)))))]) [(0, _), (2, _), (3, _), (4, _), (7, _), (11, _)] (fun y => G :: Fs) (fun y => []) [_, _] (fun y => []) [] (fun y => True) ⟨rfl, rfl, rfl, rfl, rfl, rfl, trivial⟩ [0, 1] rfl [] rfl ?_ ?_
    · rintro _ _
      refine Cov.prune [(53, .bool (decide (((!u10) = true) ∨ (20 < (x1_1.length : Int))))), (0, _), (2, _), (3, _), (4, _), (7, _), (11, _)] ⟨rfl, rfl, rfl, rfl, rfl, rfl, rfl, trivial⟩ ?_
      refine Cov.same (bl' := [_, _]) (sl' := []) (Fs' := G :: Fs) rfl rfl rfl ?_
      refine Cov.q .ro (.move rfl) rfl ?_
      refine Cov.cutR 4 (β := Unit) (fun y => [(58, .bool (decide ((((!u10) = true) ∨ (20 < (x1_1.length : Int))) ∨ (80 < (x2.length : Int)))))]) [(0, _), (2, _), (3, _), (4, _), (7, _), (11, _)] (fun y => G :: Fs) (fun y => []) [_, _] (fun y => []) [] (fun y => True) ⟨rfl, rfl, rfl, rfl, rfl, rfl, trivial⟩ [0, 1] rfl [] rfl ?_ ?_
      · rintro _ _
        refine Cov.prune [(58, .bool (decide ((((!u10) = true) ∨ (20 < (x1_1.length : Int))) ∨ (80 < (x2.length : Int))))), (0, _), (2, _), (3, _), (4, _), (7, _), (11, _)] ⟨rfl, rfl, rfl, rfl, rfl, rfl, rfl, trivial⟩ ?_
        refine Cov.same (bl' := [_, _]) (sl' := []) (Fs' := G :: Fs) rfl rfl rfl ?_
        refine Cov.q .ro (.move rfl) rfl ?_
        refine Cov.cutR 5 (β := Unit) (fun y => [(64, .bool (decide (((((!u10) = true) ∨ (20 < (x1_1.length : Int))) ∨ (80 < (x2.length : Int))) ∨ (200 < (x5_0.length : Int)))))]) [(0, _), (2, _), (3, _), (4, _), (7, _), (11, _)] (fun y => G :: Fs) (fun y => []) [_, _] (fun y => []) [] (fun y => True) ⟨rfl, rfl, rfl, rfl, rfl, rfl, trivial⟩ [0, 1] rfl [] rfl ?_ ?_
        · rintro _ _
          refine Cov.prune [(64, .bool (decide (((((!u10) = true) ∨ (20 < (x1_1.length : Int))) ∨ (80 < (x2.length : Int))) ∨ (200 < (x5_0.length : Int))))), (0, _), (2, _), (3, _), (4, _), (7, _), (11, _)] ⟨rfl, rfl, rfl, rfl, rfl, rfl, rfl, trivial⟩ ?_
          refine Cov.same (bl' := [_, _]) (sl' := []) (Fs' := G :: Fs) rfl rfl rfl ?_
          refine Cov.region_end ?_
          refine Cov.cond_dec rfl (fun c26 => ?_) (fun c26 => ?_)
          · have r27 := ifT r11 c26; clear r11
            refine Cov.seq ?_
            refine Cov.region rfl ?_
            refine Cov.q .ro (.assign rfl) rfl ?_
            refine Cov.region_end ?_
            cases r27
            refine Cov.drop 2 0 [] _ rfl rfl ?_
            refine Cov.retS (c := ⟨7, none⟩) (.inr ⟨_, rfl⟩) [.tmp 12] [_] rfl Try.func7 Try.results7 ⟨RV.tmp rfl, trivial⟩ (fun _ h => List.mem_cons_of_mem _ h) ⟨rfl, rfl, rfl⟩
          · have r28 := ifF r11 c26; clear r11
            refine Cov.skip ?_
            refine Cov.seq ?_
            refine Cov.region rfl ?_
            refine Cov.q .ro (.move rfl) rfl ?_
            obtain ⟨u29, hu29, r30⟩ := bind_some r28; clear r28
            refine Cov.callS (b1 := []) (b2 := [_, _]) (s1 := []) [_] [] .ro rfl rfl Try.call12 rfl rfl (make_New_c (G := G) List.mem_cons_self s0 hu29) rfl (fun v32 bo so h31 => ?_)
            obtain ⟨a34, k35, b33, rfl, rfl, rfl, s36⟩ := h31
            refine Cov.same (bl' := [_, _, _]) (sl' := []) rfl rfl rfl ?_
            refine Cov.q .ro (.assign rfl) rfl ?_
            refine Cov.region_end ?_
            refine Cov.seq ?_
            refine Cov.region rfl ?_
            refine Cov.q .ro (.move rfl) rfl ?_
            obtain ⟨u37, hu37, r38⟩ := bind_some r30; clear r30
            refine Cov.callW (b1 := [_]) (b2 := [_, _]) (s1 := []) [_] [] .ro rfl rfl Try.call11 rfl rfl (make_Hashing_c (G := G) List.mem_cons_self s36 hu37) rfl B0 (fun v40 bo so G41 e42 B43 h39 => ?_)
            obtain ⟨a45, k46, a48, k49, rfl, rfl, rfl, s47, s50⟩ := h39
            refine Cov.same (bl' := [_, _, _]) (sl' := []) rfl rfl rfl ?_
            refine Cov.alloc .ro ty25 rfl (fun b51 hb51 => ?_)
            refine Cov.store 0 [_, _] [_, _, _, _] .ro rfl rfl rfl ty25 rfl rfl rfl rfl ?_
            refine Cov.region_end ?_
            refine Cov.seq ?_
            refine Cov.region rfl ?_
            refine Cov.q .ro (.move rfl) rfl ?_
            refine Cov.q .ro (.fieldAddr 0 rfl fl25_0 ty3.sz rfl) rfl ?_
            refine Cov.q .ro (.load_own 0 rfl rfl ty3 rfl) rfl ?_
            obtain ⟨u52, hu52, r53⟩ := bind_some r38; clear r38
            refine Cov.pull 1 rfl [_, _, _, _] rfl ?_
            refine Cov.callS (b1 := [_]) (b2 := [_, _, _]) (s1 := []) [_, _] [] .ro rfl rfl Try.call16 rfl rfl (law19_items_c (G := G41) List.mem_cons_self s50 hu52) rfl (fun v55 bo so h54 => ?_)
            obtain ⟨a61, k62, a57, k58, cs59, rfl, rfl, rfl, s63, o60⟩ := h54
            refine Cov.same (bl' := [_, _, _, _]) (sl' := [_]) rfl rfl rfl ?_
            refine Cov.q .ro (.assign rfl) rfl ?_
            refine Cov.region_end ?_
            refine Cov.seq ?_
            refine Cov.seq ?_
            refine Cov.region rfl ?_
            refine Cov.q .ro (.load_own_a 3 [_, _] rfl rfl ty25 rfl) rfl ?_
            refine Cov.q .ro (.load_own_a 1 [_, _] rfl rfl ty25 rfl) rfl ?_
            refine Cov.lit [_, _, _, _] [(0, _), (1, _)] .ro sl31 ty25 rfl rfl rfl rfl rfl rfl (fun b64 hb64 => ?_)
            have o65 : OL (Rep.pair (Rep.int .i64) (Rep.sl (Rep.pair (Rep.int .i64) (Rep.int .i64)))) G41 [.int .i64 x1_0, .slice a1_1 x1_1.length k1_1, .int .i64 u37.1.1, .slice a45 u37.1.2.length k46] ([(x1_0, x1_1), u37.1] : List (Int × (List (Int × Int)))) := ((OL.cons rfl (Rep.pairI (Rep.intI .i64 x1_0) (Rep.slI (SlR.mono e42 s1_1))) (OL.cons rfl (Rep.pairI (Rep.intI .i64 u37.1.1) (Rep.slI s47)) (OL.nil (Rp' := (Rep.pair (Rep.int .i64) (Rep.sl (Rep.pair (Rep.int .i64) (Rep.int .i64)))))))) :)
            refine Cov.reval 75 (n' := ([(x1_0, x1_1), u37.1] : List (Int × (List (Int × Int)))).length) rfl rfl ?_
            refine Cov.q .ro (.len_sl rfl rfl sl31) rfl ?_
            refine Cov.q .ro (.move rfl) rfl ?_
            refine Cov.region_end ?_
            refine Cov.prune [(2, _), (3, _), (4, _), (11, _), (13, _), (15, _), (75, _), (76, _), (77, _)] ⟨rfl, rfl, rfl, rfl, rfl, rfl, rfl, rfl, rfl, trivial⟩ ?_
            refine Cov.block ?_
            refine Cov.freezeR 1 rfl rfl o60 [_] rfl B43 (fun G1547 e1548 B1549 s1550 => ?_)
            refine Cov.pull 3 rfl [_, _, _, _] rfl ?_
            refine Cov.pull 2 rfl [_, _, _, _] rfl ?_
            refine Cov.pull 2 rfl [_, _, _, _] rfl ?_
            refine Cov.loop2 (α := Nat × (List (Int × (List (Int × Int)))) × Hp × List Int × Option Addr × Nat × Int × Int × Int) (fun y => [(77, .int .i64 (y.1 : Int))]) [(2, _), (3, _), (4, _), (11, _), (13, _), (15, _), (75, _), (76, _)] (fun y => [y.2.2.1]) (fun y => [(b33, .cells #[.slice y.2.2.2.2.1 y.2.2.2.1.length y.2.2.2.2.2.1, .int .i64 y.2.2.2.2.2.2.1] 64 (0, 0)), (b51, .cells #[.int .i64 y.2.2.2.2.2.2.2.1, .slice a45 u37.1.2.length k46] 25 (0, 0)), (b1, .cells #[.int .i64 y.2.2.2.2.2.2.2.2, .slice a1_1 x1_1.length k1_1] 25 (0, 0))]) [_] (fun y => []) [_] (fun y => HpLe G1547 y.2.2.1 ∧ Bd w0 S0 Fs y.2.2.1 ∧ SlR (Rep.int .i64) y.2.2.1 y.2.2.2.2.1 y.2.2.2.2.2.1 y.2.2.2.1 ∧ List.drop y.1 ([(x1_0, x1_1), u37.1] : List (Int × (List (Int × Int)))) = y.2.1 ∧ law19_CuckooDoes_L8 x2 x3 x4 u52.1 x5_0 y.2.1 y.2.2.2.1 y.2.2.2.2.2.2.1 y.2.2.2.2.2.2.2.1 y.2.2.2.2.2.2.2.2 = some r) (fun y => y.2.1.length) (0, ([(x1_0, x1_1), u37.1] : List (Int × (List (Int × Int)))), G1547, u52.2.1, a61, k62, u52.2.2, u37.1.1, x1_0) ⟨(HpLe.refl _), B1549, (SlR.mono e1548 s63), rfl, r53⟩ ⟨rfl, rfl, rfl, rfl, rfl, rfl, rfl, rfl, rfl, trivial⟩ rfl rfl rfl (fun y hI hb3043 => ?_)
            obtain ⟨i3028, w3029, G3031, v3035, a3036, k3037, v3039, v3040, v3041⟩ := y
            obtain ⟨e3032, B3033, s3038, g3030, r3042⟩ := hI
            try dsimp only at e3032 B3033 s3038 g3030 r3042
            refine Cov.prune [(77, .int .i64 (i3028 : Int)), (2, _), (3, _), (4, _), (11, _), (13, _), (15, _), (75, _), (76, _)] ⟨rfl, rfl, rfl, rfl, rfl, rfl, rfl, rfl, rfl, trivial⟩ ?_
            refine Cov.same (bl' := [(b33, .cells #[.slice a3036 v3035.length k3037, .int .i64 v3039] 64 (0, 0)), (b51, .cells #[.int .i64 v3040, .slice a45 u37.1.2.length k46] 25 (0, 0)), (b1, .cells #[.int .i64 v3041, .slice a1_1 x1_1.length k1_1] 25 (0, 0)), _]) (sl' := [_]) (Fs' := G3031 :: Fs) rfl rfl rfl ?_
            cases w3029 with
            | nil =>
              rw [law19_CuckooDoes_L8] at r3042; try dsimp only at r3042
              refine Cov.seq ?_
              refine Cov.region rfl ?_
              refine Cov.q .ro (.lss rfl rfl) rfl ?_
              refine Cov.region_end ?_
              refine Cov.seq ?_
              refine Cov.cond_dec rfl (fun c => absurd c (drop_nil g3030)) (fun _ => ?_)
              refine Cov.exit rfl ?_
              refine Cov.seq ?_
              refine Cov.region rfl ?_
              refine Cov.q .ro (.assign rfl) rfl ?_
              refine Cov.region_end ?_
              cases r3042
              refine Cov.drop 4 0 [] _ rfl rfl ?_
              refine Cov.drop 0 1 _ [] rfl rfl ?_
              refine Cov.retS (c := ⟨7, none⟩) (.inr ⟨_, rfl⟩) [.tmp 12] [_] rfl Try.func7 Try.results7 ⟨RV.tmp rfl, trivial⟩ (fun _ h => List.mem_cons_of_mem _ h) ⟨rfl, rfl, rfl⟩
            | cons x3054 xs3055 =>
              have r3053 : law19_CuckooDoes_B8 x2 x3 x4 u52.1 x5_0 (law19_CuckooDoes_L8 x2 x3 x4 u52.1 x5_0 xs3055) x3054 v3035 v3039 v3040 v3041 = some r := r3042; clear r3042; unfold law19_CuckooDoes_B8 at r3053; try dsimp only at r3053
              refine Cov.seq ?_
              refine Cov.region rfl ?_
              refine Cov.q .ro (.lss rfl rfl) rfl ?_
              refine Cov.region_end ?_
              refine Cov.seq ?_
              refine Cov.cond_dec rfl (fun _ => ?_) (fun c => absurd (drop_lt g3030) c)
              refine Cov.skip ?_
              refine Cov.seq ?_
              refine Cov.block ?_
              refine Cov.seq ?_
              refine Cov.region rfl ?_
              obtain ⟨c3056, p3057, h3058⟩ := OL.get (OL.mono (HpLe.trans e1548 e3032) o65) (drop_idx g3030)
              obtain ⟨_, _, rfl, rfl, a3059, k3060, rfl, s3061⟩ := h3058
              refine Cov.q .ro (.idxO 0 rfl rfl rfl (drop_idx g3030) sl31 ty25.sz) rfl ?_
              refine Cov.q .ro (.loadO_a 0 0 [_, _] rfl (drop_idx g3030) p3057 rfl (.inl ⟨rfl, rfl⟩) ty25 rfl) rfl ?_
              refine Cov.alloc .ro ty25 rfl (fun b3062 hb3062 => ?_)
              refine Cov.store 0 [_, _] [_, _, _, _, _] .ro rfl rfl rfl ty25 rfl rfl rfl rfl ?_
              refine Cov.region_end ?_
              refine Cov.seq ?_
              refine Cov.seq ?_
              refine Cov.drawL (.q 0 (.q 2 (.e 1 1 (.e 3 1 (.q 4 .nil))))) [_, _, _, _, _] (by kernel_rfl) (by kernel_rfl) (pick_mem [0, 1, 2, 3, 4] rfl) ?_
              refine Cov.dq (.load_own_a 0 [_, _] rfl rfl ty25 rfl) rfl ?_
              refine Cov.dq (.load_own_a 0 [_, _] rfl rfl ty25 rfl) rfl ?_
              obtain ⟨u3063, hu3063, r3064⟩ := bind_some r3053; clear r3053
              refine Cov.callS (b1 := []) (b2 := [_, _, _, _, _]) (s1 := []) [_] [] .d1 rfl rfl Try.call22 rfl rfl (cuckoo_Check_c (G := G3031) List.mem_cons_self s3061 hu3063) rfl (fun v3066 bo so h3065 => ?_)
              obtain ⟨rfl, rfl, rfl⟩ := h3065
              refine Cov.same (bl' := [_, _, _, _, _]) (sl' := [_]) rfl rfl rfl ?_
              refine Cov.clsL (HpLe.refl _) (pick_mem [0, 1, 2, 3, 4] rfl) ?_
              obtain ⟨u3067, hu3067, r3068⟩ := bind_some r3064; clear r3064
              refine Cov.callS (b1 := []) (b2 := [_, _, _, _, _]) (s1 := []) [_] [] .d1 rfl rfl Try.call23 rfl rfl (ref19_Check_c (G := G3031) List.mem_cons_self s3061 hu3067) rfl (fun v3070 bo so h3069 => ?_)
              obtain ⟨rfl, rfl, rfl⟩ := h3069
              refine Cov.same (bl' := [_, _, _, _, _]) (sl' := [_]) rfl rfl rfl ?_
              refine Cov.clsL (HpLe.refl _) (pick_mem [0, 1, 2, 3, 4] rfl) ?_
              refine Cov.dq (.neq rfl rfl) rfl ?_
              refine Cov.draw_end ?_
              refine Cov.cond_dec rfl (fun c3071 => ?_) (fun c3071 => ?_)
              · have r3072 := ifT r3068 c3071; clear r3068
                refine Cov.seq ?_
                refine Cov.region rfl ?_
                refine Cov.q .ro (.assign rfl) rfl ?_
                refine Cov.region_end ?_
                refine Cov.prune [(12, _)] ⟨rfl, trivial⟩ ?_
                cases r3072
                refine Cov.drop 5 0 [] _ rfl rfl ?_
                refine Cov.drop 0 1 _ [] rfl rfl ?_
                refine Cov.retS (c := ⟨7, none⟩) (.inr ⟨_, rfl⟩) [.tmp 12] [_] rfl Try.func7 Try.results7 ⟨RV.tmp rfl, trivial⟩ (fun _ h => List.mem_cons_of_mem _ h) ⟨rfl, rfl, rfl⟩
              · have r3073 := ifF r3068 c3071; clear r3068
                refine Cov.skip ?_
                refine Cov.seq ?_
                refine Cov.seq ?_
                refine Cov.region rfl ?_
                refine Cov.q .ro (.move rfl) rfl ?_
                refine Cov.q .ro (.move rfl) rfl ?_
                obtain ⟨u3074, hu3074, r3075⟩ := bind_some r3073; clear r3073
                refine Cov.callS (b1 := []) (b2 := [_, _, _, _, _]) (s1 := []) [_, _] [] .ro rfl rfl Try.call13 rfl rfl (make_Mod_c (G := G3031) List.mem_cons_self  hu3074) rfl (fun v3077 bo so h3076 => ?_)
                obtain ⟨rfl, rfl, rfl⟩ := h3076
                refine Cov.same (bl' := [_, _, _, _, _]) (sl' := [_]) rfl rfl rfl ?_
                refine Cov.lit [_, _] [(0, _), (1, _)] .ro sl22 ty3 rfl rfl rfl rfl rfl rfl (fun b3078 hb3078 => ?_)
                have o3079 : OL (Rep.int .i64) G3031 [.int .i64 x4, .int .i64 u3074] ([x4, u3074] : List Int) := ((OL.cons rfl (Rep.intI .i64 x4) (OL.cons rfl (Rep.intI .i64 u3074) (OL.nil (Rp' := (Rep.int .i64))))) :)
                refine Cov.reval 89 (n' := ([x4, u3074] : List Int).length) rfl rfl ?_
                refine Cov.q .ro (.len_sl rfl rfl sl22) rfl ?_
                refine Cov.q .ro (.move rfl) rfl ?_
                refine Cov.region_end ?_
                refine Cov.cutB (β := Hp × Int × Int × Int × Int) (fun y => []) [(77, _), (2, _), (3, _), (4, _), (11, _), (13, _), (15, _), (75, _), (76, _), (17, _)] (fun y => y.1 :: Fs) (fun y => [(b3062, .cells #[.int .i64 y.2.1, .slice a3059 x3054.2.length k3060] 25 (0, 0)), (b33, .cells #[.slice a3036 v3035.length k3037, .int .i64 y.2.2.1] 64 (0, 0)), (b51, .cells #[.int .i64 y.2.2.2.1, .slice a45 u37.1.2.length k46] 25 (0, 0)), (b1, .cells #[.int .i64 y.2.2.2.2, .slice a1_1 x1_1.length k1_1] 25 (0, 0))]) [_] (fun y => []) [_, _] (fun y => HpLe G3031 y.1 ∧ Bd w0 S0 Fs y.1 ∧ (law19_CuckooDoes_J6 (law19_CuckooDoes_L8 x2 x3 x4 u52.1 x5_0 xs3055) x2 x3 u52.1 x3054.2 v3035 x5_0) y.2.1 y.2.2.1 y.2.2.2.1 y.2.2.2.2 = some r) ⟨rfl, rfl, rfl, rfl, rfl, rfl, rfl, rfl, rfl, rfl, trivial⟩ [4] rfl [0, 1] rfl ?_ ?_
                · intro y hI
                  obtain ⟨G3253, v3257, v3258, v3259, v3260⟩ := y
                  obtain ⟨e3254, B3255, r3262⟩ := hI
                  try dsimp only at e3254 B3255 r3262
                  refine Cov.prune [(77, _), (2, _), (3, _), (4, _), (11, _), (13, _), (15, _), (75, _), (76, _), (17, _)] ⟨rfl, rfl, rfl, rfl, rfl, rfl, rfl, rfl, rfl, rfl, trivial⟩ ?_
                  refine Cov.same (bl' := [(b3062, .cells #[.int .i64 v3257, .slice a3059 x3054.2.length k3060] 25 (0, 0)), (b33, .cells #[.slice a3036 v3035.length k3037, .int .i64 v3258] 64 (0, 0)), (b51, .cells #[.int .i64 v3259, .slice a45 u37.1.2.length k46] 25 (0, 0)), (b1, .cells #[.int .i64 v3260, .slice a1_1 x1_1.length k1_1] 25 (0, 0)), _]) (sl' := [_, _]) (Fs' := G3253 :: Fs) rfl rfl rfl ?_
                  unfold law19_CuckooDoes_J6 at r3262
                  try dsimp only at r3262
                  refine Cov.seq ?_
                  refine Cov.seq ?_
                  refine Cov.region rfl ?_
                  refine Cov.q .ro (.move rfl) rfl ?_
                  refine Cov.q .ro (.move rfl) rfl ?_
                  obtain ⟨u3276, hu3276, r3277⟩ := bind_some r3262; clear r3262
                  refine Cov.callS (b1 := []) (b2 := [_, _, _, _, _]) (s1 := []) [_, _] [] .ro rfl rfl Try.call13 rfl rfl (make_Mod_c (G := G3253) List.mem_cons_self  hu3276) rfl (fun v3279 bo so h3278 => ?_)
                  obtain ⟨rfl, rfl, rfl⟩ := h3278
                  refine Cov.same (bl' := [_, _, _, _, _]) (sl' := [_, _]) rfl rfl rfl ?_
                  refine Cov.lit [_, _] [(0, _), (1, _)] .ro sl22 ty3 rfl rfl rfl rfl rfl rfl (fun b3280 hb3280 => ?_)
                  have o3281 : OL (Rep.int .i64) G3253 [.int .i64 x3, .int .i64 u3276] ([x3, u3276] : List Int) := ((OL.cons rfl (Rep.intI .i64 x3) (OL.cons rfl (Rep.intI .i64 u3276) (OL.nil (Rp' := (Rep.int .i64))))) :)
                  refine Cov.reval 120 (n' := ([x3, u3276] : List Int).length) rfl rfl ?_
                  refine Cov.q .ro (.len_sl rfl rfl sl22) rfl ?_
                  refine Cov.q .ro (.move rfl) rfl ?_
                  refine Cov.region_end ?_
                  refine Cov.cutB (β := Hp × Int × Int × Int × Int) (fun y => []) [(77, _), (2, _), (3, _), (4, _), (11, _), (13, _), (15, _), (75, _), (76, _), (17, _)] (fun y => y.1 :: Fs) (fun y => [(b3062, .cells #[.int .i64 y.2.1, .slice a3059 x3054.2.length k3060] 25 (0, 0)), (b33, .cells #[.slice a3036 v3035.length k3037, .int .i64 y.2.2.1] 64 (0, 0)), (b51, .cells #[.int .i64 y.2.2.2.1, .slice a45 u37.1.2.length k46] 25 (0, 0)), (b1, .cells #[.int .i64 y.2.2.2.2, .slice a1_1 x1_1.length k1_1] 25 (0, 0))]) [_] (fun y => []) [_, _, _] (fun y => HpLe G3253 y.1 ∧ Bd w0 S0 Fs y.1 ∧ (law19_CuckooDoes_J4 (law19_CuckooDoes_L8 x2 x3 x4 u52.1 x5_0 xs3055) x2 u52.1 x3054.2 v3035 x5_0) y.2.1 y.2.2.1 y.2.2.2.1 y.2.2.2.2 = some r) ⟨rfl, rfl, rfl, rfl, rfl, rfl, rfl, rfl, rfl, rfl, trivial⟩ [4] rfl [0, 1, 2] rfl ?_ ?_
                  · intro y hI
                    obtain ⟨G3416, v3420, v3421, v3422, v3423⟩ := y
                    obtain ⟨e3417, B3418, r3425⟩ := hI
                    try dsimp only at e3417 B3418 r3425
                    refine Cov.prune [(77, _), (2, _), (3, _), (4, _), (11, _), (13, _), (15, _), (75, _), (76, _), (17, _)] ⟨rfl, rfl, rfl, rfl, rfl, rfl, rfl, rfl, rfl, rfl, trivial⟩ ?_
                    refine Cov.same (bl' := [(b3062, .cells #[.int .i64 v3420, .slice a3059 x3054.2.length k3060] 25 (0, 0)), (b33, .cells #[.slice a3036 v3035.length k3037, .int .i64 v3421] 64 (0, 0)), (b51, .cells #[.int .i64 v3422, .slice a45 u37.1.2.length k46] 25 (0, 0)), (b1, .cells #[.int .i64 v3423, .slice a1_1 x1_1.length k1_1] 25 (0, 0)), _]) (sl' := [_, _, _]) (Fs' := G3416 :: Fs) rfl rfl rfl ?_
                    unfold law19_CuckooDoes_J4 at r3425
                    try dsimp only at r3425
                    refine Cov.seq ?_
                    refine Cov.region rfl ?_
                    refine Cov.q .ro (.move rfl) rfl ?_
                    refine Cov.q .ro (.move rfl) rfl ?_
                    refine Cov.lit [_, _] [(0, _), (1, _)] .ro sl54 ty22 rfl rfl rfl rfl rfl rfl (fun b3440 hb3440 => ?_)
                    have o3441 : OL (Rep.sl (Rep.int .i64)) G3416 [.slice a2 x2.length k2, .slice a57 u52.1.length k58] ([x2, u52.1] : List (List Int)) := ((OL.cons rfl (Rep.slI (SlR.mono (HpLe.trans (HpLe.trans (HpLe.trans (HpLe.trans e42 e1548) e3032) e3254) e3417) s2)) (OL.cons rfl (Rep.slI (SlR.mono (HpLe.trans (HpLe.trans e3032 e3254) e3417) s1550)) (OL.nil (Rp' := (Rep.sl (Rep.int .i64)))))) :)
                    refine Cov.reval 150 (n' := ([x2, u52.1] : List (List Int)).length) rfl rfl ?_
                    refine Cov.q .ro (.len_sl rfl rfl sl54) rfl ?_
                    refine Cov.q .ro (.move rfl) rfl ?_
                    refine Cov.region_end ?_
                    refine Cov.block ?_
                    refine Cov.pull 3 rfl [_, _, _, _, _] rfl ?_
                    refine Cov.pull 3 rfl [_, _, _, _, _] rfl ?_
                    refine Cov.pull 3 rfl [_, _, _, _, _] rfl ?_
                    refine Cov.pull 3 rfl [_, _, _, _, _] rfl ?_
                    refine Cov.loop2 (α := Nat × List (List Int) × Hp × Int × List Int × Option Addr × Nat × Int × Int × Int) (fun y => [(152, .int .i64 (y.1 : Int))]) [(77, _), (2, _), (3, _), (4, _), (11, _), (13, _), (15, _), (75, _), (76, _), (17, _), (150, _), (151, _)] (fun y => [y.2.2.1]) (fun y => [(b3062, .cells #[.int .i64 y.2.2.2.1, .slice a3059 x3054.2.length k3060] 25 (0, 0)), (b33, .cells #[.slice y.2.2.2.2.2.1 y.2.2.2.2.1.length y.2.2.2.2.2.2.1, .int .i64 y.2.2.2.2.2.2.2.1] 64 (0, 0)), (b51, .cells #[.int .i64 y.2.2.2.2.2.2.2.2.1, .slice a45 u37.1.2.length k46] 25 (0, 0)), (b1, .cells #[.int .i64 y.2.2.2.2.2.2.2.2.2, .slice a1_1 x1_1.length k1_1] 25 (0, 0))]) [_] (fun y => []) [_, _, _, _] (fun y => HpLe G3416 y.2.2.1 ∧ Bd w0 S0 Fs y.2.2.1 ∧ SlR (Rep.int .i64) y.2.2.1 y.2.2.2.2.2.1 y.2.2.2.2.2.2.1 y.2.2.2.2.1 ∧ List.drop y.1 ([x2, u52.1] : List (List Int)) = y.2.1 ∧ law19_CuckooDoes_L3 (law19_CuckooDoes_L8 x2 x3 x4 u52.1 x5_0 xs3055) x3054.2 x5_0 y.2.1 y.2.2.2.1 y.2.2.2.2.1 y.2.2.2.2.2.2.2.1 y.2.2.2.2.2.2.2.2.1 y.2.2.2.2.2.2.2.2.2 = some r) (fun y => y.2.1.length) (0, ([x2, u52.1] : List (List Int)), G3416, v3420, v3035, a3036, k3037, v3421, v3422, v3423) ⟨(HpLe.refl _), B3418, (SlR.mono (HpLe.trans e3254 e3417) s3038), rfl, r3425⟩ ⟨rfl, rfl, rfl, rfl, rfl, rfl, rfl, rfl, rfl, rfl, rfl, rfl, rfl, trivial⟩ rfl rfl rfl (fun y hI hb3838 => ?_)
                    obtain ⟨i3822, w3823, G3825, v3829, v3830, a3831, k3832, v3834, v3835, v3836⟩ := y
                    obtain ⟨e3826, B3827, s3833, g3824, r3837⟩ := hI
                    try dsimp only at e3826 B3827 s3833 g3824 r3837
                    refine Cov.prune [(152, .int .i64 (i3822 : Int)), (77, _), (2, _), (3, _), (4, _), (11, _), (13, _), (15, _), (75, _), (76, _), (17, _), (150, _), (151, _)] ⟨rfl, rfl, rfl, rfl, rfl, rfl, rfl, rfl, rfl, rfl, rfl, rfl, rfl, trivial⟩ ?_
                    refine Cov.same (bl' := [(b3062, .cells #[.int .i64 v3829, .slice a3059 x3054.2.length k3060] 25 (0, 0)), (b33, .cells #[.slice a3831 v3830.length k3832, .int .i64 v3834] 64 (0, 0)), (b51, .cells #[.int .i64 v3835, .slice a45 u37.1.2.length k46] 25 (0, 0)), (b1, .cells #[.int .i64 v3836, .slice a1_1 x1_1.length k1_1] 25 (0, 0)), _]) (sl' := [_, _, _, _]) (Fs' := G3825 :: Fs) rfl rfl rfl ?_
                    cases w3823 with
                    | nil =>
                      rw [law19_CuckooDoes_L3] at r3837; try dsimp only at r3837
                      refine Cov.seq ?_
                      refine Cov.region rfl ?_
                      refine Cov.q .ro (.lss rfl rfl) rfl ?_
                      refine Cov.region_end ?_
                      refine Cov.seq ?_
                      refine Cov.cond_dec rfl (fun c => absurd c (drop_nil g3824)) (fun _ => ?_)
                      refine Cov.exit rfl ?_
                      refine Cov.inBlock ?_
                      refine Cov.region rfl ?_
                      refine Cov.q .ro (.addw rfl rfl) rfl ?_
                      refine Cov.q .ro (.move rfl) rfl ?_
                      refine Cov.region_end ?_
                      refine Cov.drop 1 0 [_, _, _, _] _ rfl rfl ?_
                      refine Cov.drop 0 3 _ [_] rfl rfl ?_
                      refine Cov.prune _ ?_ (Cov.same rfl rfl rfl (hb3043 ((i3028 + 1), xs3055, G3825, v3830, a3831, k3832, v3834, v3835, v3836) ⟨(HpLe.trans (HpLe.trans (HpLe.trans e3032 e3254) e3417) e3826), B3827, s3833, (drop_succ g3030), r3837⟩ (Nat.lt_succ_self _)))
                      exact ⟨(congrArg (fun z => some (Value.int .i64 z)) (idx_wrap (OL.len' o65) g3030)), rfl, rfl, rfl, rfl, rfl, rfl, rfl, rfl, trivial⟩
                    | cons x3855 xs3856 =>
                      have r3854 : law19_CuckooDoes_B3 (law19_CuckooDoes_L8 x2 x3 x4 u52.1 x5_0 xs3055) x3054.2 x5_0 (law19_CuckooDoes_L3 (law19_CuckooDoes_L8 x2 x3 x4 u52.1 x5_0 xs3055) x3054.2 x5_0 xs3856) x3855 v3829 v3830 v3834 v3835 v3836 = some r := r3837; clear r3837; unfold law19_CuckooDoes_B3 at r3854; try dsimp only at r3854
                      refine Cov.seq ?_
                      refine Cov.region rfl ?_
                      refine Cov.q .ro (.lss rfl rfl) rfl ?_
                      refine Cov.region_end ?_
                      refine Cov.seq ?_
                      refine Cov.cond_dec rfl (fun _ => ?_) (fun c => absurd (drop_lt g3824) c)
                      refine Cov.skip ?_
                      refine Cov.seq ?_
                      refine Cov.block ?_
                      refine Cov.seq ?_
                      refine Cov.region rfl ?_
                      obtain ⟨c3857, p3858, h3859⟩ := OL.get (OL.mono e3826 o3441) (drop_idx g3824)
                      obtain ⟨a3860, k3861, rfl, s3862⟩ := h3859
                      refine Cov.q .ro (.idxO 0 rfl rfl rfl (drop_idx g3824) sl54 ty22.sz) rfl ?_
                      refine Cov.q .ro (.loadO 0 0 rfl (drop_idx g3824) p3858 rfl (.inl ⟨rfl, rfl⟩) ty22 rfl) rfl ?_
                      refine Cov.q .ro (.assign rfl) rfl ?_
                      refine Cov.region_end ?_
                      refine Cov.seq ?_
                      refine Cov.region rfl ?_
                      refine Cov.q .ro (.load_own_a 0 [_, _] rfl rfl ty25 rfl) rfl ?_
                      refine Cov.q .ro (.move rfl) rfl ?_
                      obtain ⟨u3863, hu3863, r3864⟩ := bind_some r3854; clear r3854
                      refine Cov.callW (b1 := []) (b2 := [_, _, _, _, _]) (s1 := []) [_, _] [] .ro rfl rfl Try.call17 rfl rfl (cuckoo_Assign_c (G := G3825) List.mem_cons_self (SlR.mono (HpLe.trans (HpLe.trans e3254 e3417) e3826) s3061) s3862 hu3863) rfl B3827 (fun v3866 bo so G3867 e3868 B3869 h3865 => ?_)
                      obtain ⟨a3871, k3872, rfl, rfl, rfl, s3873⟩ := h3865
                      refine Cov.same (bl' := [_, _, _, _, _]) (sl' := [_, _, _, _]) rfl rfl rfl ?_
                      refine Cov.q .ro (.move rfl) rfl ?_
                      refine Cov.q .ro (.extract rfl rfl) rfl ?_
                      refine Cov.q .ro (.extract rfl rfl) rfl ?_
                      refine Cov.alloc .ro ty43 rfl (fun b3874 hb3874 => ?_)
                      refine Cov.store 0 [_] [_, _, _, _, _, _] .ro rfl rfl rfl ty43 rfl rfl rfl rfl ?_
                      refine Cov.q .ro (.assign rfl) rfl ?_
                      refine Cov.region_end ?_
                      refine Cov.seq ?_
                      refine Cov.region rfl ?_
                      refine Cov.q .ro (.load_own_a 1 [_, _] rfl rfl ty25 rfl) rfl ?_
                      refine Cov.q .ro (.move rfl) rfl ?_
                      obtain ⟨u3875, hu3875, r3876⟩ := bind_some r3864; clear r3864
                      refine Cov.callW (b1 := []) (b2 := [_, _, _, _, _, _]) (s1 := []) [_, _] [] .ro rfl rfl Try.call29 rfl rfl (ref19_Assign_c (G := G3867) List.mem_cons_self (SlR.mono (HpLe.trans (HpLe.trans (HpLe.trans e3254 e3417) e3826) e3868) s3061) (SlR.mono e3868 s3862) hu3875) rfl B3869 (fun v3878 bo so G3879 e3880 B3881 h3877 => ?_)
                      obtain ⟨a3883, k3884, rfl, rfl, rfl, s3885⟩ := h3877
                      refine Cov.same (bl' := [_, _, _, _, _, _]) (sl' := [_, _, _, _]) rfl rfl rfl ?_
                      refine Cov.q .ro (.move rfl) rfl ?_
                      refine Cov.q .ro (.extract rfl rfl) rfl ?_
                      refine Cov.q .ro (.extract rfl rfl) rfl ?_
                      refine Cov.alloc .ro ty43 rfl (fun b3886 hb3886 => ?_)
                      refine Cov.store 0 [_] [_, _, _, _, _, _, _] .ro rfl rfl rfl ty43 rfl rfl rfl rfl ?_
                      refine Cov.q .ro (.assign rfl) rfl ?_
                      refine Cov.region_end ?_
                      refine Cov.prune [(152, _), (77, _), (2, _), (3, _), (4, _), (11, _), (13, _), (15, _), (75, _), (76, _), (17, _), (150, _), (151, _), (31, _), (32, _), (33, _), (34, _), (35, _)] ⟨rfl, rfl, rfl, rfl, rfl, rfl, rfl, rfl, rfl, rfl, rfl, rfl, rfl, rfl, rfl, rfl, rfl, rfl, trivial⟩ ?_
                      refine Cov.seq ?_
                      refine Cov.seq ?_
                      refine Cov.region rfl ?_
                      refine Cov.q .ro (.move rfl) rfl ?_
                      refine Cov.q .ro (.move rfl) rfl ?_
                      refine Cov.q .ro (.neq rfl rfl) rfl ?_
                      refine Cov.q .ro (.move rfl) rfl ?_
                      obtain ⟨u3893, h3894, r3895⟩ := bind_some r3876; clear r3876
                      refine Cov.cutR 5 (β := Unit) (fun y => [(176, .bool u3893)]) [(152, _), (77, _), (2, _), (3, _), (4, _), (11, _), (13, _), (15, _), (75, _), (76, _), (17, _), (150, _), (151, _), (31, _), (34, _)] (fun y => G3879 :: Fs) (fun y => []) [_, _, _, _, _, _, _] (fun y => []) [_, _, _, _] (fun y => True) ⟨rfl, rfl, rfl, rfl, rfl, rfl, rfl, rfl, rfl, rfl, rfl, rfl, rfl, rfl, rfl, trivial⟩ [0, 1, 2, 3, 4, 5, 6] rfl [0, 1, 2, 3] rfl ?_ ?_
                      · rintro _ _
                        refine Cov.prune [(176, .bool u3893), (152, _), (77, _), (2, _), (3, _), (4, _), (11, _), (13, _), (15, _), (75, _), (76, _), (17, _), (150, _), (151, _), (31, _), (34, _)] ⟨rfl, rfl, rfl, rfl, rfl, rfl, rfl, rfl, rfl, rfl, rfl, rfl, rfl, rfl, rfl, rfl, trivial⟩ ?_
                        refine Cov.same (bl' := [_, _, _, _, _, _, _]) (sl' := [_, _, _, _]) (Fs' := G3879 :: Fs) rfl rfl rfl ?_
                        refine Cov.region_end ?_
                        refine Cov.cond rfl (fun c3898 => ?_) (fun c3898 => ?_)
                        · have r3899 := ifT r3895 c3898; clear r3895
                          refine Cov.seq ?_
                          refine Cov.region rfl ?_
                          refine Cov.q .ro (.assign rfl) rfl ?_
                          refine Cov.region_end ?_
                          refine Cov.prune [(12, _)] ⟨rfl, trivial⟩ ?_
                          cases r3899
                          refine Cov.drop 7 0 [] _ rfl rfl ?_
                          refine Cov.drop 0 4 _ [] rfl rfl ?_
                          refine Cov.retS (c := ⟨7, none⟩) (.inr ⟨_, rfl⟩) [.tmp 12] [_] rfl Try.func7 Try.results7 ⟨RV.tmp rfl, trivial⟩ (fun _ h => List.mem_cons_of_mem _ h) ⟨rfl, rfl, rfl⟩
                        · have r3900 := ifBF r3895 c3898; clear r3895
                          refine Cov.skip ?_
                          refine Cov.seq ?_
                          refine Cov.region rfl ?_
                          refine Cov.q .ro (.fieldAddr 0 rfl fl43_0 ty22.sz rfl) rfl ?_
                          refine Cov.q .ro (.load_own 0 rfl rfl ty22 rfl) rfl ?_
                          refine Cov.own_nil 3 1 ?_
                          obtain ⟨u3906, hu3906, r3907⟩ := bind_some r3900; clear r3900
                          refine Cov.appR (Q := (Rep.int .i64)) 0 .ro sl22 ty3 rfl rfl rfl rfl rfl (OL.nil (Rp' := (Rep.int .i64))) rfl rfl s3885 rfl List.mem_cons_self hu3906 rfl (fun a3902 k3903 cs3904 o3905 => ?_)
                          refine Cov.q .ro (.build [_] [(0, _)] ty43 pl43 rfl rfl) rfl ?_
                          refine Cov.alloc .ro ty43 rfl (fun b3909 hb3909 => ?_)
                          refine Cov.store 0 [_] [_, _, _, _, _, _, _, _] .ro rfl rfl rfl ty43 rfl rfl rfl rfl ?_
                          refine Cov.region_end ?_
                          refine Cov.seq ?_
                          refine Cov.seq ?_
                          refine Cov.region rfl ?_
                          refine Cov.q .ro (.fieldAddr 0 rfl fl43_0 ty22.sz rfl) rfl ?_
                          refine Cov.q .ro (.load_own 0 rfl rfl ty22 rfl) rfl ?_
                          refine Cov.q .ro (.len_sl rfl rfl sl22) rfl ?_
                          refine Cov.q .ro (.gtr rfl rfl) rfl ?_
                          refine Cov.region_end ?_
                          refine Cov.cutI (β := List Int × Option Addr × Nat × List Value × List Int × Option Addr × Nat × Int) (fun y => []) [(152, _), (77, _), (2, _), (3, _), (4, _), (11, _), (13, _), (15, _), (75, _), (76, _), (17, _), (150, _), (151, _), (31, _), (34, _), (36, _)] (fun y => G3879 :: Fs) (fun y => [(b3909, .cells #[.slice y.2.1 y.1.length y.2.2.1] 43 (0, 0)), (b33, .cells #[.slice y.2.2.2.2.2.1 y.2.2.2.2.1.length y.2.2.2.2.2.2.1, .int .i64 y.2.2.2.2.2.2.2] 64 (0, 0))]) [_, _, _, _, _, _] (fun y => [.s (.slice y.2.1 y.1.length y.2.2.1) 3 1 y.1.length y.2.2.2.1]) [_, _, _, _] (fun y => OL (Rep.int .i64) G3879 y.2.2.2.1 y.1 ∧ SlR (Rep.int .i64) G3879 y.2.2.2.2.2.1 y.2.2.2.2.2.2.1 y.2.2.2.2.1 ∧ (law19_CuckooDoes_J2 (law19_CuckooDoes_L3 (law19_CuckooDoes_L8 x2 x3 x4 u52.1 x5_0 xs3055) x3054.2 x5_0 xs3856) x3855 u3875.1 v3829 x3054.2 v3835 v3836 x5_0) y.1 y.2.2.2.2.1 y.2.2.2.2.2.2.2 = some r) ⟨rfl, rfl, rfl, rfl, rfl, rfl, rfl, rfl, rfl, rfl, rfl, rfl, rfl, rfl, rfl, rfl, trivial⟩ [1, 2, 3, 5, 6, 7] rfl [1, 2, 3, 4] rfl ?_ ?_
                          · intro y hI
                            obtain ⟨v3938, a3939, k3940, cs3941, v3944, a3945, k3946, v3948⟩ := y
                            obtain ⟨o3942, s3947, r3950⟩ := hI
                            try dsimp only at o3942 s3947 r3950
                            refine Cov.prune [(152, _), (77, _), (2, _), (3, _), (4, _), (11, _), (13, _), (15, _), (75, _), (76, _), (17, _), (150, _), (151, _), (31, _), (34, _), (36, _)] ⟨rfl, rfl, rfl, rfl, rfl, rfl, rfl, rfl, rfl, rfl, rfl, rfl, rfl, rfl, rfl, rfl, trivial⟩ ?_
                            refine Cov.same (bl' := [(b3909, .cells #[.slice a3939 v3938.length k3940] 43 (0, 0)), (b33, .cells #[.slice a3945 v3944.length k3946, .int .i64 v3948] 64 (0, 0)), _, _, _, _, _, _]) (sl' := [.s (.slice a3939 v3938.length k3940) 3 1 v3938.length cs3941, _, _, _, _]) (Fs' := G3879 :: Fs) rfl rfl rfl ?_
                            unfold law19_CuckooDoes_J2 at r3950
                            try dsimp only at r3950
                            refine Cov.seq ?_
                            refine Cov.region rfl ?_
                            refine Cov.q .ro (.load_own_a 7 [_] rfl rfl ty43 rfl) rfl ?_
                            refine Cov.q .ro (.load_own_a 2 [_] rfl rfl ty43 rfl) rfl ?_
                            refine Cov.q .ro (.load_own_a 0 [_] rfl rfl ty43 rfl) rfl ?_
                            refine Cov.freezeR 0 rfl rfl o3942 [_, _, _, _] rfl B3881 (fun G3973 e3974 B3975 s3976 => ?_)
                            refine Cov.lit [_, _, _] [(0, _), (1, _), (2, _)] .ro sl60 ty43 rfl rfl rfl rfl rfl rfl (fun b3978 hb3978 => ?_)
                            have o3979 : OL (Rep.sl (Rep.int .i64)) G3973 [.slice a5_0 x5_0.length k5_0, .slice a3883 u3875.1.length k3884, .slice a3939 v3938.length k3940] ([x5_0, u3875.1, v3938] : List (List Int)) := ((OL.cons rfl (Rep.slI (SlR.mono (HpLe.trans (HpLe.trans (HpLe.trans (HpLe.trans (HpLe.trans (HpLe.trans (HpLe.trans (HpLe.trans e42 e1548) e3032) e3254) e3417) e3826) e3868) e3880) e3974) s5_0)) (OL.cons rfl (Rep.slI (SlR.mono e3974 s3885)) (OL.cons rfl (Rep.slI s3976) (OL.nil (Rp' := (Rep.sl (Rep.int .i64))))))) :)
                            refine Cov.reval 202 (n' := ([x5_0, u3875.1, v3938] : List (List Int)).length) rfl rfl ?_
                            refine Cov.q .ro (.len_sl rfl rfl sl60) rfl ?_
                            refine Cov.q .ro (.move rfl) rfl ?_
                            refine Cov.region_end ?_
                            refine Cov.block ?_
                            refine Cov.loop2 (α := Nat × List (List Int) × Hp) (fun y => [(204, .int .i64 (y.1 : Int))]) [(152, _), (77, _), (2, _), (3, _), (4, _), (11, _), (13, _), (15, _), (75, _), (76, _), (17, _), (150, _), (151, _), (31, _), (202, _), (203, _)] (fun y => [y.2.2]) (fun y => []) [_, _, _, _, _, _, _, _] (fun y => []) [_, _, _, _, _] (fun y => HpLe G3973 y.2.2 ∧ Bd w0 S0 Fs y.2.2 ∧ List.drop y.1 ([x5_0, u3875.1, v3938] : List (List Int)) = y.2.1 ∧ law19_CuckooDoes_L1 (law19_CuckooDoes_L3 (law19_CuckooDoes_L8 x2 x3 x4 u52.1 x5_0 xs3055) x3054.2 x5_0 xs3856) x3855 v3944 v3948 v3829 x3054.2 v3835 v3836 y.2.1  = some r) (fun y => y.2.1.length) (0, ([x5_0, u3875.1, v3938] : List (List Int)), G3973) ⟨(HpLe.refl _), B3975, rfl, r3950⟩ ⟨rfl, rfl, rfl, rfl, rfl, rfl, rfl, rfl, rfl, rfl, rfl, rfl, rfl, rfl, rfl, rfl, rfl, trivial⟩ rfl rfl rfl (fun y hI hb4081 => ?_)
                            obtain ⟨i4073, w4074, G4076⟩ := y
                            obtain ⟨e4077, B4078, g4075, r4080⟩ := hI
                            try dsimp only at e4077 B4078 g4075 r4080
                            refine Cov.prune [(204, .int .i64 (i4073 : Int)), (152, _), (77, _), (2, _), (3, _), (4, _), (11, _), (13, _), (15, _), (75, _), (76, _), (17, _), (150, _), (151, _), (31, _), (202, _), (203, _)] ⟨rfl, rfl, rfl, rfl, rfl, rfl, rfl, rfl, rfl, rfl, rfl, rfl, rfl, rfl, rfl, rfl, rfl, trivial⟩ ?_
                            refine Cov.same (bl' := [_, _, _, _, _, _, _, _]) (sl' := [_, _, _, _, _]) (Fs' := G4076 :: Fs) rfl rfl rfl ?_
                            cases w4074 with
                            | nil =>
                              rw [law19_CuckooDoes_L1] at r4080; try dsimp only at r4080
                              refine Cov.seq ?_
                              refine Cov.region rfl ?_
                              refine Cov.q .ro (.lss rfl rfl) rfl ?_
                              refine Cov.region_end ?_
                              refine Cov.seq ?_
                              refine Cov.cond_dec rfl (fun c => absurd c (drop_nil g4075)) (fun _ => ?_)
                              refine Cov.exit rfl ?_
                              refine Cov.inBlock ?_
                              refine Cov.region rfl ?_
                              refine Cov.q .ro (.addw rfl rfl) rfl ?_
                              refine Cov.q .ro (.move rfl) rfl ?_
                              refine Cov.region_end ?_
                              refine Cov.pull 7 rfl [_, _, _, _, _, _, _, _] rfl ?_
                              refine Cov.pull 7 rfl [_, _, _, _, _, _, _, _] rfl ?_
                              refine Cov.pull 7 rfl [_, _, _, _, _, _, _, _] rfl ?_
                              refine Cov.pull 4 rfl [_, _, _, _, _, _, _, _] rfl ?_
                              refine Cov.pull 7 rfl [_, _, _, _, _, _, _, _] rfl ?_
                              refine Cov.pull 7 rfl [_, _, _, _, _, _, _, _] rfl ?_
                              refine Cov.pull 7 rfl [_, _, _, _, _, _, _, _] rfl ?_
                              refine Cov.pull 7 rfl [_, _, _, _, _, _, _, _] rfl ?_
                              refine Cov.drop 3 0 [_, _, _, _, _] _ rfl rfl ?_
                              refine Cov.drop 0 1 _ [_, _, _, _] rfl rfl ?_
                              refine Cov.prune _ ?_ (Cov.same rfl rfl rfl (hb3838 ((i3822 + 1), xs3856, G4076, v3829, v3944, a3945, k3946, v3948, v3835, v3836) ⟨(HpLe.trans (HpLe.trans (HpLe.trans (HpLe.trans e3826 e3868) e3880) e3974) e4077), B4078, (SlR.mono (HpLe.trans e3974 e4077) s3947), (drop_succ g3824), r4080⟩ (Nat.lt_succ_self _)))
                              exact ⟨(congrArg (fun z => some (Value.int .i64 z)) (idx_wrap (OL.len' o3441) g3824)), rfl, rfl, rfl, rfl, rfl, rfl, rfl, rfl, rfl, rfl, rfl, rfl, trivial⟩
                            | cons x4110 xs4111 =>
                              have r4109 : law19_CuckooDoes_B1 (law19_CuckooDoes_L3 (law19_CuckooDoes_L8 x2 x3 x4 u52.1 x5_0 xs3055) x3054.2 x5_0 xs3856) x3855 v3944 v3948 v3829 x3054.2 v3835 v3836 (law19_CuckooDoes_L1 (law19_CuckooDoes_L3 (law19_CuckooDoes_L8 x2 x3 x4 u52.1 x5_0 xs3055) x3054.2 x5_0 xs3856) x3855 v3944 v3948 v3829 x3054.2 v3835 v3836 xs4111) x4110  = some r := r4080; clear r4080; unfold law19_CuckooDoes_B1 at r4109; try dsimp only at r4109
                              refine Cov.seq ?_
                              refine Cov.region rfl ?_
                              refine Cov.q .ro (.lss rfl rfl) rfl ?_
                              refine Cov.region_end ?_
                              refine Cov.seq ?_
                              refine Cov.cond_dec rfl (fun _ => ?_) (fun c => absurd (drop_lt g4075) c)
                              refine Cov.skip ?_
                              refine Cov.seq ?_
                              refine Cov.block ?_
                              refine Cov.seq ?_
                              refine Cov.region rfl ?_
                              obtain ⟨c4112, p4113, h4114⟩ := OL.get (OL.mono e4077 o3979) (drop_idx g4075)
                              obtain ⟨a4115, k4116, rfl, s4117⟩ := h4114
                              refine Cov.q .ro (.idxO 0 rfl rfl rfl (drop_idx g4075) sl60 ty43.sz) rfl ?_
                              refine Cov.q .ro (.loadO_a 0 0 [_] rfl (drop_idx g4075) p4113 rfl (.inl ⟨rfl, rfl⟩) ty43 rfl) rfl ?_
                              refine Cov.alloc .ro ty43 rfl (fun b4118 hb4118 => ?_)
                              refine Cov.store 0 [_] [_, _, _, _, _, _, _, _, _] .ro rfl rfl rfl ty43 rfl rfl rfl rfl ?_
                              refine Cov.region_end ?_
                              refine Cov.seq ?_
                              refine Cov.seq ?_
                              refine Cov.drawL (.q 0 (.q 1 (.q 2 (.q 4 (.q 5 (.q 6 (.e 3 1 (.e 7 1 (.q 8 .nil))))))))) [_, _, _, _, _, _, _, _, _] (by kernel_rfl) (by kernel_rfl) (pick_mem [0, 1, 2, 3, 4, 5, 6, 7, 8] rfl) ?_
                              refine Cov.dq (.load_own_a 5 [_, _] rfl rfl ty25 rfl) rfl ?_
                              refine Cov.dq (.move rfl) rfl ?_
                              refine Cov.dq (.load_own_a 0 [_] rfl rfl ty43 rfl) rfl ?_
                              refine Cov.dq (.load_own_a 5 [_, _] rfl rfl ty25 rfl) rfl ?_
                              refine Cov.dq (.move rfl) rfl ?_
                              refine Cov.dq (.load_own_a 0 [_] rfl rfl ty43 rfl) rfl ?_
                              obtain ⟨u4119, hu4119, r4120⟩ := bind_some r4109; clear r4109
                              refine Cov.callS (b1 := []) (b2 := [_, _, _, _, _, _, _, _, _]) (s1 := []) [_, _, _] [] .d1 rfl rfl Try.call19 rfl rfl (cuckoo_Fits_c (G := G4076) List.mem_cons_self (SlR.mono (HpLe.trans (HpLe.trans (HpLe.trans (HpLe.trans (HpLe.trans (HpLe.trans e3254 e3417) e3826) e3868) e3880) e3974) e4077) s3061) (SlR.mono (HpLe.trans (HpLe.trans (HpLe.trans e3868 e3880) e3974) e4077) s3862) s4117 hu4119) rfl (fun v4122 bo so h4121 => ?_)
                              obtain ⟨rfl, rfl, rfl⟩ := h4121
                              refine Cov.same (bl' := [_, _, _, _, _, _, _, _, _]) (sl' := [_, _, _, _, _]) rfl rfl rfl ?_
                              refine Cov.clsL (HpLe.refl _) (pick_mem [0, 1, 2, 3, 4, 5, 6, 7, 8] rfl) ?_
                              obtain ⟨u4123, hu4123, r4124⟩ := bind_some r4120; clear r4120
                              refine Cov.callS (b1 := []) (b2 := [_, _, _, _, _, _, _, _, _]) (s1 := []) [_, _, _] [] .d1 rfl rfl Try.call32 rfl rfl (ref19_Fits_c (G := G4076) List.mem_cons_self (SlR.mono (HpLe.trans (HpLe.trans (HpLe.trans (HpLe.trans (HpLe.trans (HpLe.trans e3254 e3417) e3826) e3868) e3880) e3974) e4077) s3061) (SlR.mono (HpLe.trans (HpLe.trans (HpLe.trans e3868 e3880) e3974) e4077) s3862) s4117 hu4123) rfl (fun v4126 bo so h4125 => ?_)
                              obtain ⟨rfl, rfl, rfl⟩ := h4125
                              refine Cov.same (bl' := [_, _, _, _, _, _, _, _, _]) (sl' := [_, _, _, _, _]) rfl rfl rfl ?_
                              refine Cov.clsL (HpLe.refl _) (pick_mem [0, 1, 2, 3, 4, 5, 6, 7, 8] rfl) ?_
                              refine Cov.dq (.neq_b Try.underlying4 rfl rfl) rfl ?_
                              refine Cov.draw_end ?_
                              refine Cov.cond_dec rfl (fun c4127 => ?_) (fun c4127 => ?_)
                              · have r4128 := ifT r4124 c4127; clear r4124
                                refine Cov.seq ?_
                                refine Cov.region rfl ?_
                                refine Cov.q .ro (.assign rfl) rfl ?_
                                refine Cov.region_end ?_
                                refine Cov.prune [(12, _)] ⟨rfl, trivial⟩ ?_
                                cases r4128
                                refine Cov.drop 9 0 [] _ rfl rfl ?_
                                refine Cov.drop 0 5 _ [] rfl rfl ?_
                                refine Cov.retS (c := ⟨7, none⟩) (.inr ⟨_, rfl⟩) [.tmp 12] [_] rfl Try.func7 Try.results7 ⟨RV.tmp rfl, trivial⟩ (fun _ h => List.mem_cons_of_mem _ h) ⟨rfl, rfl, rfl⟩
                              · have r4129 := ifF r4124 c4127; clear r4124
                                refine Cov.skip ?_
                                refine Cov.seq ?_
                                refine Cov.region rfl ?_
                                refine Cov.q .ro (.load_own_a 5 [_, _] rfl rfl ty25 rfl) rfl ?_
                                refine Cov.q .ro (.move rfl) rfl ?_
                                refine Cov.q .ro (.load_own_a 0 [_] rfl rfl ty43 rfl) rfl ?_
                                obtain ⟨u4130, hu4130, r4131⟩ := bind_some r4129; clear r4129
                                refine Cov.callS (b1 := []) (b2 := [_, _, _, _, _, _, _, _, _]) (s1 := []) [_, _, _] [] .ro rfl rfl Try.call33 rfl rfl (cuckoo_Spots_c (G := G4076) List.mem_cons_self (SlR.mono (HpLe.trans (HpLe.trans (HpLe.trans (HpLe.trans (HpLe.trans (HpLe.trans e3254 e3417) e3826) e3868) e3880) e3974) e4077) s3061) (SlR.mono (HpLe.trans (HpLe.trans (HpLe.trans e3868 e3880) e3974) e4077) s3862) s4117 hu4130) rfl (fun v4133 bo so h4132 => ?_)
                                obtain ⟨a4135, k4136, cs4137, rfl, rfl, rfl, o4138⟩ := h4132
                                refine Cov.same (bl' := [_, _, _, _, _, _, _, _, _]) (sl' := [_, _, _, _, _, _]) rfl rfl rfl ?_
                                refine Cov.q .ro (.move rfl) rfl ?_
                                refine Cov.q .ro (.extract rfl rfl) rfl ?_
                                refine Cov.q .ro (.extract rfl rfl) rfl ?_
                                refine Cov.q .ro (.assign rfl) rfl ?_
                                refine Cov.q .ro (.assign rfl) rfl ?_
                                refine Cov.region_end ?_
                                refine Cov.prune [(204, _), (152, _), (77, _), (2, _), (3, _), (4, _), (11, _), (13, _), (15, _), (75, _), (76, _), (17, _), (150, _), (151, _), (31, _), (202, _), (203, _), (38, _), (39, _), (40, _)] ⟨rfl, rfl, rfl, rfl, rfl, rfl, rfl, rfl, rfl, rfl, rfl, rfl, rfl, rfl, rfl, rfl, rfl, rfl, rfl, rfl, trivial⟩ ?_
                                refine Cov.seq ?_
                                refine Cov.region rfl ?_
                                refine Cov.q .ro (.load_own_a 5 [_, _] rfl rfl ty25 rfl) rfl ?_
                                refine Cov.q .ro (.move rfl) rfl ?_
                                refine Cov.q .ro (.load_own_a 0 [_] rfl rfl ty43 rfl) rfl ?_
                                obtain ⟨u4139, hu4139, r4140⟩ := bind_some r4131; clear r4131
                                refine Cov.callS (b1 := []) (b2 := [_, _, _, _, _, _, _, _, _]) (s1 := []) [_, _, _] [] .ro rfl rfl Try.call34 rfl rfl (ref19_Spots_c (G := G4076) List.mem_cons_self (SlR.mono (HpLe.trans (HpLe.trans (HpLe.trans (HpLe.trans (HpLe.trans (HpLe.trans e3254 e3417) e3826) e3868) e3880) e3974) e4077) s3061) (SlR.mono (HpLe.trans (HpLe.trans (HpLe.trans e3868 e3880) e3974) e4077) s3862) s4117 hu4139) rfl (fun v4142 bo so h4141 => ?_)
                                obtain ⟨a4144, k4145, cs4146, rfl, rfl, rfl, o4147⟩ := h4141
                                refine Cov.same (bl' := [_, _, _, _, _, _, _, _, _]) (sl' := [_, _, _, _, _, _, _]) rfl rfl rfl ?_
                                refine Cov.q .ro (.move rfl) rfl ?_
                                refine Cov.q .ro (.extract rfl rfl) rfl ?_
                                refine Cov.q .ro (.extract rfl rfl) rfl ?_
                                refine Cov.q .ro (.assign rfl) rfl ?_
                                refine Cov.q .ro (.assign rfl) rfl ?_
                                refine Cov.region_end ?_
                                refine Cov.seq ?_
                                refine Cov.region rfl ?_
                                refine Cov.q .ro (.move rfl) rfl ?_
                                refine Cov.q .ro (.move rfl) rfl ?_
                                refine Cov.q .ro (.neq rfl rfl) rfl ?_
                                refine Cov.q .ro (.move rfl) rfl ?_
                                refine Cov.freezeR 0 rfl rfl o4147 [_, _, _, _, _, _] rfl B4078 (fun G4162 e4163 B4164 s4165 => ?_)
                                refine Cov.freezeR 0 rfl rfl (OL.mono e4163 o4138) [_, _, _, _, _] rfl B4164 (fun G4167 e4168 B4169 s4170 => ?_)
                                obtain ⟨u4178, h4179, r4180⟩ := bind_some r4140; clear r4140
                                refine Cov.cutR 5 (β := Unit) (fun y => [(239, .bool u4178)]) [(204, _), (152, _), (77, _), (2, _), (3, _), (4, _), (11, _), (13, _), (15, _), (75, _), (76, _), (17, _), (150, _), (151, _), (31, _), (202, _), (203, _)] (fun y => G4167 :: Fs) (fun y => []) [_, _, _, _, _, _, _, _, _] (fun y => []) [_, _, _, _, _] (fun y => True) ⟨rfl, rfl, rfl, rfl, rfl, rfl, rfl, rfl, rfl, rfl, rfl, rfl, rfl, rfl, rfl, rfl, rfl, trivial⟩ [0, 1, 2, 3, 4, 5, 6, 7, 8] rfl [0, 1, 2, 3, 4] rfl ?_ ?_
                                · rintro _ _
                                  refine Cov.prune [(239, .bool u4178), (204, _), (152, _), (77, _), (2, _), (3, _), (4, _), (11, _), (13, _), (15, _), (75, _), (76, _), (17, _), (150, _), (151, _), (31, _), (202, _), (203, _)] ⟨rfl, rfl, rfl, rfl, rfl, rfl, rfl, rfl, rfl, rfl, rfl, rfl, rfl, rfl, rfl, rfl, rfl, rfl, trivial⟩ ?_
                                  refine Cov.same (bl' := [_, _, _, _, _, _, _, _, _]) (sl' := [_, _, _, _, _]) (Fs' := G4167 :: Fs) rfl rfl rfl ?_
                                  refine Cov.region_end ?_
                                  refine Cov.cond rfl (fun c4183 => ?_) (fun c4183 => ?_)
                                  · have r4184 := ifT r4180 c4183; clear r4180
                                    refine Cov.seq ?_
                                    refine Cov.region rfl ?_
                                    refine Cov.q .ro (.assign rfl) rfl ?_
                                    refine Cov.region_end ?_
                                    refine Cov.prune [(12, _)] ⟨rfl, trivial⟩ ?_
                                    cases r4184
                                    refine Cov.drop 9 0 [] _ rfl rfl ?_
                                    refine Cov.drop 0 5 _ [] rfl rfl ?_
                                    refine Cov.retS (c := ⟨7, none⟩) (.inr ⟨_, rfl⟩) [.tmp 12] [_] rfl Try.func7 Try.results7 ⟨RV.tmp rfl, trivial⟩ (fun _ h => List.mem_cons_of_mem _ h) ⟨rfl, rfl, rfl⟩
                                  · have r4185 := ifBF r4180 c4183; clear r4180
                                    refine Cov.skip ?_
                                    refine Cov.inBlock ?_
                                    refine Cov.region rfl ?_
                                    refine Cov.q .ro (.addw rfl rfl) rfl ?_
                                    refine Cov.q .ro (.move rfl) rfl ?_
                                    refine Cov.region_end ?_
                                    refine Cov.drop 1 0 [_, _, _, _, _, _, _, _] _ rfl rfl ?_
                                    refine Cov.prune _ ?_ (Cov.same rfl rfl rfl (hb4081 ((i4073 + 1), xs4111, G4167) ⟨(HpLe.trans (HpLe.trans e4077 e4163) e4168), B4169, (drop_succ g4075), r4185⟩ (Nat.lt_succ_self _)))
                                    exact ⟨(congrArg (fun z => some (Value.int .i64 z)) (idx_wrap (OL.len' o3979) g4075)), rfl, rfl, rfl, rfl, rfl, rfl, rfl, rfl, rfl, rfl, rfl, rfl, rfl, rfl, rfl, rfl, trivial⟩
                                · intro hb4177
                                  refine Cov.split 234 rfl (fun c4176 => ?_) (fun c4176 => ?_)
                                  · have r4186 := ifT h4179 c4176
                                    refine Cov.g_off rfl rfl rfl ?_
                                    refine Cov.g_off rfl rfl rfl ?_
                                    refine Cov.g_off rfl rfl rfl ?_
                                    refine Cov.g_off rfl rfl rfl ?_
                                    refine Cov.q .ro (.pick_t rfl rfl) rfl ?_
                                    refine Cov.prune _ ?_ (Cov.same rfl rfl rfl (hb4177 () trivial))
                                    exact ⟨sval r4186, rfl, rfl, rfl, rfl, rfl, rfl, rfl, rfl, rfl, rfl, rfl, rfl, rfl, rfl, rfl, rfl, rfl, trivial⟩
                                  · have r4187 := ifF h4179 c4176
                                    refine Cov.g_on rfl ?_
                                    refine Cov.q .ro (.move rfl) rfl ?_
                                    refine Cov.g_on rfl ?_
                                    refine Cov.q .ro (.move rfl) rfl ?_
                                    refine Cov.g_on rfl ?_
                                    obtain ⟨u4188, hu4188, r4189⟩ := bind_some r4187; clear r4187
                                    refine Cov.callS (b1 := []) (b2 := [_, _, _, _, _, _, _, _, _]) (s1 := []) [_, _] [] .ro rfl rfl Try.call25 rfl rfl (ref04_Same_c (G := G4167) List.mem_cons_self s4170 (SlR.mono e4168 s4165) hu4188) rfl (fun v4191 bo so h4190 => ?_)
                                    obtain ⟨rfl, rfl, rfl⟩ := h4190
                                    refine Cov.same (bl' := [_, _, _, _, _, _, _, _, _]) (sl' := [_, _, _, _, _]) rfl rfl rfl ?_
                                    refine Cov.g_on rfl ?_
                                    refine Cov.q .ro (.not rfl) rfl ?_
                                    refine Cov.q .ro (.pick_f rfl rfl) rfl ?_
                                    refine Cov.prune _ ?_ (Cov.same rfl rfl rfl (hb4177 () trivial))
                                    exact ⟨sval r4189, rfl, rfl, rfl, rfl, rfl, rfl, rfl, rfl, rfl, rfl, rfl, rfl, rfl, rfl, rfl, rfl, rfl, trivial⟩
                          · intro hb4192
                            refine Cov.cond_dec rfl (fun c4193 => ?_) (fun c4193 => ?_)
                            · have r4194 := ifT r3907 c4193; clear r3907
                              refine Cov.drawL (.q 0 (.q 1 (.q 2 (.q 3 (.q 4 (.q 5 (.q 7 (.q 8 (.q 9 (.q 10 (.e 6 1 (.e 11 1 (.q 12 (.e 13 2 (.e 14 2 .nil))))))))))))))) [_, _, _, _, _, _, _] (by kernel_rfl) (by kernel_rfl) (pick_mem [0, 1, 2, 3, 5, 6, 7] rfl) ?_
                              refine Cov.dq (.fieldAddr 0 rfl fl43_0 ty22.sz rfl) rfl ?_
                              refine Cov.dq (.load_own 0 rfl rfl ty22 rfl) rfl ?_
                              refine Cov.dq (.move rfl) rfl ?_
                              refine Cov.dq (.fieldAddr 0 rfl fl43_0 ty22.sz rfl) rfl ?_
                              refine Cov.dq (.load_own 0 rfl rfl ty22 rfl) rfl ?_
                              refine Cov.dq (.len_sl rfl rfl sl22) rfl ?_
                              refine Cov.dq (.move rfl) rfl ?_
                              refine Cov.dq (.move rfl) rfl ?_
                              refine Cov.dq (.len_sl rfl rfl sl22) rfl ?_
                              refine Cov.dq (.addw rfl rfl) rfl ?_
                              obtain ⟨u4195, hu4195, r4196⟩ := bind_some r4194; clear r4194
                              refine Cov.pull 4 rfl [_, _, _, _, _, _, _, _] rfl ?_
                              refine Cov.callS (b1 := [_]) (b2 := [_, _, _, _, _, _, _]) (s1 := []) [_, _] [] .d1 rfl rfl Try.call31 rfl rfl (make_Deck_Next_c (G := G3879) List.mem_cons_self (SlR.mono (HpLe.trans e3868 e3880) s3833) hu4195) rfl (fun v4198 bo so h4197 => ?_)
                              obtain ⟨a4199, k4200, rfl, rfl, rfl, s4201⟩ := h4197
                              refine Cov.same (bl' := [_, _, _, _, _, _, _, _]) (sl' := [_, _, _, _, _]) rfl rfl rfl ?_
                              refine Cov.clsL (HpLe.refl _) (pick_mem [1, 2, 3, 4, 5, 6, 7] rfl) ?_
                              obtain ⟨u4202, hu4202, r4203⟩ := bind_some r4196; clear r4196
                              refine Cov.callS (b1 := [_]) (b2 := [_, _, _, _, _, _, _]) (s1 := []) [_, _] [] .d1 rfl rfl Try.call31 rfl rfl (make_Deck_Next_c (G := G3879) List.mem_cons_self s4201 hu4202) rfl (fun v4205 bo so h4204 => ?_)
                              obtain ⟨a4206, k4207, rfl, rfl, rfl, s4208⟩ := h4204
                              refine Cov.same (bl' := [_, _, _, _, _, _, _, _]) (sl' := [_, _, _, _, _]) rfl rfl rfl ?_
                              refine Cov.clsL (HpLe.refl _) (pick_mem [1, 2, 3, 4, 5, 6, 7] rfl) ?_
                              refine Cov.dq (.subw rfl rfl) rfl ?_
                              obtain ⟨u4209, hu4209, r4210⟩ := bind_some r4203; clear r4203
                              obtain ⟨c4211, p4212, h4213⟩ := OL.get o3905 hu4209
                              obtain rfl := h4213
                              refine Cov.q .d2 (.idxO 0 rfl rfl rfl hu4209 sl22 ty3.sz) rfl ?_
                              obtain ⟨u4214, hu4214, r4215⟩ := bind_some r4210; clear r4210
                              refine Cov.storeR 0 0 (Q := (Rep.int .i64)) .d2 rfl rfl o3905 hu4214 rfl (.inl ⟨rfl, rfl⟩) rfl ty3 p4212 ((Rep.intI .i64 (w64 (u4202.1 - 1))) :) rfl rfl (fun cs4216 hlcs4216 o4217 => ?_)
                              refine Cov.reval 179 hlcs4216 rfl ?_
                              refine Cov.reval 182 hlcs4216 rfl ?_
                              refine Cov.reval 186 hlcs4216 rfl ?_
                              refine Cov.reval 189 hlcs4216 rfl ?_
                              refine Cov.recell 1 [.slice a3902 u4214.length k3903] rfl (by rw [hlcs4216]) [_, _, _, _, _, _, _, _] rfl ?_
                              refine Cov.draw_end ?_
                              refine Cov.prune [(152, _), (77, _), (2, _), (3, _), (4, _), (11, _), (13, _), (15, _), (75, _), (76, _), (17, _), (150, _), (151, _), (31, _), (34, _), (36, _)] ⟨rfl, rfl, rfl, rfl, rfl, rfl, rfl, rfl, rfl, rfl, rfl, rfl, rfl, rfl, rfl, rfl, trivial⟩ ?_
                              refine Cov.pull 7 rfl [_, _, _, _, _, _, _, _] rfl ?_
                              refine Cov.pull 7 rfl [_, _, _, _, _, _, _, _] rfl ?_
                              refine Cov.pull 7 rfl [_, _, _, _, _, _, _, _] rfl ?_
                              refine Cov.pull 7 rfl [_, _, _, _, _, _, _, _] rfl ?_
                              refine Cov.pull 7 rfl [_, _, _, _, _, _, _, _] rfl ?_
                              refine Cov.pull 7 rfl [_, _, _, _, _, _, _, _] rfl ?_
                              refine Cov.pull 6 rfl [_, _, _, _, _, _, _, _] rfl ?_
                              refine Cov.pull 7 rfl [_, _, _, _, _, _, _, _] rfl ?_
                              refine Cov.prune _ ?_ (Cov.same rfl rfl rfl (hb4192 (u4214, a3902, k3903, cs4216, u4202.2.1, a4206, k4207, u4202.2.2) ⟨o4217, s4208, r4215⟩))
                              exact ⟨rfl, rfl, rfl, rfl, rfl, rfl, rfl, rfl, rfl, rfl, rfl, rfl, rfl, rfl, rfl, rfl, trivial⟩
                            · have r4219 := ifF r3907 c4193; clear r3907
                              refine Cov.skip ?_
                              refine Cov.pull 7 rfl [_, _, _, _, _, _, _, _] rfl ?_
                              refine Cov.pull 7 rfl [_, _, _, _, _, _, _, _] rfl ?_
                              refine Cov.pull 7 rfl [_, _, _, _, _, _, _, _] rfl ?_
                              refine Cov.pull 6 rfl [_, _, _, _, _, _, _, _] rfl ?_
                              refine Cov.pull 6 rfl [_, _, _, _, _, _, _, _] rfl ?_
                              refine Cov.pull 6 rfl [_, _, _, _, _, _, _, _] rfl ?_
                              refine Cov.pull 7 rfl [_, _, _, _, _, _, _, _] rfl ?_
                              refine Cov.pull 7 rfl [_, _, _, _, _, _, _, _] rfl ?_
                              refine Cov.prune _ ?_ (Cov.same rfl rfl rfl (hb4192 (u3906, a3902, k3903, cs3904, v3830, a3831, k3832, v3834) ⟨o3905, (SlR.mono (HpLe.trans e3868 e3880) s3833), r4219⟩))
                              exact ⟨rfl, rfl, rfl, rfl, rfl, rfl, rfl, rfl, rfl, rfl, rfl, rfl, rfl, rfl, rfl, rfl, trivial⟩
                      · intro hb3892
                        refine Cov.split 171 rfl (fun c3891 => ?_) (fun c3891 => ?_)
                        · have r4220 := ifT h3894 c3891
                          refine Cov.g_off rfl rfl rfl ?_
                          refine Cov.g_off rfl rfl rfl ?_
                          refine Cov.g_off rfl rfl rfl ?_
                          refine Cov.g_off rfl rfl rfl ?_
                          refine Cov.q .ro (.pick_t rfl rfl) rfl ?_
                          refine Cov.prune _ ?_ (Cov.same rfl rfl rfl (hb3892 () trivial))
                          exact ⟨sval r4220, rfl, rfl, rfl, rfl, rfl, rfl, rfl, rfl, rfl, rfl, rfl, rfl, rfl, rfl, rfl, trivial⟩
                        · have r4221 := ifF h3894 c3891
                          refine Cov.g_on rfl ?_
                          refine Cov.q .ro (.load_own_a 1 [_] rfl rfl ty43 rfl) rfl ?_
                          refine Cov.g_on rfl ?_
                          refine Cov.q .ro (.load_own_a 0 [_] rfl rfl ty43 rfl) rfl ?_
                          refine Cov.g_on rfl ?_
                          obtain ⟨u4222, hu4222, r4223⟩ := bind_some r4221; clear r4221
                          refine Cov.callS (b1 := []) (b2 := [_, _, _, _, _, _, _]) (s1 := []) [_, _] [] .ro rfl rfl Try.call30 rfl rfl (ref19_Same_c (G := G3879) List.mem_cons_self (SlR.mono e3880 s3873) s3885 hu4222) rfl (fun v4225 bo so h4224 => ?_)
                          obtain ⟨rfl, rfl, rfl⟩ := h4224
                          refine Cov.same (bl' := [_, _, _, _, _, _, _]) (sl' := [_, _, _, _]) rfl rfl rfl ?_
                          refine Cov.g_on rfl ?_
                          refine Cov.q .ro (.not rfl) rfl ?_
                          refine Cov.q .ro (.pick_f rfl rfl) rfl ?_
                          refine Cov.prune _ ?_ (Cov.same rfl rfl rfl (hb3892 () trivial))
                          exact ⟨sval r4223, rfl, rfl, rfl, rfl, rfl, rfl, rfl, rfl, rfl, rfl, rfl, rfl, rfl, rfl, rfl, trivial⟩
                  · intro hb4226
                    refine Cov.block ?_
                    refine Cov.loop2 (α := Nat × List Int × Hp) (fun y => [(122, .int .i64 (y.1 : Int))]) [(77, _), (2, _), (3, _), (4, _), (11, _), (13, _), (15, _), (75, _), (76, _), (17, _), (120, _), (121, _)] (fun y => [y.2.2]) (fun y => []) [_, _, _, _, _] (fun y => []) [_, _, _] (fun y => HpLe G3253 y.2.2 ∧ Bd w0 S0 Fs y.2.2 ∧ List.drop y.1 ([x3, u3276] : List Int) = y.2.1 ∧ law19_CuckooDoes_L5 (law19_CuckooDoes_J4 (law19_CuckooDoes_L8 x2 x3 x4 u52.1 x5_0 xs3055) x2 u52.1 x3054.2 v3035 x5_0) v3257 x3054.2 v3258 v3259 v3260 y.2.1  = some r) (fun y => y.2.1.length) (0, ([x3, u3276] : List Int), G3253) ⟨(HpLe.refl _), B3255, rfl, r3277⟩ ⟨rfl, rfl, rfl, rfl, rfl, rfl, rfl, rfl, rfl, rfl, rfl, rfl, rfl, trivial⟩ rfl rfl rfl (fun y hI hb4292 => ?_)
                    obtain ⟨i4284, w4285, G4287⟩ := y
                    obtain ⟨e4288, B4289, g4286, r4291⟩ := hI
                    try dsimp only at e4288 B4289 g4286 r4291
                    refine Cov.prune [(122, .int .i64 (i4284 : Int)), (77, _), (2, _), (3, _), (4, _), (11, _), (13, _), (15, _), (75, _), (76, _), (17, _), (120, _), (121, _)] ⟨rfl, rfl, rfl, rfl, rfl, rfl, rfl, rfl, rfl, rfl, rfl, rfl, rfl, trivial⟩ ?_
                    refine Cov.same (bl' := [_, _, _, _, _]) (sl' := [_, _, _]) (Fs' := G4287 :: Fs) rfl rfl rfl ?_
                    cases w4285 with
                    | nil =>
                      rw [law19_CuckooDoes_L5] at r4291; try dsimp only at r4291
                      refine Cov.seq ?_
                      refine Cov.region rfl ?_
                      refine Cov.q .ro (.lss rfl rfl) rfl ?_
                      refine Cov.region_end ?_
                      refine Cov.seq ?_
                      refine Cov.cond_dec rfl (fun c => absurd c (drop_nil g4286)) (fun _ => ?_)
                      refine Cov.exit rfl ?_
                      refine Cov.prune _ ?_ (Cov.same rfl rfl rfl (hb4226 (G4287, v3257, v3258, v3259, v3260) ⟨e4288, B4289, r4291⟩))
                      exact ⟨rfl, rfl, rfl, rfl, rfl, rfl, rfl, rfl, rfl, rfl, trivial⟩
                    | cons x4313 xs4314 =>
                      have r4312 : law19_CuckooDoes_B5 (law19_CuckooDoes_J4 (law19_CuckooDoes_L8 x2 x3 x4 u52.1 x5_0 xs3055) x2 u52.1 x3054.2 v3035 x5_0) v3257 x3054.2 v3258 v3259 v3260 (law19_CuckooDoes_L5 (law19_CuckooDoes_J4 (law19_CuckooDoes_L8 x2 x3 x4 u52.1 x5_0 xs3055) x2 u52.1 x3054.2 v3035 x5_0) v3257 x3054.2 v3258 v3259 v3260 xs4314) x4313  = some r := r4291; clear r4291; unfold law19_CuckooDoes_B5 at r4312; try dsimp only at r4312
                      refine Cov.seq ?_
                      refine Cov.region rfl ?_
                      refine Cov.q .ro (.lss rfl rfl) rfl ?_
                      refine Cov.region_end ?_
                      refine Cov.seq ?_
                      refine Cov.cond_dec rfl (fun _ => ?_) (fun c => absurd (drop_lt g4286) c)
                      refine Cov.skip ?_
                      refine Cov.seq ?_
                      refine Cov.block ?_
                      refine Cov.seq ?_
                      refine Cov.region rfl ?_
                      obtain ⟨c4315, p4316, h4317⟩ := OL.get (OL.mono e4288 o3281) (drop_idx g4286)
                      obtain rfl := h4317
                      refine Cov.q .ro (.idxO 0 rfl rfl rfl (drop_idx g4286) sl22 ty3.sz) rfl ?_
                      refine Cov.q .ro (.loadO 0 0 rfl (drop_idx g4286) p4316 rfl (.inl ⟨rfl, rfl⟩) ty3 rfl) rfl ?_
                      refine Cov.q .ro (.assign rfl) rfl ?_
                      refine Cov.region_end ?_
                      refine Cov.seq ?_
                      refine Cov.region rfl ?_
                      refine Cov.q .ro (.load_own_a 0 [_, _] rfl rfl ty25 rfl) rfl ?_
                      refine Cov.q .ro (.move rfl) rfl ?_
                      obtain ⟨u4318, hu4318, r4319⟩ := bind_some r4312; clear r4312
                      refine Cov.callW (b1 := []) (b2 := [_, _, _, _, _]) (s1 := []) [_, _] [] .ro rfl rfl Try.call26 rfl rfl (cuckoo_Layout_c (G := G4287) List.mem_cons_self (SlR.mono (HpLe.trans e3254 e4288) s3061) hu4318) rfl B4289 (fun v4321 bo so G4322 e4323 B4324 h4320 => ?_)
                      obtain ⟨a4326, k4327, rfl, rfl, rfl, s4328⟩ := h4320
                      refine Cov.same (bl' := [_, _, _, _, _]) (sl' := [_, _, _]) rfl rfl rfl ?_
                      refine Cov.q .ro (.move rfl) rfl ?_
                      refine Cov.q .ro (.extract rfl rfl) rfl ?_
                      refine Cov.q .ro (.extract rfl rfl) rfl ?_
                      refine Cov.q .ro (.assign rfl) rfl ?_
                      refine Cov.q .ro (.assign rfl) rfl ?_
                      refine Cov.region_end ?_
                      refine Cov.seq ?_
                      refine Cov.region rfl ?_
                      refine Cov.q .ro (.load_own_a 0 [_, _] rfl rfl ty25 rfl) rfl ?_
                      refine Cov.q .ro (.move rfl) rfl ?_
                      obtain ⟨u4329, hu4329, r4330⟩ := bind_some r4319; clear r4319
                      refine Cov.callW (b1 := []) (b2 := [_, _, _, _, _]) (s1 := []) [_, _] [] .ro rfl rfl Try.call27 rfl rfl (ref19_Layout_c (G := G4322) List.mem_cons_self (SlR.mono (HpLe.trans (HpLe.trans e3254 e4288) e4323) s3061) hu4329) rfl B4324 (fun v4332 bo so G4333 e4334 B4335 h4331 => ?_)
                      obtain ⟨a4337, k4338, rfl, rfl, rfl, s4339⟩ := h4331
                      refine Cov.same (bl' := [_, _, _, _, _]) (sl' := [_, _, _]) rfl rfl rfl ?_
                      refine Cov.q .ro (.move rfl) rfl ?_
                      refine Cov.q .ro (.extract rfl rfl) rfl ?_
                      refine Cov.q .ro (.extract rfl rfl) rfl ?_
                      refine Cov.q .ro (.assign rfl) rfl ?_
                      refine Cov.q .ro (.assign rfl) rfl ?_
                      refine Cov.region_end ?_
                      refine Cov.prune [(122, _), (77, _), (2, _), (3, _), (4, _), (11, _), (13, _), (15, _), (75, _), (76, _), (17, _), (120, _), (121, _), (26, _), (27, _), (28, _), (29, _)] ⟨rfl, rfl, rfl, rfl, rfl, rfl, rfl, rfl, rfl, rfl, rfl, rfl, rfl, rfl, rfl, rfl, rfl, trivial⟩ ?_
                      refine Cov.seq ?_
                      refine Cov.region rfl ?_
                      refine Cov.q .ro (.move rfl) rfl ?_
                      refine Cov.q .ro (.move rfl) rfl ?_
                      refine Cov.q .ro (.neq rfl rfl) rfl ?_
                      refine Cov.q .ro (.move rfl) rfl ?_
                      obtain ⟨u4346, h4347, r4348⟩ := bind_some r4330; clear r4330
                      refine Cov.cutR 5 (β := Unit) (fun y => [(146, .bool u4346)]) [(122, _), (77, _), (2, _), (3, _), (4, _), (11, _), (13, _), (15, _), (75, _), (76, _), (17, _), (120, _), (121, _)] (fun y => G4333 :: Fs) (fun y => []) [_, _, _, _, _] (fun y => []) [_, _, _] (fun y => True) ⟨rfl, rfl, rfl, rfl, rfl, rfl, rfl, rfl, rfl, rfl, rfl, rfl, rfl, trivial⟩ [0, 1, 2, 3, 4] rfl [0, 1, 2] rfl ?_ ?_
                      · rintro _ _
                        refine Cov.prune [(146, .bool u4346), (122, _), (77, _), (2, _), (3, _), (4, _), (11, _), (13, _), (15, _), (75, _), (76, _), (17, _), (120, _), (121, _)] ⟨rfl, rfl, rfl, rfl, rfl, rfl, rfl, rfl, rfl, rfl, rfl, rfl, rfl, rfl, trivial⟩ ?_
                        refine Cov.same (bl' := [_, _, _, _, _]) (sl' := [_, _, _]) (Fs' := G4333 :: Fs) rfl rfl rfl ?_
                        refine Cov.region_end ?_
                        refine Cov.cond rfl (fun c4351 => ?_) (fun c4351 => ?_)
                        · have r4352 := ifT r4348 c4351; clear r4348
                          refine Cov.seq ?_
                          refine Cov.region rfl ?_
                          refine Cov.q .ro (.assign rfl) rfl ?_
                          refine Cov.region_end ?_
                          refine Cov.prune [(12, _)] ⟨rfl, trivial⟩ ?_
                          cases r4352
                          refine Cov.drop 5 0 [] _ rfl rfl ?_
                          refine Cov.drop 0 3 _ [] rfl rfl ?_
                          refine Cov.retS (c := ⟨7, none⟩) (.inr ⟨_, rfl⟩) [.tmp 12] [_] rfl Try.func7 Try.results7 ⟨RV.tmp rfl, trivial⟩ (fun _ h => List.mem_cons_of_mem _ h) ⟨rfl, rfl, rfl⟩
                        · have r4353 := ifBF r4348 c4351; clear r4348
                          refine Cov.skip ?_
                          refine Cov.inBlock ?_
                          refine Cov.region rfl ?_
                          refine Cov.q .ro (.addw rfl rfl) rfl ?_
                          refine Cov.q .ro (.move rfl) rfl ?_
                          refine Cov.region_end ?_
                          refine Cov.prune _ ?_ (Cov.same rfl rfl rfl (hb4292 ((i4284 + 1), xs4314, G4333) ⟨(HpLe.trans (HpLe.trans e4288 e4323) e4334), B4335, (drop_succ g4286), r4353⟩ (Nat.lt_succ_self _)))
                          exact ⟨(congrArg (fun z => some (Value.int .i64 z)) (idx_wrap (OL.len' o3281) g4286)), rfl, rfl, rfl, rfl, rfl, rfl, rfl, rfl, rfl, rfl, rfl, rfl, trivial⟩
                      · intro hb4345
                        refine Cov.split 141 rfl (fun c4344 => ?_) (fun c4344 => ?_)
                        · have r4354 := ifT h4347 c4344
                          refine Cov.g_off rfl rfl rfl ?_
                          refine Cov.g_off rfl rfl rfl ?_
                          refine Cov.g_off rfl rfl rfl ?_
                          refine Cov.g_off rfl rfl rfl ?_
                          refine Cov.q .ro (.pick_t rfl rfl) rfl ?_
                          refine Cov.prune _ ?_ (Cov.same rfl rfl rfl (hb4345 () trivial))
                          exact ⟨sval r4354, rfl, rfl, rfl, rfl, rfl, rfl, rfl, rfl, rfl, rfl, rfl, rfl, rfl, trivial⟩
                        · have r4355 := ifF h4347 c4344
                          refine Cov.g_on rfl ?_
                          refine Cov.q .ro (.move rfl) rfl ?_
                          refine Cov.g_on rfl ?_
                          refine Cov.q .ro (.move rfl) rfl ?_
                          refine Cov.g_on rfl ?_
                          obtain ⟨u4356, hu4356, r4357⟩ := bind_some r4355; clear r4355
                          refine Cov.callS (b1 := []) (b2 := [_, _, _, _, _]) (s1 := []) [_, _] [] .ro rfl rfl Try.call28 rfl rfl (ref04_SameRows_c (G := G4333) List.mem_cons_self (SlR.mono e4334 s4328) s4339 hu4356) rfl (fun v4359 bo so h4358 => ?_)
                          obtain ⟨rfl, rfl, rfl⟩ := h4358
                          refine Cov.same (bl' := [_, _, _, _, _]) (sl' := [_, _, _]) rfl rfl rfl ?_
                          refine Cov.g_on rfl ?_
                          refine Cov.q .ro (.not rfl) rfl ?_
                          refine Cov.q .ro (.pick_f rfl rfl) rfl ?_
                          refine Cov.prune _ ?_ (Cov.same rfl rfl rfl (hb4345 () trivial))
                          exact ⟨sval r4357, rfl, rfl, rfl, rfl, rfl, rfl, rfl, rfl, rfl, rfl, rfl, rfl, rfl, trivial⟩
                · intro hb4360
                  refine Cov.block ?_
                  refine Cov.loop2 (α := Nat × List Int × Hp) (fun y => [(91, .int .i64 (y.1 : Int))]) [(77, _), (2, _), (3, _), (4, _), (11, _), (13, _), (15, _), (75, _), (76, _), (17, _), (89, _), (90, _)] (fun y => [y.2.2]) (fun y => []) [_, _, _, _, _] (fun y => []) [_, _] (fun y => HpLe G3031 y.2.2 ∧ Bd w0 S0 Fs y.2.2 ∧ List.drop y.1 ([x4, u3074] : List Int) = y.2.1 ∧ law19_CuckooDoes_L7 (law19_CuckooDoes_J6 (law19_CuckooDoes_L8 x2 x3 x4 u52.1 x5_0 xs3055) x2 x3 u52.1 x3054.2 v3035 x5_0) x3054.1 x3054.2 v3039 v3040 v3041 y.2.1  = some r) (fun y => y.2.1.length) (0, ([x4, u3074] : List Int), G3031) ⟨(HpLe.refl _), B3033, rfl, r3075⟩ ⟨rfl, rfl, rfl, rfl, rfl, rfl, rfl, rfl, rfl, rfl, rfl, rfl, rfl, trivial⟩ rfl rfl rfl (fun y hI hb4446 => ?_)
                  obtain ⟨i4438, w4439, G4441⟩ := y
                  obtain ⟨e4442, B4443, g4440, r4445⟩ := hI
                  try dsimp only at e4442 B4443 g4440 r4445
                  refine Cov.prune [(91, .int .i64 (i4438 : Int)), (77, _), (2, _), (3, _), (4, _), (11, _), (13, _), (15, _), (75, _), (76, _), (17, _), (89, _), (90, _)] ⟨rfl, rfl, rfl, rfl, rfl, rfl, rfl, rfl, rfl, rfl, rfl, rfl, rfl, trivial⟩ ?_
                  refine Cov.same (bl' := [_, _, _, _, _]) (sl' := [_, _]) (Fs' := G4441 :: Fs) rfl rfl rfl ?_
                  cases w4439 with
                  | nil =>
                    rw [law19_CuckooDoes_L7] at r4445; try dsimp only at r4445
                    refine Cov.seq ?_
                    refine Cov.region rfl ?_
                    refine Cov.q .ro (.lss rfl rfl) rfl ?_
                    refine Cov.region_end ?_
                    refine Cov.seq ?_
                    refine Cov.cond_dec rfl (fun c => absurd c (drop_nil g4440)) (fun _ => ?_)
                    refine Cov.exit rfl ?_
                    refine Cov.prune _ ?_ (Cov.same rfl rfl rfl (hb4360 (G4441, x3054.1, v3039, v3040, v3041) ⟨e4442, B4443, r4445⟩))
                    exact ⟨rfl, rfl, rfl, rfl, rfl, rfl, rfl, rfl, rfl, rfl, trivial⟩
                  | cons x4466 xs4467 =>
                    have r4465 : law19_CuckooDoes_B7 (law19_CuckooDoes_J6 (law19_CuckooDoes_L8 x2 x3 x4 u52.1 x5_0 xs3055) x2 x3 u52.1 x3054.2 v3035 x5_0) x3054.1 x3054.2 v3039 v3040 v3041 (law19_CuckooDoes_L7 (law19_CuckooDoes_J6 (law19_CuckooDoes_L8 x2 x3 x4 u52.1 x5_0 xs3055) x2 x3 u52.1 x3054.2 v3035 x5_0) x3054.1 x3054.2 v3039 v3040 v3041 xs4467) x4466  = some r := r4445; clear r4445; unfold law19_CuckooDoes_B7 at r4465; try dsimp only at r4465
                    refine Cov.seq ?_
                    refine Cov.region rfl ?_
                    refine Cov.q .ro (.lss rfl rfl) rfl ?_
                    refine Cov.region_end ?_
                    refine Cov.seq ?_
                    refine Cov.cond_dec rfl (fun _ => ?_) (fun c => absurd (drop_lt g4440) c)
                    refine Cov.skip ?_
                    refine Cov.seq ?_
                    refine Cov.block ?_
                    refine Cov.seq ?_
                    refine Cov.region rfl ?_
                    obtain ⟨c4468, p4469, h4470⟩ := OL.get (OL.mono e4442 o3079) (drop_idx g4440)
                    obtain rfl := h4470
                    refine Cov.q .ro (.idxO 0 rfl rfl rfl (drop_idx g4440) sl22 ty3.sz) rfl ?_
                    refine Cov.q .ro (.loadO 0 0 rfl (drop_idx g4440) p4469 rfl (.inl ⟨rfl, rfl⟩) ty3 rfl) rfl ?_
                    refine Cov.q .ro (.assign rfl) rfl ?_
                    refine Cov.region_end ?_
                    refine Cov.seq ?_
                    refine Cov.region rfl ?_
                    refine Cov.q .ro (.load_own_a 0 [_, _] rfl rfl ty25 rfl) rfl ?_
                    refine Cov.q .ro (.move rfl) rfl ?_
                    obtain ⟨u4471, hu4471, r4472⟩ := bind_some r4465; clear r4465
                    refine Cov.callS (b1 := []) (b2 := [_, _, _, _, _]) (s1 := []) [_, _] [] .ro rfl rfl Try.call21 rfl rfl (cuckoo_Homes_c (G := G4441) List.mem_cons_self (SlR.mono e4442 s3061) hu4471) rfl (fun v4474 bo so h4473 => ?_)
                    obtain ⟨a4476, k4477, cs4478, rfl, rfl, rfl, o4479⟩ := h4473
                    refine Cov.same (bl' := [_, _, _, _, _]) (sl' := [_, _, _]) rfl rfl rfl ?_
                    refine Cov.q .ro (.move rfl) rfl ?_
                    refine Cov.q .ro (.extract rfl rfl) rfl ?_
                    refine Cov.q .ro (.extract rfl rfl) rfl ?_
                    refine Cov.q .ro (.assign rfl) rfl ?_
                    refine Cov.q .ro (.assign rfl) rfl ?_
                    refine Cov.region_end ?_
                    refine Cov.seq ?_
                    refine Cov.region rfl ?_
                    refine Cov.q .ro (.load_own_a 0 [_, _] rfl rfl ty25 rfl) rfl ?_
                    refine Cov.q .ro (.move rfl) rfl ?_
                    obtain ⟨u4480, hu4480, r4481⟩ := bind_some r4472; clear r4472
                    refine Cov.callS (b1 := []) (b2 := [_, _, _, _, _]) (s1 := []) [_, _] [] .ro rfl rfl Try.call24 rfl rfl (ref19_Homes_c (G := G4441) List.mem_cons_self (SlR.mono e4442 s3061) hu4480) rfl (fun v4483 bo so h4482 => ?_)
                    obtain ⟨a4485, k4486, cs4487, rfl, rfl, rfl, o4488⟩ := h4482
                    refine Cov.same (bl' := [_, _, _, _, _]) (sl' := [_, _, _, _]) rfl rfl rfl ?_
                    refine Cov.q .ro (.move rfl) rfl ?_
                    refine Cov.q .ro (.extract rfl rfl) rfl ?_
                    refine Cov.q .ro (.extract rfl rfl) rfl ?_
                    refine Cov.q .ro (.assign rfl) rfl ?_
                    refine Cov.q .ro (.assign rfl) rfl ?_
                    refine Cov.region_end ?_
                    refine Cov.prune [(91, _), (77, _), (2, _), (3, _), (4, _), (11, _), (13, _), (15, _), (75, _), (76, _), (17, _), (89, _), (90, _), (20, _), (21, _), (22, _), (23, _)] ⟨rfl, rfl, rfl, rfl, rfl, rfl, rfl, rfl, rfl, rfl, rfl, rfl, rfl, rfl, rfl, rfl, rfl, trivial⟩ ?_
                    refine Cov.seq ?_
                    refine Cov.region rfl ?_
                    refine Cov.q .ro (.move rfl) rfl ?_
                    refine Cov.q .ro (.move rfl) rfl ?_
                    refine Cov.q .ro (.neq rfl rfl) rfl ?_
                    refine Cov.q .ro (.move rfl) rfl ?_
                    refine Cov.freezeR 0 rfl rfl o4488 [_, _, _] rfl B4443 (fun G4503 e4504 B4505 s4506 => ?_)
                    refine Cov.freezeR 0 rfl rfl (OL.mono e4504 o4479) [_, _] rfl B4505 (fun G4508 e4509 B4510 s4511 => ?_)
                    obtain ⟨u4519, h4520, r4521⟩ := bind_some r4481; clear r4481
                    refine Cov.cutR 5 (β := Unit) (fun y => [(115, .bool u4519)]) [(91, _), (77, _), (2, _), (3, _), (4, _), (11, _), (13, _), (15, _), (75, _), (76, _), (17, _), (89, _), (90, _)] (fun y => G4508 :: Fs) (fun y => []) [_, _, _, _, _] (fun y => []) [_, _] (fun y => True) ⟨rfl, rfl, rfl, rfl, rfl, rfl, rfl, rfl, rfl, rfl, rfl, rfl, rfl, trivial⟩ [0, 1, 2, 3, 4] rfl [0, 1] rfl ?_ ?_
                    · rintro _ _
                      refine Cov.prune [(115, .bool u4519), (91, _), (77, _), (2, _), (3, _), (4, _), (11, _), (13, _), (15, _), (75, _), (76, _), (17, _), (89, _), (90, _)] ⟨rfl, rfl, rfl, rfl, rfl, rfl, rfl, rfl, rfl, rfl, rfl, rfl, rfl, rfl, trivial⟩ ?_
                      refine Cov.same (bl' := [_, _, _, _, _]) (sl' := [_, _]) (Fs' := G4508 :: Fs) rfl rfl rfl ?_
                      refine Cov.region_end ?_
                      refine Cov.cond rfl (fun c4524 => ?_) (fun c4524 => ?_)
                      · have r4525 := ifT r4521 c4524; clear r4521
                        refine Cov.seq ?_
                        refine Cov.region rfl ?_
                        refine Cov.q .ro (.assign rfl) rfl ?_
                        refine Cov.region_end ?_
                        refine Cov.prune [(12, _)] ⟨rfl, trivial⟩ ?_
                        cases r4525
                        refine Cov.drop 5 0 [] _ rfl rfl ?_
                        refine Cov.drop 0 2 _ [] rfl rfl ?_
                        refine Cov.retS (c := ⟨7, none⟩) (.inr ⟨_, rfl⟩) [.tmp 12] [_] rfl Try.func7 Try.results7 ⟨RV.tmp rfl, trivial⟩ (fun _ h => List.mem_cons_of_mem _ h) ⟨rfl, rfl, rfl⟩
                      · have r4526 := ifBF r4521 c4524; clear r4521
                        refine Cov.skip ?_
                        refine Cov.inBlock ?_
                        refine Cov.region rfl ?_
                        refine Cov.q .ro (.addw rfl rfl) rfl ?_
                        refine Cov.q .ro (.move rfl) rfl ?_
                        refine Cov.region_end ?_
                        refine Cov.prune _ ?_ (Cov.same rfl rfl rfl (hb4446 ((i4438 + 1), xs4467, G4508) ⟨(HpLe.trans (HpLe.trans e4442 e4504) e4509), B4510, (drop_succ g4440), r4526⟩ (Nat.lt_succ_self _)))
                        exact ⟨(congrArg (fun z => some (Value.int .i64 z)) (idx_wrap (OL.len' o3079) g4440)), rfl, rfl, rfl, rfl, rfl, rfl, rfl, rfl, rfl, rfl, rfl, rfl, trivial⟩
                    · intro hb4518
                      refine Cov.split 110 rfl (fun c4517 => ?_) (fun c4517 => ?_)
                      · have r4527 := ifT h4520 c4517
                        refine Cov.g_off rfl rfl rfl ?_
                        refine Cov.g_off rfl rfl rfl ?_
                        refine Cov.g_off rfl rfl rfl ?_
                        refine Cov.g_off rfl rfl rfl ?_
                        refine Cov.q .ro (.pick_t rfl rfl) rfl ?_
                        refine Cov.prune _ ?_ (Cov.same rfl rfl rfl (hb4518 () trivial))
                        exact ⟨sval r4527, rfl, rfl, rfl, rfl, rfl, rfl, rfl, rfl, rfl, rfl, rfl, rfl, rfl, trivial⟩
                      · have r4528 := ifF h4520 c4517
                        refine Cov.g_on rfl ?_
                        refine Cov.q .ro (.move rfl) rfl ?_
                        refine Cov.g_on rfl ?_
                        refine Cov.q .ro (.move rfl) rfl ?_
                        refine Cov.g_on rfl ?_
                        obtain ⟨u4529, hu4529, r4530⟩ := bind_some r4528; clear r4528
                        refine Cov.callS (b1 := []) (b2 := [_, _, _, _, _]) (s1 := []) [_, _] [] .ro rfl rfl Try.call25 rfl rfl (ref04_Same_c (G := G4508) List.mem_cons_self s4511 (SlR.mono e4509 s4506) hu4529) rfl (fun v4532 bo so h4531 => ?_)
                        obtain ⟨rfl, rfl, rfl⟩ := h4531
                        refine Cov.same (bl' := [_, _, _, _, _]) (sl' := [_, _]) rfl rfl rfl ?_
                        refine Cov.g_on rfl ?_
                        refine Cov.q .ro (.not rfl) rfl ?_
                        refine Cov.q .ro (.pick_f rfl rfl) rfl ?_
                        refine Cov.prune _ ?_ (Cov.same rfl rfl rfl (hb4518 () trivial))
                        exact ⟨sval r4530, rfl, rfl, rfl, rfl, rfl, rfl, rfl, rfl, rfl, rfl, rfl, rfl, rfl, trivial⟩
        · intro hb23
          refine Cov.split 59 rfl (fun c22 => ?_) (fun c22 => ?_)
          · refine Cov.g_off rfl rfl rfl ?_
            refine Cov.g_off rfl rfl rfl ?_
            refine Cov.g_off rfl rfl rfl ?_
            refine Cov.g_off rfl rfl rfl ?_
            refine Cov.q .ro (.pick_t rfl rfl) rfl ?_
            refine Cov.prune _ ?_ (Cov.same rfl rfl rfl (hb23 () trivial))
            exact ⟨dor_t c22, rfl, rfl, rfl, rfl, rfl, rfl, trivial⟩
          · refine Cov.g_on rfl ?_
            refine Cov.q .ro (.fieldAddr 0 rfl fl43_0 ty22.sz rfl) rfl ?_
            refine Cov.g_on rfl ?_
            refine Cov.q .ro (.load_own 0 rfl rfl ty22 rfl) rfl ?_
            refine Cov.g_on rfl ?_
            refine Cov.q .ro (.len_sl rfl rfl sl22) rfl ?_
            refine Cov.g_on rfl ?_
            refine Cov.q .ro (.gtr rfl rfl) rfl ?_
            refine Cov.q .ro (.pick_f rfl rfl) rfl ?_
            refine Cov.prune _ ?_ (Cov.same rfl rfl rfl (hb23 () trivial))
            exact ⟨dor_f c22, rfl, rfl, rfl, rfl, rfl, rfl, trivial⟩
      · intro hb19
        refine Cov.split 54 rfl (fun c18 => ?_) (fun c18 => ?_)
        · refine Cov.g_off rfl rfl rfl ?_
          refine Cov.g_off rfl rfl rfl ?_
          refine Cov.g_off rfl rfl rfl ?_
          refine Cov.q .ro (.pick_t rfl rfl) rfl ?_
          refine Cov.prune _ ?_ (Cov.same rfl rfl rfl (hb19 () trivial))
          exact ⟨dor_t c18, rfl, rfl, rfl, rfl, rfl, rfl, trivial⟩
        · refine Cov.g_on rfl ?_
          refine Cov.q .ro (.move rfl) rfl ?_
          refine Cov.g_on rfl ?_
          refine Cov.q .ro (.len_sl rfl rfl sl22) rfl ?_
          refine Cov.g_on rfl ?_
          refine Cov.q .ro (.gtr rfl rfl) rfl ?_
          refine Cov.q .ro (.pick_f rfl rfl) rfl ?_
          refine Cov.prune _ ?_ (Cov.same rfl rfl rfl (hb19 () trivial))
          exact ⟨dor_f c18, rfl, rfl, rfl, rfl, rfl, rfl, trivial⟩
    · intro hb15
      refine Cov.split_b 48 rfl (fun c14 => ?_) (fun c14 => ?_)
      · refine Cov.g_off rfl rfl rfl ?_
        refine Cov.g_off rfl rfl rfl ?_
        refine Cov.g_off rfl rfl rfl ?_
        refine Cov.g_off rfl rfl rfl ?_
        refine Cov.q .ro (.pick_t rfl rfl) rfl ?_
        refine Cov.prune _ ?_ (Cov.same rfl rfl rfl (hb15 () trivial))
        exact ⟨dor_t c14, rfl, rfl, rfl, rfl, rfl, rfl, trivial⟩
      · refine Cov.g_on rfl ?_
        refine Cov.q .ro (.fieldAddr 1 rfl fl25_1 ty23.sz rfl) rfl ?_
        refine Cov.g_on rfl ?_
        refine Cov.q .ro (.load_own 1 rfl rfl ty23 rfl) rfl ?_
        refine Cov.g_on rfl ?_
        refine Cov.q .ro (.len_sl rfl rfl sl23) rfl ?_
        refine Cov.g_on rfl ?_
        refine Cov.q .ro (.gtr rfl rfl) rfl ?_
        refine Cov.q .ro (.pick_f rfl rfl) rfl ?_
        refine Cov.prune _ ?_ (Cov.same rfl rfl rfl (hb15 () trivial))
        exact ⟨dor_f (bne_of c14), rfl, rfl, rfl, rfl, rfl, rfl, trivial⟩

end Go.Proofs.Ytbhmhindommaeaa
