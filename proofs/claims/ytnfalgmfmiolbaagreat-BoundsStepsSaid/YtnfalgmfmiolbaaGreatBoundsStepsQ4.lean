/- What the proof needs, gathered by wip/gen/shake.py. -/
import Derived.Calls
import Derived.Deep.Quiet
import Derived.Below
import Derived.Laws.AppendOwn
import Derived.WalkKit
import Derived.Laws.OwnMore
import Derived.Deep.Slices
import Derived.ChangeOld
import Derived.ArgAppend
import Derived.RangeFuncIn
import Derived.RangeFuncRecord
import Derived.RangeFuncLeaves
import Derived.Laws.MakeOwn
import Derived.IntWalk
import Derived.Laws.IdiomStrings
import Derived.Laws.Cover3
import Derived.Laws.CopyOwn
import Derived.MapKept
import Derived.RangeFuncNested
import Derived.Test.YtnfalgmfmiolbaaGreatRows
import Derived.ProofKit
import Derived.OpenShut
import Derived.ShutString
import Derived.Test.YtnfalgmfmiolbaaGreatBoundsStepsQ3

section
namespace Go.Proofs.YtnfalgmfmiolbaaGreat
open Go.RowKit
set_option linter.unusedSimpArgs false
set_option linter.unusedVariables false
set_option synthInstance.maxSize 2000
set_option synthInstance.maxHeartbeats 400000
set_option maxHeartbeats 4000000 in
set_option maxRecDepth 100000 in
theorem play_Dice_Odd_c {Fs : List Hp} {G : Hp} {p0 : Nat} {a0_0 : Option Addr} {k0_0 : Nat} {x0_0 : List Int} {x0_1 : Int} {r : ((Int × Int × Int × Int) × ((List Int) × Int))} (hG : G ∈ Fs) (s0_0 : SlR (Rep.int .u8) G a0_0 k0_0 x0_0) (h : play_Dice_Odd (x0_0, x0_1) = some r) : RetS Tryz.prog 21 #[.pointer (some ⟨p0, 0, none⟩)] Fs [(p0, .cells #[.slice a0_0 x0_0.length k0_0, .int .i64 x0_1] 97 (0, 0))] [] (fun v bo so => ∃ a0 : Option Addr, ∃ k0 : Nat, v = .agg #[.int .i64 r.1.1, .int .i64 r.1.2.1, .int .i64 r.1.2.2.1, .int .i64 r.1.2.2.2] ∧ bo = [(p0, .cells #[.slice a0 r.2.1.length k0, .int .i64 r.2.2] 97 (0, 0))] ∧ so = [] ∧ SlR (Rep.int .u8) G a0 k0 r.2.1) := by
 unfold play_Dice_Odd at h
 try dsimp only at h
 refine RetS.of (vs := [_]) Tryz.func21 rfl Tryz.ntmps21 [(0, _)] ⟨rfl, trivial⟩ rfl hG fun w0 S0 hS0 B0 => ?_
 refine Cov.seq ?_;refine Cov.region rfl ?_
 refine Cov.alloc .ro ty27 rfl (fun b1 hb1 => ?_)
 refine Cov.region_end ?_;refine Cov.seq ?_;refine Cov.region rfl ?_;refine Cov.q .ro (.move rfl) rfl ?_
 obtain ⟨u2, hu2, r3⟩ := bind_some h; clear h
 refine Cov.pull 1 rfl [_, _] rfl ?_
 refine Cov.callS (b1 := [_]) (b2 := [_]) (s1 := []) [_] [] .ro rfl rfl Tryz.call16 rfl rfl (play_Dice_Scheme_c (G := G) List.mem_cons_self s0_0 hu2) rfl (fun v5 bo so h4 => ?_)
 obtain ⟨a6, k7, rfl, rfl, rfl, s8⟩ := h4
 refine Cov.same (bl' := [_, _]) (sl' := []) rfl rfl rfl ?_
 refine Cov.alloc .ro ty27 rfl (fun b9 hb9 => ?_)
 refine Cov.store 0 [_, _, _, _] [_, _, _] .ro rfl rfl rfl ty27 rfl rfl rfl rfl ?_;refine Cov.region_end ?_;refine Cov.seq ?_;refine Cov.seq ?_;refine Cov.region rfl ?_;refine Cov.q .ro (.move rfl) rfl ?_
 obtain ⟨u10, hu10, r11⟩ := bind_some r3; clear r3
 refine Cov.pull 1 rfl [_, _, _] rfl ?_
 refine Cov.callS (b1 := [_]) (b2 := [_, _]) (s1 := []) [_, _] [] .ro rfl rfl Tryz.call25 rfl rfl (play_Dice_Pick_c (G := G) List.mem_cons_self s8 hu10) rfl (fun v13 bo so h12 => ?_)
 obtain ⟨a14, k15, rfl, rfl, rfl, s16⟩ := h12
 refine Cov.same (bl' := [_, _, _]) (sl' := []) rfl rfl rfl ?_;refine Cov.region_end ?_;refine Cov.block ?_;refine Cov.seq ?_;refine Cov.region rfl ?_;refine Cov.q .ro (.eql rfl rfl) rfl ?_;refine Cov.q .ro (.assign rfl) rfl ?_;refine Cov.region_end ?_;refine Cov.cutI (β := List Int × Option Addr × Nat × Int × Int × Int × Int × Int) (fun y => []) [(2, _), (3, _)] (fun y => G :: Fs) (fun y => [(p0, .cells #[.slice y.2.1 y.1.length y.2.2.1, .int .i64 y.2.2.2.1] 97 (0, 0)), (b9, .cells #[.int .i64 y.2.2.2.2.1, .int .i64 y.2.2.2.2.2.1, .int .i64 y.2.2.2.2.2.2.1, .int .i64 y.2.2.2.2.2.2.2] 27 (0, 0))]) [_] (fun y => []) [] (fun y => SlR (Rep.int .u8) G y.2.1 y.2.2.1 y.1 ∧ play_Dice_Odd_J1 y.1 y.2.2.2.1 y.2.2.2.2.1 y.2.2.2.2.2.1 y.2.2.2.2.2.2.1 y.2.2.2.2.2.2.2 = some r) ⟨rfl, rfl, trivial⟩ [2] rfl [] rfl ?_ ?_
 ·intro y hI
  obtain ⟨v4092, a4093, k4094, v4096, v4097, v4098, v4099, v4100⟩ := y
  obtain ⟨s4095, r4102⟩ := hI
  try dsimp only at s4095 r4102
  refine Cov.prune [(2, _), (3, _)] ⟨rfl, rfl, trivial⟩ ?_;refine Cov.same (bl' := [(p0, .cells #[.slice a4093 v4092.length k4094, .int .i64 v4096] 97 (0, 0)), (b9, .cells #[.int .i64 v4097, .int .i64 v4098, .int .i64 v4099, .int .i64 v4100] 27 (0, 0)), _]) (sl' := []) (Fs' := G :: Fs) rfl rfl rfl ?_
  unfold play_Dice_Odd_J1 at r4102
  try dsimp only at r4102
  refine Cov.inBlock ?_;refine Cov.seq ?_;refine Cov.region rfl ?_;refine Cov.q .ro (.load_own_a 1 [_, _, _, _] rfl rfl ty27 rfl) rfl ?_;refine Cov.store 2 [_, _, _, _] [_, _, _] .ro rfl rfl rfl ty27 rfl rfl rfl rfl ?_;refine Cov.region_end ?_
  cases r4102
  refine Cov.pull 2 rfl [_, _, _] rfl ?_;refine Cov.pull 2 rfl [_, _, _] rfl ?_
  refine Cov.retSD 2 (c := ⟨21, none⟩) (.inr ⟨_, rfl⟩) [.cell 2 27] [_] rfl Tryz.func21 Tryz.results21 ⟨RV.cell_a 1 [_, _, _, _] rfl rfl ty27 rfl, trivial⟩ (fun _ h => List.mem_cons_of_mem _ h) ⟨a4093, k4094, rfl, rfl, rfl, s4095⟩
 ·intro hb4103
  refine Cov.cond_dec rfl (fun c4104 => ?_) (fun c4104 => ?_)
  ·have r4105 := ifT r11 c4104; clear r11
   refine Cov.region rfl ?_;refine Cov.q .ro (.move rfl) rfl ?_
   obtain ⟨u4106, hu4106, r4107⟩ := bind_some r4105; clear r4105
   refine Cov.callS (b1 := [_]) (b2 := [_, _]) (s1 := []) [_, _] [] .ro rfl rfl Tryz.call25 rfl rfl (play_Dice_Pick_c (G := G) List.mem_cons_self s16 hu4106) rfl (fun v4109 bo so h4108 => ?_)
   obtain ⟨a4110, k4111, rfl, rfl, rfl, s4112⟩ := h4108
   refine Cov.same (bl' := [_, _, _]) (sl' := []) rfl rfl rfl ?_;refine Cov.q .ro (.fieldAddr 0 rfl fl27_0 ty3.sz rfl) rfl ?_;refine Cov.store 1 [_, _, _, _] [_, _, _] .ro rfl rfl rfl ty3 rfl rfl rfl rfl ?_;refine Cov.region_end ?_
   refine Cov.prune _ ?_ (Cov.same rfl rfl rfl (hb4103 (u4106.2.1, a4110, k4111, u4106.2.2, u4106.1, u2.1.2.1, u2.1.2.2.1, u2.1.2.2.2) ⟨s4112, r4107⟩))
   exact ⟨rfl, rfl, trivial⟩
  ·have r4113 := ifF r11 c4104; clear r11
   refine Cov.seq ?_;refine Cov.region rfl ?_;refine Cov.q .ro (.eql rfl rfl) rfl ?_;refine Cov.q .ro (.assign rfl) rfl ?_;refine Cov.region_end ?_
   refine Cov.cond_dec rfl (fun c4114 => ?_) (fun c4114 => ?_)
   ·have r4115 := ifT r4113 c4114; clear r4113
    refine Cov.region rfl ?_
    refine Cov.lit [_, _, _, _, _, _] [(0, _), (1, _), (2, _), (3, _), (4, _), (5, _)] .ro sl41 ty3 rfl rfl rfl rfl rfl rfl (fun b4116 hb4116 => ?_)
    have o4117 : OL (Rep.int .i64) G [.int .i64 0, .int .i64 1, .int .i64 2, .int .i64 10, .int .i64 11, .int .i64 (-1)] ([0, 1, 2, 10, 11, (-1)] : List Int) := ((OL.cons rfl (Rep.intI .i64 0) (OL.cons rfl (Rep.intI .i64 1) (OL.cons rfl (Rep.intI .i64 2) (OL.cons rfl (Rep.intI .i64 10) (OL.cons rfl (Rep.intI .i64 11) (OL.cons rfl (Rep.intI .i64 (-1)) (OL.nil (Rp' := (Rep.int .i64))))))))) :)
    refine Cov.reval 15 (n' := ([0, 1, 2, 10, 11, (-1)] : List Int).length) rfl rfl ?_;refine Cov.q .ro (.move rfl) rfl ?_
    obtain ⟨u4119, hu4119, r4120⟩ := bind_some r4115; clear r4115
    refine Cov.callS (b1 := [_]) (b2 := [_, _]) (s1 := []) [_, _] [] .ro rfl rfl Tryz.call25 rfl rfl (play_Dice_Pick_c (G := G) List.mem_cons_self s16 hu4119) rfl (fun v4122 bo so h4121 => ?_)
    obtain ⟨a4123, k4124, rfl, rfl, rfl, s4125⟩ := h4121
    refine Cov.same (bl' := [_, _, _]) (sl' := [_]) rfl rfl rfl ?_
    obtain ⟨u4126, hu4126, r4127⟩ := bind_some r4120; clear r4120
    obtain ⟨c4128, p4129, h4130⟩ := OL.get o4117 hu4126
    obtain rfl := h4130
    refine Cov.q .ro (.idxO 0 rfl rfl rfl hu4126 sl41 ty3.sz) rfl ?_;refine Cov.q .ro (.loadO 0 0 rfl hu4126 p4129 rfl (.inl ⟨rfl, rfl⟩) ty3 rfl) rfl ?_;refine Cov.q .ro (.fieldAddr 1 rfl fl27_1 ty3.sz rfl) rfl ?_;refine Cov.store 1 [_, _, _, _] [_, _, _] .ro rfl rfl rfl ty3 rfl rfl rfl rfl ?_;refine Cov.region_end ?_;refine Cov.prune [(2, _), (3, _)] ⟨rfl, rfl, trivial⟩ ?_;refine Cov.drop 0 1 _ [] rfl rfl ?_
    refine Cov.prune _ ?_ (Cov.same rfl rfl rfl (hb4103 (u4119.2.1, a4123, k4124, u4119.2.2, u2.1.1, u4126, u2.1.2.2.1, u2.1.2.2.2) ⟨s4125, r4127⟩))
    exact ⟨rfl, rfl, trivial⟩
   ·have r4131 := ifF r4113 c4114; clear r4113
    refine Cov.seq ?_;refine Cov.region rfl ?_;refine Cov.q .ro (.eql rfl rfl) rfl ?_;refine Cov.q .ro (.assign rfl) rfl ?_;refine Cov.region_end ?_
    refine Cov.cond_dec rfl (fun c4132 => ?_) (fun c4132 => ?_)
    ·have r4133 := ifT r4131 c4132; clear r4131
     refine Cov.drawL (.q 0 (.q 1 (.q 2 (.q 3 (.q 4 (.q 6 (.alt (.e 5 1 (.e 7 1 (.e 8 1 (.e 9 1 (.q 10 (.e 11 2 .nil)))))) (.e 7 1 (.e 5 1 (.e 8 1 (.e 9 1 (.q 10 (.e 11 2 .nil))))))))))))) [_, _] (by kernel_rfl) (by kernel_rfl) (pick_mem [1, 2] rfl) ?_
     obtain ⟨u4137, hu4137, r4147⟩ := bind_some r4133; clear r4133
     obtain ⟨u4143, hu4143, r4148⟩ := bind_some r4147; clear r4147
     refine Cov.dq (.fieldAddr 1 rfl fl27_1 ty3.sz rfl) rfl ?_;refine Cov.dq (.load_own 0 rfl rfl ty3 rfl) rfl ?_;refine Cov.dq (.subw rfl rfl) rfl ?_;refine Cov.dq (.fieldAddr 1 rfl fl27_1 ty3.sz rfl) rfl ?_;refine Cov.dq (.load_own 0 rfl rfl ty3 rfl) rfl ?_;refine Cov.dq (.move rfl) rfl ?_;refine Cov.alt ?_ ?_
     ·refine Cov.lit [_, _, _, _] [(0, _), (1, _), (2, _), (3, _)] .d1 sl41 ty3 rfl rfl rfl rfl rfl rfl (fun b4149 hb4149 => ?_)
      have o4150 : OL (Rep.int .i64) G [.int .i64 0, .int .i64 (-1), .int .i64 (w64 (u2.1.2.1 - 1)), .int .i64 u2.1.2.1] ([0, (-1), (w64 (u2.1.2.1 - 1)), u2.1.2.1] : List Int) := ((OL.cons rfl (Rep.intI .i64 0) (OL.cons rfl (Rep.intI .i64 (-1)) (OL.cons rfl (Rep.intI .i64 (w64 (u2.1.2.1 - 1))) (OL.cons rfl (Rep.intI .i64 u2.1.2.1) (OL.nil (Rp' := (Rep.int .i64))))))) :)
      refine Cov.reval 28 (n' := ([0, (-1), (w64 (u2.1.2.1 - 1)), u2.1.2.1] : List Int).length) rfl rfl ?_;refine Cov.clsL (HpLe.refl _) (pick_mem [1, 2] rfl) ?_
      refine Cov.callS (b1 := [_]) (b2 := [_, _]) (s1 := []) [_, _] [] .d1 rfl rfl Tryz.call25 rfl rfl (play_Dice_Pick_c (G := G) List.mem_cons_self s16 hu4137) rfl (fun v4153 bo so h4152 => ?_)
      obtain ⟨a4154, k4155, rfl, rfl, rfl, s4156⟩ := h4152
      refine Cov.same (bl' := [_, _, _]) (sl' := [_]) rfl rfl rfl ?_;refine Cov.clsL (HpLe.refl _) (pick_mem [1, 2] rfl) ?_
      obtain ⟨c4157, p4158, h4159⟩ := OL.get o4150 hu4143
      obtain rfl := h4159
      refine Cov.q .d1 (.idxO 0 rfl rfl rfl hu4143 sl41 ty3.sz) rfl ?_;refine Cov.clsL (HpLe.refl _) (pick_mem [1, 2] rfl) ?_;refine Cov.q .d1 (.loadO 0 0 rfl hu4143 p4158 rfl (.inl ⟨rfl, rfl⟩) ty3 rfl) rfl ?_;refine Cov.clsL (HpLe.refl _) (pick_mem [1, 2] rfl) ?_;refine Cov.dq (.fieldAddr 2 rfl fl27_2 ty3.sz rfl) rfl ?_;refine Cov.store 1 [_, _, _, _] [_, _, _] .d2 rfl rfl rfl ty3 rfl rfl rfl rfl ?_;refine Cov.draw_end ?_;refine Cov.prune [(2, _), (3, _)] ⟨rfl, rfl, trivial⟩ ?_;refine Cov.drop 0 1 _ [] rfl rfl ?_
      refine Cov.prune _ ?_ (Cov.same rfl rfl rfl (hb4103 (u4137.2.1, a4154, k4155, u4137.2.2, u2.1.1, u2.1.2.1, u4143, u2.1.2.2.2) ⟨s4156, r4148⟩))
      exact ⟨rfl, rfl, trivial⟩
     ·refine Cov.callS (b1 := [_]) (b2 := [_, _]) (s1 := []) [_, _] [] .d1 rfl rfl Tryz.call25 rfl rfl (play_Dice_Pick_c (G := G) List.mem_cons_self s16 hu4137) rfl (fun v4161 bo so h4160 => ?_)
      obtain ⟨a4162, k4163, rfl, rfl, rfl, s4164⟩ := h4160
      refine Cov.same (bl' := [_, _, _]) (sl' := []) rfl rfl rfl ?_;refine Cov.clsL (HpLe.refl _) (pick_mem [1, 2] rfl) ?_
      refine Cov.lit [_, _, _, _] [(0, _), (1, _), (2, _), (3, _)] .d1 sl41 ty3 rfl rfl rfl rfl rfl rfl (fun b4165 hb4165 => ?_)
      have o4166 : OL (Rep.int .i64) G [.int .i64 0, .int .i64 (-1), .int .i64 (w64 (u2.1.2.1 - 1)), .int .i64 u2.1.2.1] ([0, (-1), (w64 (u2.1.2.1 - 1)), u2.1.2.1] : List Int) := ((OL.cons rfl (Rep.intI .i64 0) (OL.cons rfl (Rep.intI .i64 (-1)) (OL.cons rfl (Rep.intI .i64 (w64 (u2.1.2.1 - 1))) (OL.cons rfl (Rep.intI .i64 u2.1.2.1) (OL.nil (Rp' := (Rep.int .i64))))))) :)
      refine Cov.reval 28 (n' := ([0, (-1), (w64 (u2.1.2.1 - 1)), u2.1.2.1] : List Int).length) rfl rfl ?_;refine Cov.clsL (HpLe.refl _) (pick_mem [1, 2] rfl) ?_
      obtain ⟨c4168, p4169, h4170⟩ := OL.get o4166 hu4143
      obtain rfl := h4170
      refine Cov.q .d1 (.idxO 0 rfl rfl rfl hu4143 sl41 ty3.sz) rfl ?_;refine Cov.clsL (HpLe.refl _) (pick_mem [1, 2] rfl) ?_;refine Cov.q .d1 (.loadO 0 0 rfl hu4143 p4169 rfl (.inl ⟨rfl, rfl⟩) ty3 rfl) rfl ?_;refine Cov.clsL (HpLe.refl _) (pick_mem [1, 2] rfl) ?_;refine Cov.dq (.fieldAddr 2 rfl fl27_2 ty3.sz rfl) rfl ?_;refine Cov.store 1 [_, _, _, _] [_, _, _] .d2 rfl rfl rfl ty3 rfl rfl rfl rfl ?_;refine Cov.draw_end ?_;refine Cov.prune [(2, _), (3, _)] ⟨rfl, rfl, trivial⟩ ?_;refine Cov.drop 0 1 _ [] rfl rfl ?_
      refine Cov.prune _ ?_ (Cov.same rfl rfl rfl (hb4103 (u4137.2.1, a4162, k4163, u4137.2.2, u2.1.1, u2.1.2.1, u4143, u2.1.2.2.2) ⟨s4164, r4148⟩))
      exact ⟨rfl, rfl, trivial⟩
    ·have r8159 := ifF r4131 c4132; clear r4131
     refine Cov.seq ?_;refine Cov.region rfl ?_;refine Cov.q .ro (.eql rfl rfl) rfl ?_;refine Cov.q .ro (.assign rfl) rfl ?_;refine Cov.region_end ?_
     refine Cov.cond_dec rfl (fun c8160 => ?_) (fun c8160 => ?_)
     ·have r8161 := ifT r8159 c8160; clear r8159
      refine Cov.region rfl ?_
      refine Cov.lit [_, _, _, _] [(0, _), (1, _), (2, _), (3, _)] .ro sl41 ty3 rfl rfl rfl rfl rfl rfl (fun b8162 hb8162 => ?_)
      have o8163 : OL (Rep.int .i64) G [.int .i64 0, .int .i64 1, .int .i64 3, .int .i64 (-1)] ([0, 1, 3, (-1)] : List Int) := ((OL.cons rfl (Rep.intI .i64 0) (OL.cons rfl (Rep.intI .i64 1) (OL.cons rfl (Rep.intI .i64 3) (OL.cons rfl (Rep.intI .i64 (-1)) (OL.nil (Rp' := (Rep.int .i64))))))) :)
      refine Cov.reval 36 (n' := ([0, 1, 3, (-1)] : List Int).length) rfl rfl ?_;refine Cov.q .ro (.move rfl) rfl ?_
      obtain ⟨u8165, hu8165, r8166⟩ := bind_some r8161; clear r8161
      refine Cov.callS (b1 := [_]) (b2 := [_, _]) (s1 := []) [_, _] [] .ro rfl rfl Tryz.call25 rfl rfl (play_Dice_Pick_c (G := G) List.mem_cons_self s16 hu8165) rfl (fun v8168 bo so h8167 => ?_)
      obtain ⟨a8169, k8170, rfl, rfl, rfl, s8171⟩ := h8167
      refine Cov.same (bl' := [_, _, _]) (sl' := [_]) rfl rfl rfl ?_
      obtain ⟨u8172, hu8172, r8173⟩ := bind_some r8166; clear r8166
      obtain ⟨c8174, p8175, h8176⟩ := OL.get o8163 hu8172
      obtain rfl := h8176
      refine Cov.q .ro (.idxO 0 rfl rfl rfl hu8172 sl41 ty3.sz) rfl ?_;refine Cov.q .ro (.loadO 0 0 rfl hu8172 p8175 rfl (.inl ⟨rfl, rfl⟩) ty3 rfl) rfl ?_;refine Cov.q .ro (.fieldAddr 3 rfl fl27_3 ty3.sz rfl) rfl ?_;refine Cov.store 1 [_, _, _, _] [_, _, _] .ro rfl rfl rfl ty3 rfl rfl rfl rfl ?_;refine Cov.region_end ?_;refine Cov.prune [(2, _), (3, _)] ⟨rfl, rfl, trivial⟩ ?_;refine Cov.drop 0 1 _ [] rfl rfl ?_
      refine Cov.prune _ ?_ (Cov.same rfl rfl rfl (hb4103 (u8165.2.1, a8169, k8170, u8165.2.2, u2.1.1, u2.1.2.1, u2.1.2.2.1, u8172) ⟨s8171, r8173⟩))
      exact ⟨rfl, rfl, trivial⟩
     ·have r8177 := ifF r8159 c8160; clear r8159
      refine Cov.skip ?_
      refine Cov.prune _ ?_ (Cov.same rfl rfl rfl (hb4103 (u10.2.1, a14, k15, u10.2.2, u2.1.1, u2.1.2.1, u2.1.2.2.1, u2.1.2.2.2) ⟨s16, r8177⟩))
      exact ⟨rfl, rfl, trivial⟩
set_option maxHeartbeats 4000000 in
set_option maxRecDepth 100000 in
theorem play_Dice_Field_c {Fs : List Hp} {G : Hp} {p0 : Nat} {a0_0 : Option Addr} {k0_0 : Nat} {x0_0 : List Int} {x0_1 : Int} {r : (Int × ((List Int) × Int))} (hG : G ∈ Fs) (s0_0 : SlR (Rep.int .u8) G a0_0 k0_0 x0_0) (h : play_Dice_Field (x0_0, x0_1) = some r) : RetS Tryz.prog 22 #[.pointer (some ⟨p0, 0, none⟩)] Fs [(p0, .cells #[.slice a0_0 x0_0.length k0_0, .int .i64 x0_1] 97 (0, 0))] [] (fun v bo so => ∃ a0 : Option Addr, ∃ k0 : Nat, v = .agg #[.int .i64 r.1] ∧ bo = [(p0, .cells #[.slice a0 r.2.1.length k0, .int .i64 r.2.2] 97 (0, 0))] ∧ so = [] ∧ SlR (Rep.int .u8) G a0 k0 r.2.1) := by
 unfold play_Dice_Field at h
 try dsimp only at h
 refine RetS.of (vs := [_]) Tryz.func22 rfl Tryz.ntmps22 [(0, _)] ⟨rfl, trivial⟩ rfl hG fun w0 S0 hS0 B0 => ?_
 refine Cov.seq ?_;refine Cov.region rfl ?_
 refine Cov.alloc .ro ty49 rfl (fun b1 hb1 => ?_)
 refine Cov.region_end ?_;refine Cov.seq ?_;refine Cov.region rfl ?_
 refine Cov.lit [_, _, _, _] [(0, _), (1, _), (2, _), (3, _)] .ro sl41 ty3 rfl rfl rfl rfl rfl rfl (fun b2 hb2 => ?_)
 have o3 : OL (Rep.int .i64) G [.int .i64 7, .int .i64 11, .int .i64 13, .int .i64 257] ([7, 11, 13, 257] : List Int) := ((OL.cons rfl (Rep.intI .i64 7) (OL.cons rfl (Rep.intI .i64 11) (OL.cons rfl (Rep.intI .i64 13) (OL.cons rfl (Rep.intI .i64 257) (OL.nil (Rp' := (Rep.int .i64))))))) :)
 refine Cov.reval 3 (n' := ([7, 11, 13, 257] : List Int).length) rfl rfl ?_;refine Cov.q .ro (.move rfl) rfl ?_
 obtain ⟨u5, hu5, r6⟩ := bind_some h; clear h
 refine Cov.pull 1 rfl [_, _] rfl ?_
 refine Cov.callS (b1 := [_]) (b2 := [_]) (s1 := []) [_, _] [] .ro rfl rfl Tryz.call25 rfl rfl (play_Dice_Pick_c (G := G) List.mem_cons_self s0_0 hu5) rfl (fun v8 bo so h7 => ?_)
 obtain ⟨a9, k10, rfl, rfl, rfl, s11⟩ := h7
 refine Cov.same (bl' := [_, _]) (sl' := [_]) rfl rfl rfl ?_
 obtain ⟨u12, hu12, r13⟩ := bind_some r6; clear r6
 obtain ⟨c14, p15, h16⟩ := OL.get o3 hu12
 obtain rfl := h16
 refine Cov.q .ro (.idxO 0 rfl rfl rfl hu12 sl41 ty3.sz) rfl ?_;refine Cov.q .ro (.loadO 0 0 rfl hu12 p15 rfl (.inl ⟨rfl, rfl⟩) ty3 rfl) rfl ?_;refine Cov.q .ro (.build [_] [(0, _)] ty49 pl49 rfl rfl) rfl ?_;refine Cov.store 1 [_] [_, _] .ro rfl rfl rfl ty49 rfl rfl rfl rfl ?_;refine Cov.region_end ?_
 cases r13
 refine Cov.drop 0 1 _ [] rfl rfl ?_;refine Cov.pull 1 rfl [_, _] rfl ?_
 refine Cov.retSD 1 (c := ⟨22, none⟩) (.inr ⟨_, rfl⟩) [.cell 2 49] [_] rfl Tryz.func22 Tryz.results22 ⟨RV.cell_a 0 [_] rfl rfl ty49 rfl, trivial⟩ (fun _ h => List.mem_cons_of_mem _ h) ⟨a9, k10, rfl, rfl, rfl, s11⟩
set_option maxHeartbeats 4000000 in
set_option maxRecDepth 100000 in
theorem ref03_Check_c {Fs : List Hp} {G : Hp} {x0_0 : Int} {r : Int} (hG : G ∈ Fs)  (h : ref03_Check x0_0 = some r) : RetS Tryz.prog 122 #[.agg #[.int .i64 x0_0]] Fs [] [] (fun v bo so => v = .int .i64 r ∧ bo = [] ∧ so = []) := by
 unfold ref03_Check at h
 try dsimp only at h
 refine RetS.of (vs := [_]) Tryz.func122 rfl Tryz.ntmps122 [(0, _)] ⟨rfl, trivial⟩ rfl hG fun w0 S0 hS0 B0 => ?_
 refine Cov.seq ?_;refine Cov.region rfl ?_
 refine Cov.box [_] .ro rfl rfl rfl (fun b1 hb1 => ?_)
 refine Cov.q .ro (.assign rfl) rfl ?_;refine Cov.region_end ?_;refine Cov.seq ?_;refine Cov.seq ?_;refine Cov.region rfl ?_;refine Cov.q .ro (.fieldAddr 0 rfl fl49_0 ty3.sz rfl) rfl ?_;refine Cov.q .ro (.load_own 0 rfl rfl ty3 rfl) rfl ?_;refine Cov.q .ro (.lss rfl rfl) rfl ?_;refine Cov.q .ro (.move rfl) rfl ?_
 refine Cov.cutR 4 (β := Unit) (fun y => [(11, .bool (decide ((x0_0 < 2) ∨ (65521 < x0_0))))]) [(1, _)] (fun y => G :: Fs) (fun y => []) [_] (fun y => []) [] (fun y => True) ⟨rfl, trivial⟩ [0] rfl [] rfl ?_ ?_
 ·rintro _ _
  refine Cov.prune [(11, .bool (decide ((x0_0 < 2) ∨ (65521 < x0_0)))), (1, _)] ⟨rfl, rfl, trivial⟩ ?_;refine Cov.same (bl' := [_]) (sl' := []) (Fs' := G :: Fs) rfl rfl rfl ?_;refine Cov.region_end ?_
  refine Cov.cond_dec rfl (fun c6 => ?_) (fun c6 => ?_)
  ·have r7 := ifT h c6; clear h
   refine Cov.seq ?_;refine Cov.region rfl ?_;refine Cov.q .ro (.assign rfl) rfl ?_;refine Cov.region_end ?_
   cases r7
   refine Cov.drop 1 0 [] _ rfl rfl ?_
   refine Cov.retS (c := ⟨122, none⟩) (.inr ⟨_, rfl⟩) [.tmp 2] [_] rfl Tryz.func122 Tryz.results122 ⟨RV.tmp rfl, trivial⟩ (fun _ h => List.mem_cons_of_mem _ h) ⟨rfl, rfl, rfl⟩
  ·have r8 := ifF h c6; clear h
   refine Cov.skip ?_;refine Cov.seq ?_;refine Cov.seq ?_;refine Cov.region rfl ?_;refine Cov.q .ro (.assign rfl) rfl ?_;refine Cov.region_end ?_;refine Cov.block ?_
   refine Cov.loop2 (α := Nat × Int) (fun y => [(3, .int .i64 y.2)]) [(1, _)] (fun y => []) (fun y => []) [_] (fun y => []) [] (fun y => ref03_Check_L1 x0_0 y.1 y.2 = some r) (fun y => y.1) (big, 2) r8 ⟨rfl, rfl, trivial⟩ rfl rfl rfl (fun y hI hb24 => ?_)
   obtain ⟨n20, v22⟩ := y
   have r23 := hI; clear hI
   try dsimp only at r23
   refine Cov.prune [(3, .int .i64 v22), (1, _)] ⟨rfl, rfl, trivial⟩ ?_;refine Cov.same (bl' := [_]) (sl' := []) (Fs' := G :: Fs) rfl rfl rfl ?_
   obtain ⟨m27, rfl⟩ : ∃ m, n20 = m + 1 := by cases n20 with | zero => exact absurd (show (none : Option _) = some _ from r23) (by simp) | succ m => exact ⟨m, rfl⟩
   have r26 : ref03_Check_B1 x0_0 (ref03_Check_L1 x0_0 m27) v22 = some r := r23; clear r23; unfold ref03_Check_B1 at r26; try dsimp only at r26
   refine Cov.seq ?_;refine Cov.seq ?_;refine Cov.region rfl ?_;refine Cov.q .ro (.move rfl) rfl ?_;refine Cov.q .ro (.move rfl) rfl ?_;refine Cov.q .ro (.mulw rfl rfl) rfl ?_;refine Cov.q .ro (.fieldAddr 0 rfl fl49_0 ty3.sz rfl) rfl ?_;refine Cov.q .ro (.load_own 0 rfl rfl ty3 rfl) rfl ?_;refine Cov.q .ro (.leq rfl rfl) rfl ?_
   refine Cov.region_end ?_
   refine Cov.cond_dec rfl (fun c28 => ?_) (fun c28 => ?_)
   ·have r29 := ifT r26 c28; clear r26
    refine Cov.skip ?_;refine Cov.seq ?_;refine Cov.block ?_;refine Cov.seq ?_;refine Cov.region rfl ?_;refine Cov.q .ro (.fieldAddr 0 rfl fl49_0 ty3.sz rfl) rfl ?_;refine Cov.q .ro (.load_own 0 rfl rfl ty3 rfl) rfl ?_;refine Cov.q .ro (.move rfl) rfl ?_
    obtain ⟨u30, hu30, r31⟩ := bind_some r29; clear r29
    refine Cov.q .ro (.remt rfl rfl (nz_some hu30)) rfl ?_;refine Cov.q .ro (.eql rfl rfl) rfl ?_;refine Cov.region_end ?_
    refine Cov.cond_dec rfl (fun c32 => ?_) (fun c32 => ?_)
    ·have r33 := ifT r31 c32; clear r31
     refine Cov.seq ?_;refine Cov.region rfl ?_;refine Cov.q .ro (.assign rfl) rfl ?_;refine Cov.region_end ?_;refine Cov.prune [(2, _)] ⟨rfl, trivial⟩ ?_
     cases r33
     refine Cov.drop 1 0 [] _ rfl rfl ?_
     refine Cov.retS (c := ⟨122, none⟩) (.inr ⟨_, rfl⟩) [.tmp 2] [_] rfl Tryz.func122 Tryz.results122 ⟨RV.tmp rfl, trivial⟩ (fun _ h => List.mem_cons_of_mem _ h) ⟨rfl, rfl, rfl⟩
    ·have r34 := ifF r31 c32; clear r31
     refine Cov.skip ?_;refine Cov.inBlock ?_;refine Cov.region rfl ?_;refine Cov.q .ro (.move rfl) rfl ?_;refine Cov.q .ro (.addw rfl rfl) rfl ?_;refine Cov.q .ro (.assign rfl) rfl ?_;refine Cov.region_end ?_;refine Cov.prune [(3, _), (1, _)] ⟨rfl, rfl, trivial⟩ ?_
     refine Cov.prune _ ?_ (Cov.same rfl rfl rfl (hb24 (m27, (w64 (v22 + 1))) r34 (Nat.lt_succ_self _)))
     exact ⟨rfl, rfl, trivial⟩
   ·have r35 := ifF r26 c28; clear r26
    refine Cov.exit rfl ?_;refine Cov.seq ?_;refine Cov.region rfl ?_;refine Cov.q .ro (.assign rfl) rfl ?_;refine Cov.region_end ?_
    cases r35
    refine Cov.drop 1 0 [] _ rfl rfl ?_
    refine Cov.retS (c := ⟨122, none⟩) (.inr ⟨_, rfl⟩) [.tmp 2] [_] rfl Tryz.func122 Tryz.results122 ⟨RV.tmp rfl, trivial⟩ (fun _ h => List.mem_cons_of_mem _ h) ⟨rfl, rfl, rfl⟩
 ·intro hb3
  refine Cov.split 7 rfl (fun c2 => ?_) (fun c2 => ?_)
  ·refine Cov.g_off rfl rfl rfl ?_
   refine Cov.g_off rfl rfl rfl ?_;refine Cov.g_off rfl rfl rfl ?_;refine Cov.q .ro (.pick_t rfl rfl) rfl ?_
   refine Cov.prune _ ?_ (Cov.same rfl rfl rfl (hb3 () trivial))
   exact ⟨dor_t c2, rfl, trivial⟩
  ·refine Cov.g_on rfl ?_
   refine Cov.q .ro (.fieldAddr 0 rfl fl49_0 ty3.sz rfl) rfl ?_;refine Cov.g_on rfl ?_;refine Cov.q .ro (.load_own 0 rfl rfl ty3 rfl) rfl ?_;refine Cov.g_on rfl ?_;refine Cov.q .ro (.gtr rfl rfl) rfl ?_;refine Cov.q .ro (.pick_f rfl rfl) rfl ?_
   refine Cov.prune _ ?_ (Cov.same rfl rfl rfl (hb3 () trivial))
   exact ⟨dor_f c2, rfl, trivial⟩
set_option maxHeartbeats 4000000 in
set_option maxRecDepth 100000 in
theorem ref23_Shape_c {Fs : List Hp} {G : Hp} {x0_0 : Int} {x0_1 : Int} {x0_2 : Int} {x0_3 : Int} {r : Bool} (hG : G ∈ Fs)  (h : ref23_Shape (x0_0, x0_1, x0_2, x0_3) = some r) : RetS Tryz.prog 124 #[.agg #[.int .i64 x0_0, .int .i64 x0_1, .int .i64 x0_2, .int .i64 x0_3]] Fs [] [] (fun v bo so => v = .bool r ∧ bo = [] ∧ so = []) := by
 unfold ref23_Shape at h
 try dsimp only at h
 refine RetS.of (vs := [_]) Tryz.func124 rfl Tryz.ntmps124 [(0, _)] ⟨rfl, trivial⟩ rfl hG fun w0 S0 hS0 B0 => ?_
 refine Cov.seq ?_;refine Cov.region rfl ?_
 refine Cov.box [_, _, _, _] .ro rfl rfl rfl (fun b1 hb1 => ?_)
 refine Cov.q .ro (.assign rfl) rfl ?_;refine Cov.region_end ?_;refine Cov.seq ?_;refine Cov.seq ?_;refine Cov.region rfl ?_;refine Cov.q .ro (.fieldAddr 1 rfl fl27_1 ty3.sz rfl) rfl ?_;refine Cov.q .ro (.load_own 0 rfl rfl ty3 rfl) rfl ?_;refine Cov.q .ro (.lss rfl rfl) rfl ?_;refine Cov.q .ro (.move rfl) rfl ?_
 refine Cov.cutR 4 (β := Unit) (fun y => [(10, .bool (decide ((x0_1 < 2) ∨ (10 < x0_1))))]) [(1, _)] (fun y => G :: Fs) (fun y => []) [_] (fun y => []) [] (fun y => True) ⟨rfl, trivial⟩ [0] rfl [] rfl ?_ ?_
 ·rintro _ _
  refine Cov.prune [(10, .bool (decide ((x0_1 < 2) ∨ (10 < x0_1)))), (1, _)] ⟨rfl, rfl, trivial⟩ ?_;refine Cov.same (bl' := [_]) (sl' := []) (Fs' := G :: Fs) rfl rfl rfl ?_;refine Cov.region_end ?_
  refine Cov.cond_dec rfl (fun c6 => ?_) (fun c6 => ?_)
  ·have r7 := ifT h c6; clear h
   refine Cov.seq ?_;refine Cov.region rfl ?_;refine Cov.q .ro (.assign rfl) rfl ?_;refine Cov.region_end ?_
   cases r7
   refine Cov.drop 1 0 [] _ rfl rfl ?_
   refine Cov.retS (c := ⟨124, none⟩) (.inr ⟨_, rfl⟩) [.tmp 2] [_] rfl Tryz.func124 Tryz.results124 ⟨RV.tmp rfl, trivial⟩ (fun _ h => List.mem_cons_of_mem _ h) ⟨rfl, rfl, rfl⟩
  ·have r8 := ifF h c6; clear h
   refine Cov.skip ?_;refine Cov.seq ?_;refine Cov.seq ?_;refine Cov.region rfl ?_;refine Cov.q .ro (.fieldAddr 0 rfl fl27_0 ty3.sz rfl) rfl ?_;refine Cov.q .ro (.load_own 0 rfl rfl ty3 rfl) rfl ?_;refine Cov.region_end ?_;refine Cov.block ?_;refine Cov.seq ?_
   refine Cov.region rfl ?_;refine Cov.q .ro (.eql rfl rfl) rfl ?_;refine Cov.q .ro (.assign rfl) rfl ?_;refine Cov.region_end ?_
   refine Cov.cond_dec rfl (fun c9 => ?_) (fun c9 => ?_)
   ·have r10 := ifT r8 c9; clear r8
    refine Cov.seq ?_;refine Cov.region rfl ?_;refine Cov.q .ro (.fieldAddr 2 rfl fl27_2 ty3.sz rfl) rfl ?_;refine Cov.q .ro (.load_own 0 rfl rfl ty3 rfl) rfl ?_;refine Cov.q .ro (.eql rfl rfl) rfl ?_;refine Cov.q .ro (.move rfl) rfl ?_;refine Cov.cutR 4 (β := Unit) (fun y => [(22, .bool (decide ((x0_2 = 0) ∧ (x0_3 = 0))))]) [] (fun y => G :: Fs) (fun y => []) [_] (fun y => []) [] (fun y => True) trivial [0] rfl [] rfl ?_ ?_
    ·rintro _ _
     refine Cov.prune [(22, .bool (decide ((x0_2 = 0) ∧ (x0_3 = 0))))] ⟨rfl, trivial⟩ ?_;refine Cov.same (bl' := [_]) (sl' := []) (Fs' := G :: Fs) rfl rfl rfl ?_;refine Cov.q .ro (.assign rfl) rfl ?_;refine Cov.region_end ?_
     cases r10
     refine Cov.drop 1 0 [] _ rfl rfl ?_
     refine Cov.retS (c := ⟨124, none⟩) (.inr ⟨_, rfl⟩) [.tmp 2] [_] rfl Tryz.func124 Tryz.results124 ⟨RV.tmp rfl, trivial⟩ (fun _ h => List.mem_cons_of_mem _ h) ⟨rfl, rfl, rfl⟩
    ·intro hb12
     refine Cov.split 18 rfl (fun c11 => ?_) (fun c11 => ?_)
     ·refine Cov.g_on rfl ?_
      refine Cov.q .ro (.fieldAddr 3 rfl fl27_3 ty3.sz rfl) rfl ?_;refine Cov.g_on rfl ?_;refine Cov.q .ro (.load_own 0 rfl rfl ty3 rfl) rfl ?_;refine Cov.g_on rfl ?_;refine Cov.q .ro (.eql rfl rfl) rfl ?_;refine Cov.q .ro (.pick_t rfl rfl) rfl ?_
      refine Cov.prune _ ?_ (Cov.same rfl rfl rfl (hb12 () trivial))
      exact ⟨dand_t c11, trivial⟩
     ·refine Cov.g_off rfl rfl rfl ?_
      refine Cov.g_off rfl rfl rfl ?_;refine Cov.g_off rfl rfl rfl ?_;refine Cov.q .ro (.pick_f rfl rfl) rfl ?_
      refine Cov.prune _ ?_ (Cov.same rfl rfl rfl (hb12 () trivial))
      exact ⟨dand_f c11, trivial⟩
   ·have r15 := ifF r8 c9; clear r8
    refine Cov.seq ?_;refine Cov.region rfl ?_;refine Cov.q .ro (.eql rfl rfl) rfl ?_;refine Cov.q .ro (.assign rfl) rfl ?_;refine Cov.region_end ?_
    refine Cov.cond_dec rfl (fun c16 => ?_) (fun c16 => ?_)
    ·have r17 := ifT r15 c16; clear r15
     refine Cov.seq ?_;refine Cov.region rfl ?_;refine Cov.q .ro (.fieldAddr 2 rfl fl27_2 ty3.sz rfl) rfl ?_;refine Cov.q .ro (.load_own 0 rfl rfl ty3 rfl) rfl ?_;refine Cov.q .ro (.geq rfl rfl) rfl ?_;refine Cov.q .ro (.move rfl) rfl ?_;refine Cov.cutR 7 (β := Unit) (fun y => [(35, .bool (decide ((1 ≤ x0_2) ∧ (x0_2 ≤ (w64 (x0_1 - 1))))))]) [(1, _)] (fun y => G :: Fs) (fun y => []) [_] (fun y => []) [] (fun y => True) ⟨rfl, trivial⟩ [0] rfl [] rfl ?_ ?_
     ·rintro _ _
      refine Cov.prune [(35, .bool (decide ((1 ≤ x0_2) ∧ (x0_2 ≤ (w64 (x0_1 - 1)))))), (1, _)] ⟨rfl, rfl, trivial⟩ ?_;refine Cov.same (bl' := [_]) (sl' := []) (Fs' := G :: Fs) rfl rfl rfl ?_;refine Cov.q .ro (.move rfl) rfl ?_;refine Cov.cutR 4 (β := Unit) (fun y => [(40, .bool (decide (((1 ≤ x0_2) ∧ (x0_2 ≤ (w64 (x0_1 - 1)))) ∧ (x0_3 = 0))))]) [] (fun y => G :: Fs) (fun y => []) [_] (fun y => []) [] (fun y => True) trivial [0] rfl [] rfl ?_ ?_
      ·rintro _ _
       refine Cov.prune [(40, .bool (decide (((1 ≤ x0_2) ∧ (x0_2 ≤ (w64 (x0_1 - 1)))) ∧ (x0_3 = 0))))] ⟨rfl, trivial⟩ ?_;refine Cov.same (bl' := [_]) (sl' := []) (Fs' := G :: Fs) rfl rfl rfl ?_;refine Cov.q .ro (.assign rfl) rfl ?_;refine Cov.region_end ?_
       cases r17
       refine Cov.drop 1 0 [] _ rfl rfl ?_
       refine Cov.retS (c := ⟨124, none⟩) (.inr ⟨_, rfl⟩) [.tmp 2] [_] rfl Tryz.func124 Tryz.results124 ⟨RV.tmp rfl, trivial⟩ (fun _ h => List.mem_cons_of_mem _ h) ⟨rfl, rfl, rfl⟩
      ·intro hb23
       refine Cov.split 36 rfl (fun c22 => ?_) (fun c22 => ?_)
       ·refine Cov.g_on rfl ?_
        refine Cov.q .ro (.fieldAddr 3 rfl fl27_3 ty3.sz rfl) rfl ?_;refine Cov.g_on rfl ?_;refine Cov.q .ro (.load_own 0 rfl rfl ty3 rfl) rfl ?_;refine Cov.g_on rfl ?_;refine Cov.q .ro (.eql rfl rfl) rfl ?_;refine Cov.q .ro (.pick_t rfl rfl) rfl ?_
        refine Cov.prune _ ?_ (Cov.same rfl rfl rfl (hb23 () trivial))
        exact ⟨dand_t c22, trivial⟩
       ·refine Cov.g_off rfl rfl rfl ?_
        refine Cov.g_off rfl rfl rfl ?_;refine Cov.g_off rfl rfl rfl ?_;refine Cov.q .ro (.pick_f rfl rfl) rfl ?_
        refine Cov.prune _ ?_ (Cov.same rfl rfl rfl (hb23 () trivial))
        exact ⟨dand_f c22, trivial⟩
     ·intro hb19
      refine Cov.split 28 rfl (fun c18 => ?_) (fun c18 => ?_)
      ·refine Cov.g_on rfl ?_
       refine Cov.q .ro (.fieldAddr 2 rfl fl27_2 ty3.sz rfl) rfl ?_;refine Cov.g_on rfl ?_;refine Cov.q .ro (.load_own 0 rfl rfl ty3 rfl) rfl ?_;refine Cov.g_on rfl ?_;refine Cov.q .ro (.fieldAddr 1 rfl fl27_1 ty3.sz rfl) rfl ?_;refine Cov.g_on rfl ?_;refine Cov.q .ro (.load_own 0 rfl rfl ty3 rfl) rfl ?_;refine Cov.g_on rfl ?_;refine Cov.q .ro (.subw rfl rfl) rfl ?_
       refine Cov.g_on rfl ?_;refine Cov.q .ro (.leq rfl rfl) rfl ?_;refine Cov.q .ro (.pick_t rfl rfl) rfl ?_
       refine Cov.prune _ ?_ (Cov.same rfl rfl rfl (hb19 () trivial))
       exact ⟨dand_t c18, rfl, trivial⟩
      ·refine Cov.g_off rfl rfl rfl ?_
       refine Cov.g_off rfl rfl rfl ?_;refine Cov.g_off rfl rfl rfl ?_;refine Cov.g_off rfl rfl rfl ?_;refine Cov.g_off rfl rfl rfl ?_;refine Cov.g_off rfl rfl rfl ?_;refine Cov.q .ro (.pick_f rfl rfl) rfl ?_
       refine Cov.prune _ ?_ (Cov.same rfl rfl rfl (hb19 () trivial))
       exact ⟨dand_f c18, rfl, trivial⟩
    ·have r26 := ifF r15 c16; clear r15
     refine Cov.seq ?_;refine Cov.region rfl ?_;refine Cov.q .ro (.eql rfl rfl) rfl ?_;refine Cov.q .ro (.assign rfl) rfl ?_;refine Cov.region_end ?_
     refine Cov.cond_dec rfl (fun c27 => ?_) (fun c27 => ?_)
     ·have r28 := ifT r26 c27; clear r26
      refine Cov.seq ?_;refine Cov.region rfl ?_;refine Cov.q .ro (.fieldAddr 2 rfl fl27_2 ty3.sz rfl) rfl ?_;refine Cov.q .ro (.load_own 0 rfl rfl ty3 rfl) rfl ?_;refine Cov.q .ro (.geq rfl rfl) rfl ?_;refine Cov.q .ro (.move rfl) rfl ?_;refine Cov.cutR 4 (β := Unit) (fun y => [(50, .bool (decide ((1 ≤ x0_2) ∧ (1 ≤ x0_3))))]) [(1, _)] (fun y => G :: Fs) (fun y => []) [_] (fun y => []) [] (fun y => True) ⟨rfl, trivial⟩ [0] rfl [] rfl ?_ ?_
      ·rintro _ _
       refine Cov.prune [(50, .bool (decide ((1 ≤ x0_2) ∧ (1 ≤ x0_3)))), (1, _)] ⟨rfl, rfl, trivial⟩ ?_;refine Cov.same (bl' := [_]) (sl' := []) (Fs' := G :: Fs) rfl rfl rfl ?_;refine Cov.q .ro (.move rfl) rfl ?_;refine Cov.cutR 4 (β := Unit) (fun y => [(55, .bool (decide (((1 ≤ x0_2) ∧ (1 ≤ x0_3)) ∧ (x0_2 ≤ 10))))]) [(1, _)] (fun y => G :: Fs) (fun y => []) [_] (fun y => []) [] (fun y => True) ⟨rfl, trivial⟩ [0] rfl [] rfl ?_ ?_
       ·rintro _ _
        refine Cov.prune [(55, .bool (decide (((1 ≤ x0_2) ∧ (1 ≤ x0_3)) ∧ (x0_2 ≤ 10)))), (1, _)] ⟨rfl, rfl, trivial⟩ ?_;refine Cov.same (bl' := [_]) (sl' := []) (Fs' := G :: Fs) rfl rfl rfl ?_;refine Cov.q .ro (.move rfl) rfl ?_;refine Cov.cutR 4 (β := Unit) (fun y => [(60, .bool (decide ((((1 ≤ x0_2) ∧ (1 ≤ x0_3)) ∧ (x0_2 ≤ 10)) ∧ (x0_3 ≤ 10))))]) [(1, _)] (fun y => G :: Fs) (fun y => []) [_] (fun y => []) [] (fun y => True) ⟨rfl, trivial⟩ [0] rfl [] rfl ?_ ?_
        ·rintro _ _
         refine Cov.prune [(60, .bool (decide ((((1 ≤ x0_2) ∧ (1 ≤ x0_3)) ∧ (x0_2 ≤ 10)) ∧ (x0_3 ≤ 10)))), (1, _)] ⟨rfl, rfl, trivial⟩ ?_;refine Cov.same (bl' := [_]) (sl' := []) (Fs' := G :: Fs) rfl rfl rfl ?_;refine Cov.q .ro (.move rfl) rfl ?_;refine Cov.cutR 11 (β := Unit) (fun y => [(72, .bool (decide (((((1 ≤ x0_2) ∧ (1 ≤ x0_3)) ∧ (x0_2 ≤ 10)) ∧ (x0_3 ≤ 10)) ∧ ((w64 ((w64 ((w64 (2 * x0_3)) + x0_2)) - 1)) ≤ x0_1))))]) [] (fun y => G :: Fs) (fun y => []) [_] (fun y => []) [] (fun y => True) trivial [0] rfl [] rfl ?_ ?_
         ·rintro _ _
          refine Cov.prune [(72, .bool (decide (((((1 ≤ x0_2) ∧ (1 ≤ x0_3)) ∧ (x0_2 ≤ 10)) ∧ (x0_3 ≤ 10)) ∧ ((w64 ((w64 ((w64 (2 * x0_3)) + x0_2)) - 1)) ≤ x0_1))))] ⟨rfl, trivial⟩ ?_;refine Cov.same (bl' := [_]) (sl' := []) (Fs' := G :: Fs) rfl rfl rfl ?_;refine Cov.q .ro (.assign rfl) rfl ?_;refine Cov.region_end ?_
          cases r28
          refine Cov.drop 1 0 [] _ rfl rfl ?_
          refine Cov.retS (c := ⟨124, none⟩) (.inr ⟨_, rfl⟩) [.tmp 2] [_] rfl Tryz.func124 Tryz.results124 ⟨RV.tmp rfl, trivial⟩ (fun _ h => List.mem_cons_of_mem _ h) ⟨rfl, rfl, rfl⟩
         ·intro hb42
          refine Cov.split 61 rfl (fun c41 => ?_) (fun c41 => ?_)
          ·refine Cov.g_on rfl ?_
           refine Cov.q .ro (.fieldAddr 3 rfl fl27_3 ty3.sz rfl) rfl ?_;refine Cov.g_on rfl ?_;refine Cov.q .ro (.load_own 0 rfl rfl ty3 rfl) rfl ?_;refine Cov.g_on rfl ?_;refine Cov.q .ro (.mulw rfl rfl) rfl ?_;refine Cov.g_on rfl ?_;refine Cov.q .ro (.fieldAddr 2 rfl fl27_2 ty3.sz rfl) rfl ?_;refine Cov.g_on rfl ?_;refine Cov.q .ro (.load_own 0 rfl rfl ty3 rfl) rfl ?_
           refine Cov.g_on rfl ?_;refine Cov.q .ro (.addw rfl rfl) rfl ?_;refine Cov.g_on rfl ?_;refine Cov.q .ro (.subw rfl rfl) rfl ?_;refine Cov.g_on rfl ?_;refine Cov.q .ro (.fieldAddr 1 rfl fl27_1 ty3.sz rfl) rfl ?_;refine Cov.g_on rfl ?_;refine Cov.q .ro (.load_own 0 rfl rfl ty3 rfl) rfl ?_;refine Cov.g_on rfl ?_
           refine Cov.q .ro (.leq rfl rfl) rfl ?_;refine Cov.q .ro (.pick_t rfl rfl) rfl ?_
           refine Cov.prune _ ?_ (Cov.same rfl rfl rfl (hb42 () trivial))
           exact ⟨dand_t c41, trivial⟩
          ·refine Cov.g_off rfl rfl rfl ?_
           refine Cov.g_off rfl rfl rfl ?_;refine Cov.g_off rfl rfl rfl ?_;refine Cov.g_off rfl rfl rfl ?_;refine Cov.g_off rfl rfl rfl ?_;refine Cov.g_off rfl rfl rfl ?_;refine Cov.g_off rfl rfl rfl ?_;refine Cov.g_off rfl rfl rfl ?_;refine Cov.g_off rfl rfl rfl ?_;refine Cov.g_off rfl rfl rfl ?_
           refine Cov.q .ro (.pick_f rfl rfl) rfl ?_
           refine Cov.prune _ ?_ (Cov.same rfl rfl rfl (hb42 () trivial))
           exact ⟨dand_f c41, trivial⟩
        ·intro hb38
         refine Cov.split 56 rfl (fun c37 => ?_) (fun c37 => ?_)
         ·refine Cov.g_on rfl ?_
          refine Cov.q .ro (.fieldAddr 3 rfl fl27_3 ty3.sz rfl) rfl ?_;refine Cov.g_on rfl ?_;refine Cov.q .ro (.load_own 0 rfl rfl ty3 rfl) rfl ?_;refine Cov.g_on rfl ?_;refine Cov.q .ro (.leq rfl rfl) rfl ?_;refine Cov.q .ro (.pick_t rfl rfl) rfl ?_
          refine Cov.prune _ ?_ (Cov.same rfl rfl rfl (hb38 () trivial))
          exact ⟨dand_t c37, rfl, trivial⟩
         ·refine Cov.g_off rfl rfl rfl ?_
          refine Cov.g_off rfl rfl rfl ?_;refine Cov.g_off rfl rfl rfl ?_;refine Cov.q .ro (.pick_f rfl rfl) rfl ?_
          refine Cov.prune _ ?_ (Cov.same rfl rfl rfl (hb38 () trivial))
          exact ⟨dand_f c37, rfl, trivial⟩
       ·intro hb34
        refine Cov.split 51 rfl (fun c33 => ?_) (fun c33 => ?_)
        ·refine Cov.g_on rfl ?_
         refine Cov.q .ro (.fieldAddr 2 rfl fl27_2 ty3.sz rfl) rfl ?_;refine Cov.g_on rfl ?_;refine Cov.q .ro (.load_own 0 rfl rfl ty3 rfl) rfl ?_;refine Cov.g_on rfl ?_;refine Cov.q .ro (.leq rfl rfl) rfl ?_;refine Cov.q .ro (.pick_t rfl rfl) rfl ?_
         refine Cov.prune _ ?_ (Cov.same rfl rfl rfl (hb34 () trivial))
         exact ⟨dand_t c33, rfl, trivial⟩
        ·refine Cov.g_off rfl rfl rfl ?_
         refine Cov.g_off rfl rfl rfl ?_;refine Cov.g_off rfl rfl rfl ?_;refine Cov.q .ro (.pick_f rfl rfl) rfl ?_
         refine Cov.prune _ ?_ (Cov.same rfl rfl rfl (hb34 () trivial))
         exact ⟨dand_f c33, rfl, trivial⟩
      ·intro hb30
       refine Cov.split 46 rfl (fun c29 => ?_) (fun c29 => ?_)
       ·refine Cov.g_on rfl ?_
        refine Cov.q .ro (.fieldAddr 3 rfl fl27_3 ty3.sz rfl) rfl ?_;refine Cov.g_on rfl ?_;refine Cov.q .ro (.load_own 0 rfl rfl ty3 rfl) rfl ?_;refine Cov.g_on rfl ?_;refine Cov.q .ro (.geq rfl rfl) rfl ?_;refine Cov.q .ro (.pick_t rfl rfl) rfl ?_
        refine Cov.prune _ ?_ (Cov.same rfl rfl rfl (hb30 () trivial))
        exact ⟨dand_t c29, rfl, trivial⟩
       ·refine Cov.g_off rfl rfl rfl ?_
        refine Cov.g_off rfl rfl rfl ?_;refine Cov.g_off rfl rfl rfl ?_;refine Cov.q .ro (.pick_f rfl rfl) rfl ?_
        refine Cov.prune _ ?_ (Cov.same rfl rfl rfl (hb30 () trivial))
        exact ⟨dand_f c29, rfl, trivial⟩
     ·have r45 := ifF r26 c27; clear r26
      refine Cov.skip ?_;refine Cov.inBlock ?_;refine Cov.seq ?_;refine Cov.region rfl ?_;refine Cov.q .ro (.assign rfl) rfl ?_;refine Cov.region_end ?_
      cases r45
      refine Cov.drop 1 0 [] _ rfl rfl ?_
      refine Cov.retS (c := ⟨124, none⟩) (.inr ⟨_, rfl⟩) [.tmp 2] [_] rfl Tryz.func124 Tryz.results124 ⟨RV.tmp rfl, trivial⟩ (fun _ h => List.mem_cons_of_mem _ h) ⟨rfl, rfl, rfl⟩
 ·intro hb3
  refine Cov.split 6 rfl (fun c2 => ?_) (fun c2 => ?_)
  ·refine Cov.g_off rfl rfl rfl ?_
   refine Cov.g_off rfl rfl rfl ?_;refine Cov.g_off rfl rfl rfl ?_;refine Cov.q .ro (.pick_t rfl rfl) rfl ?_
   refine Cov.prune _ ?_ (Cov.same rfl rfl rfl (hb3 () trivial))
   exact ⟨dor_t c2, rfl, trivial⟩
  ·refine Cov.g_on rfl ?_
   refine Cov.q .ro (.fieldAddr 1 rfl fl27_1 ty3.sz rfl) rfl ?_;refine Cov.g_on rfl ?_;refine Cov.q .ro (.load_own 0 rfl rfl ty3 rfl) rfl ?_;refine Cov.g_on rfl ?_;refine Cov.q .ro (.gtr rfl rfl) rfl ?_;refine Cov.q .ro (.pick_f rfl rfl) rfl ?_
   refine Cov.prune _ ?_ (Cov.same rfl rfl rfl (hb3 () trivial))
   exact ⟨dor_f c2, rfl, trivial⟩
set_option maxHeartbeats 4000000 in
set_option maxRecDepth 100000 in
theorem ref23_Valid_c {Fs : List Hp} {G : Hp} {x0_0 : Int} {x0_1 : Int} {x0_2 : Int} {x0_3 : Int} {x1_0 : Int} {r : Bool} (hG : G ∈ Fs)  (h : ref23_Valid (x0_0, x0_1, x0_2, x0_3) x1_0 = some r) : RetS Tryz.prog 69 #[.agg #[.int .i64 x0_0, .int .i64 x0_1, .int .i64 x0_2, .int .i64 x0_3], .agg #[.int .i64 x1_0]] Fs [] [] (fun v bo so => v = .bool r ∧ bo = [] ∧ so = []) := by
 unfold ref23_Valid at h
 try dsimp only at h
 refine RetS.of (vs := [_, _]) Tryz.func69 rfl Tryz.ntmps69 [(0, _), (1, _)] ⟨rfl, rfl, trivial⟩ rfl hG fun w0 S0 hS0 B0 => ?_
 refine Cov.seq ?_;refine Cov.region rfl ?_
 refine Cov.box [_, _, _, _] .ro rfl rfl rfl (fun b1 hb1 => ?_)
 refine Cov.box [_] .ro rfl rfl rfl (fun b2 hb2 => ?_)
 refine Cov.q .ro (.assign rfl) rfl ?_;refine Cov.region_end ?_;refine Cov.seq ?_;refine Cov.region rfl ?_;refine Cov.q .ro (.load_own_a 1 [_, _, _, _] rfl rfl ty27 rfl) rfl ?_
 obtain ⟨u3, hu3, r4⟩ := bind_some h; clear h
 refine Cov.callS (b1 := []) (b2 := [_, _]) (s1 := []) [_] [] .ro rfl rfl Tryz.call124 rfl rfl (ref23_Shape_c (G := G) List.mem_cons_self  hu3) rfl (fun v6 bo so h5 => ?_)
 obtain ⟨rfl, rfl, rfl⟩ := h5
 refine Cov.same (bl' := [_, _]) (sl' := []) rfl rfl rfl ?_;refine Cov.q .ro (.move rfl) rfl ?_
 obtain ⟨u13, h14, r15⟩ := bind_some r4; clear r4
 refine Cov.cutR 4 (β := Unit) (fun y => [(11, .bool u13)]) [(2, _), (3, _), (4, _)] (fun y => G :: Fs) (fun y => []) [_, _] (fun y => []) [] (fun y => True) ⟨rfl, rfl, rfl, trivial⟩ [0, 1] rfl [] rfl ?_ ?_
 ·rintro _ _
  refine Cov.prune [(11, .bool u13), (2, _), (3, _), (4, _)] ⟨rfl, rfl, rfl, rfl, trivial⟩ ?_;refine Cov.same (bl' := [_, _]) (sl' := []) (Fs' := G :: Fs) rfl rfl rfl ?_;refine Cov.q .ro (.move rfl) rfl ?_;refine Cov.cutR 11 (β := Unit) (fun y => [(23, .bool (decide ((u13 = true) ∧ ((x0_0 = 1) ∨ (x0_1 < x1_0)))))]) [(4, _)] (fun y => G :: Fs) (fun y => []) [_, _] (fun y => []) [] (fun y => True) ⟨rfl, trivial⟩ [0, 1] rfl [] rfl ?_ ?_
  ·rintro _ _
   refine Cov.prune [(23, .bool (decide ((u13 = true) ∧ ((x0_0 = 1) ∨ (x0_1 < x1_0))))), (4, _)] ⟨rfl, rfl, trivial⟩ ?_;refine Cov.same (bl' := [_, _]) (sl' := []) (Fs' := G :: Fs) rfl rfl rfl ?_;refine Cov.q .ro (.assign rfl) rfl ?_;refine Cov.region_end ?_
   cases r15
   refine Cov.drop 2 0 [] _ rfl rfl ?_
   refine Cov.retS (c := ⟨69, none⟩) (.inr ⟨_, rfl⟩) [.tmp 4] [_] rfl Tryz.func69 Tryz.results69 ⟨RV.tmp rfl, trivial⟩ (fun _ h => List.mem_cons_of_mem _ h) ⟨rfl, rfl, rfl⟩
  ·intro hb23
   refine Cov.split_b 12 rfl (fun c22 => ?_) (fun c22 => ?_)
   ·refine Cov.g_on rfl ?_
    refine Cov.q .ro (.fieldAddr 0 rfl fl27_0 ty3.sz rfl) rfl ?_;refine Cov.g_on rfl ?_;refine Cov.q .ro (.load_own 1 rfl rfl ty3 rfl) rfl ?_;refine Cov.g_on rfl ?_;refine Cov.q .ro (.eql rfl rfl) rfl ?_;refine Cov.g_on rfl ?_;refine Cov.q .ro (.move rfl) rfl ?_;refine Cov.cutR 6 (β := Unit) (fun y => [(22, .bool (decide ((x0_0 = 1) ∨ (x0_1 < x1_0))))]) [(4, _), (12, _)] (fun y => G :: Fs) (fun y => []) [_, _] (fun y => []) [] (fun y => True) ⟨rfl, rfl, trivial⟩ [0, 1] rfl [] rfl ?_ ?_
    ·rintro _ _
     refine Cov.prune [(22, .bool (decide ((x0_0 = 1) ∨ (x0_1 < x1_0)))), (4, _), (12, _)] ⟨rfl, rfl, rfl, trivial⟩ ?_;refine Cov.same (bl' := [_, _]) (sl' := []) (Fs' := G :: Fs) rfl rfl rfl ?_;refine Cov.q .ro (.pick_t rfl rfl) rfl ?_
     refine Cov.prune _ ?_ (Cov.same rfl rfl rfl (hb23 () trivial))
     exact ⟨dand_t c22, rfl, trivial⟩
    ·intro hb27
     refine Cov.split 16 rfl (fun c26 => ?_) (fun c26 => ?_)
     ·refine Cov.g_off rfl rfl rfl ?_
      refine Cov.g_off rfl rfl rfl ?_;refine Cov.g_off rfl rfl rfl ?_;refine Cov.g_off rfl rfl rfl ?_;refine Cov.g_off rfl rfl rfl ?_;refine Cov.g_on rfl ?_;refine Cov.q .ro (.pick_t rfl rfl) rfl ?_
      refine Cov.prune _ ?_ (Cov.same rfl rfl rfl (hb27 () trivial))
      exact ⟨dor_t c26, rfl, rfl, trivial⟩
     ·refine Cov.g_on rfl ?_
      refine Cov.q .ro (.fieldAddr 1 rfl fl27_1 ty3.sz rfl) rfl ?_;refine Cov.g_on rfl ?_;refine Cov.q .ro (.load_own 1 rfl rfl ty3 rfl) rfl ?_;refine Cov.g_on rfl ?_;refine Cov.q .ro (.fieldAddr 0 rfl fl49_0 ty3.sz rfl) rfl ?_;refine Cov.g_on rfl ?_;refine Cov.q .ro (.load_own 0 rfl rfl ty3 rfl) rfl ?_;refine Cov.g_on rfl ?_;refine Cov.q .ro (.lss rfl rfl) rfl ?_
      refine Cov.g_on rfl ?_;refine Cov.q .ro (.pick_f rfl rfl) rfl ?_
      refine Cov.prune _ ?_ (Cov.same rfl rfl rfl (hb27 () trivial))
      exact ⟨dor_f c26, rfl, rfl, trivial⟩
   ·refine Cov.g_off rfl rfl rfl ?_
    refine Cov.g_off rfl rfl rfl ?_;refine Cov.g_off rfl rfl rfl ?_;refine Cov.g_off rfl rfl rfl ?_;refine Cov.gu_off rfl rfl ?_;refine Cov.gu_off rfl rfl ?_;refine Cov.gu_off rfl rfl ?_;refine Cov.gu_off rfl rfl ?_;refine Cov.gu_off rfl rfl ?_;refine Cov.g_off rfl rfl rfl ?_
    refine Cov.q .ro (.pick_f rfl rfl) rfl ?_
    refine Cov.prune _ ?_ (Cov.same rfl rfl rfl (hb23 () trivial))
    exact ⟨dand_f (bne_of c22), rfl, trivial⟩
 ·intro hb12
  refine Cov.split_b 7 rfl (fun c11 => ?_) (fun c11 => ?_)
  ·have r30 := ifT h14 c11
   refine Cov.g_on rfl ?_;refine Cov.q .ro (.load_own_a 0 [_] rfl rfl ty49 rfl) rfl ?_;refine Cov.g_on rfl ?_
   obtain ⟨u31, hu31, r32⟩ := bind_some r30; clear r30
   refine Cov.callS (b1 := []) (b2 := [_, _]) (s1 := []) [_] [] .ro rfl rfl Tryz.call122 rfl rfl (ref03_Check_c (G := G) List.mem_cons_self  hu31) rfl (fun v34 bo so h33 => ?_)
   obtain ⟨rfl, rfl, rfl⟩ := h33
   refine Cov.same (bl' := [_, _]) (sl' := []) rfl rfl rfl ?_;refine Cov.g_on rfl ?_;refine Cov.q .ro (.eql rfl rfl) rfl ?_;refine Cov.q .ro (.pick_t rfl rfl) rfl ?_
   refine Cov.prune _ ?_ (Cov.same rfl rfl rfl (hb12 () trivial))
   exact ⟨sval r32, rfl, rfl, rfl, trivial⟩
  ·have r35 := ifBF h14 c11
   refine Cov.g_off rfl rfl rfl ?_;refine Cov.g_off rfl rfl rfl ?_;refine Cov.g_off rfl rfl rfl ?_;refine Cov.q .ro (.pick_f rfl rfl) rfl ?_
   refine Cov.prune _ ?_ (Cov.same rfl rfl rfl (hb12 () trivial))
   exact ⟨sval r35, rfl, rfl, rfl, trivial⟩
set_option maxHeartbeats 4000000 in
set_option maxRecDepth 100000 in
theorem ref16_Limits_c {Fs : List Hp} {G : Hp} {x0_0 : Int} {x1 : Int} {x2 : Int} {r : ((List Int) × Int)} (hG : G ∈ Fs)  (h : ref16_Limits x0_0 x1 x2 = some r) : RetS Tryz.prog 149 #[.agg #[.int .i64 x0_0], .int .i64 x1, .int .i64 x2] Fs [] [] (fun v bo so => ∃ (oa0 : Option Addr) (ok0 : Nat) (oc0 : List Value), v = .tuple #[.slice oa0 r.1.length ok0, .int .i64 r.2] ∧ bo = [] ∧ so = [.s (.slice oa0 r.1.length ok0) 3 1 r.1.length oc0] ∧ OL (Rep.int .i64) G oc0 r.1) := by
 unfold ref16_Limits at h
 try dsimp only at h
 refine RetS.of (vs := [_, _, _]) Tryz.func149 rfl Tryz.ntmps149 [(0, _), (1, _), (2, _)] ⟨rfl, rfl, rfl, trivial⟩ rfl hG fun w0 S0 hS0 B0 => ?_
 refine Cov.seq ?_;refine Cov.region rfl ?_
 refine Cov.box [_] .ro rfl rfl rfl (fun b1 hb1 => ?_)
 refine Cov.q .ro (.assign rfl) rfl ?_;refine Cov.q .ro (.assign rfl) rfl ?_;refine Cov.region_end ?_;refine Cov.seq ?_;refine Cov.seq ?_;refine Cov.region rfl ?_;refine Cov.q .ro (.load_own_a 0 [_] rfl rfl ty49 rfl) rfl ?_
 obtain ⟨u2, hu2, r3⟩ := bind_some h; clear h
 refine Cov.callS (b1 := []) (b2 := [_]) (s1 := []) [_] [] .ro rfl rfl Tryz.call122 rfl rfl (ref03_Check_c (G := G) List.mem_cons_self  hu2) rfl (fun v5 bo so h4 => ?_)
 obtain ⟨rfl, rfl, rfl⟩ := h4
 refine Cov.same (bl' := [_]) (sl' := []) rfl rfl rfl ?_;refine Cov.q .ro (.assign rfl) rfl ?_;refine Cov.region_end ?_;refine Cov.seq ?_;refine Cov.region rfl ?_;refine Cov.q .ro (.move rfl) rfl ?_;refine Cov.q .ro (.neq rfl rfl) rfl ?_;refine Cov.region_end ?_
 refine Cov.cond_dec rfl (fun c6 => ?_) (fun c6 => ?_)
 ·have r7 := ifT r3 c6; clear r3
  refine Cov.seq ?_;refine Cov.region rfl ?_;refine Cov.q .ro (.move rfl) rfl ?_;refine Cov.q .ro (.assign rfl) rfl ?_;refine Cov.q .ro (.assign rfl) rfl ?_;refine Cov.region_end ?_;refine Cov.own_nil 3 1 ?_
  cases r7
  refine Cov.drop 1 0 [] _ rfl rfl ?_
  refine Cov.retS (c := ⟨149, none⟩) (.inr ⟨_, rfl⟩) [.tmp 6, .tmp 7] [_, _] rfl Tryz.func149 Tryz.results149 ⟨RV.tmp rfl, RV.tmp rfl, trivial⟩ (fun _ h => List.mem_cons_of_mem _ h) ⟨none, 0, [], rfl, rfl, rfl, (OL.nil (Rp' := (Rep.int .i64)))⟩
 ·have r9 := ifF r3 c6; clear r3
  refine Cov.skip ?_;refine Cov.seq ?_;refine Cov.seq ?_;refine Cov.region rfl ?_;refine Cov.q .ro (.move rfl) rfl ?_;refine Cov.q .ro (.lss rfl rfl) rfl ?_;refine Cov.q .ro (.move rfl) rfl ?_;refine Cov.cutR 3 (β := Unit) (fun y => [(20, .bool (decide ((x2 < 2) ∨ (10 < x2))))]) [(1, _), (2, _), (3, _)] (fun y => G :: Fs) (fun y => []) [_] (fun y => []) [] (fun y => True) ⟨rfl, rfl, rfl, trivial⟩ [0] rfl [] rfl ?_ ?_
  ·rintro _ _
   refine Cov.prune [(20, .bool (decide ((x2 < 2) ∨ (10 < x2)))), (1, _), (2, _), (3, _)] ⟨rfl, rfl, rfl, rfl, trivial⟩ ?_;refine Cov.same (bl' := [_]) (sl' := []) (Fs' := G :: Fs) rfl rfl rfl ?_;refine Cov.q .ro (.move rfl) rfl ?_;refine Cov.cutR 3 (β := Unit) (fun y => [(24, .bool (decide (((x2 < 2) ∨ (10 < x2)) ∨ (x1 < 1))))]) [(1, _), (2, _), (3, _)] (fun y => G :: Fs) (fun y => []) [_] (fun y => []) [] (fun y => True) ⟨rfl, rfl, rfl, trivial⟩ [0] rfl [] rfl ?_ ?_
   ·rintro _ _
    refine Cov.prune [(24, .bool (decide (((x2 < 2) ∨ (10 < x2)) ∨ (x1 < 1)))), (1, _), (2, _), (3, _)] ⟨rfl, rfl, rfl, rfl, trivial⟩ ?_;refine Cov.same (bl' := [_]) (sl' := []) (Fs' := G :: Fs) rfl rfl rfl ?_;refine Cov.q .ro (.move rfl) rfl ?_;refine Cov.cutR 3 (β := Unit) (fun y => [(28, .bool (decide ((((x2 < 2) ∨ (10 < x2)) ∨ (x1 < 1)) ∨ (1024 < x1))))]) [(1, _), (2, _), (3, _)] (fun y => G :: Fs) (fun y => []) [_] (fun y => []) [] (fun y => True) ⟨rfl, rfl, rfl, trivial⟩ [0] rfl [] rfl ?_ ?_
    ·rintro _ _
     refine Cov.prune [(28, .bool (decide ((((x2 < 2) ∨ (10 < x2)) ∨ (x1 < 1)) ∨ (1024 < x1)))), (1, _), (2, _), (3, _)] ⟨rfl, rfl, rfl, rfl, trivial⟩ ?_;refine Cov.same (bl' := [_]) (sl' := []) (Fs' := G :: Fs) rfl rfl rfl ?_;refine Cov.region_end ?_
     refine Cov.cond_dec rfl (fun c22 => ?_) (fun c22 => ?_)
     ·have r23 := ifT r9 c22; clear r9
      refine Cov.seq ?_;refine Cov.region rfl ?_;refine Cov.q .ro (.assign rfl) rfl ?_;refine Cov.q .ro (.assign rfl) rfl ?_;refine Cov.region_end ?_;refine Cov.own_nil 3 1 ?_
      cases r23
      refine Cov.drop 1 0 [] _ rfl rfl ?_
      refine Cov.retS (c := ⟨149, none⟩) (.inr ⟨_, rfl⟩) [.tmp 6, .tmp 7] [_, _] rfl Tryz.func149 Tryz.results149 ⟨RV.tmp rfl, RV.tmp rfl, trivial⟩ (fun _ h => List.mem_cons_of_mem _ h) ⟨none, 0, [], rfl, rfl, rfl, (OL.nil (Rp' := (Rep.int .i64)))⟩
     ·have r25 := ifF r9 c22; clear r9
      refine Cov.skip ?_;refine Cov.seq ?_;refine Cov.region rfl ?_;refine Cov.q .ro (.assign rfl) rfl ?_;refine Cov.region_end ?_;refine Cov.seq ?_;refine Cov.seq ?_;refine Cov.region rfl ?_;refine Cov.q .ro (.move rfl) rfl ?_
      refine Cov.q .ro (.move rfl) rfl ?_;refine Cov.q .ro (.subw rfl rfl) rfl ?_;refine Cov.q .ro (.mulw rfl rfl) rfl ?_;refine Cov.q .ro (.move rfl) rfl ?_;refine Cov.region_end ?_;refine Cov.block ?_;refine Cov.own_nil 3 1 ?_
      refine Cov.loop2 (α := Nat × List Int × Option Addr × Nat × List Value × Int) (fun y => [(9, .slice y.2.2.1 y.2.1.length y.2.2.2.1), (33, .int .i64 y.2.2.2.2.2)]) [(3, _), (32, _)] (fun y => []) (fun y => []) [_] (fun y => [.s (.slice y.2.2.1 y.2.1.length y.2.2.2.1) 3 1 y.2.1.length y.2.2.2.2.1]) [] (fun y => OL (Rep.int .i64) G y.2.2.2.2.1 y.2.1 ∧ ref16_Limits_L1 (w64 (x1 * (w64 (x2 - 1)))) x0_0 y.1 y.2.1 y.2.2.2.2.2 = some r) (fun y => y.1) (big, ([] : List Int), none, 0, [], 0) ⟨(OL.nil (Rp' := (Rep.int .i64))), r25⟩ ⟨rfl, rfl, rfl, rfl, trivial⟩ rfl rfl rfl (fun y hI hb74 => ?_)
      obtain ⟨n64, v66, a67, k68, cs69, v72⟩ := y
      obtain ⟨o70, r73⟩ := hI
      try dsimp only at o70 r73
      refine Cov.prune [(9, .slice a67 v66.length k68), (33, .int .i64 v72), (3, _), (32, _)] ⟨rfl, rfl, rfl, rfl, trivial⟩ ?_;refine Cov.same (bl' := [_]) (sl' := [.s (.slice a67 v66.length k68) 3 1 v66.length cs69]) (Fs' := G :: Fs) rfl rfl rfl ?_
      obtain ⟨m78, rfl⟩ : ∃ m, n64 = m + 1 := by cases n64 with | zero => exact absurd (show (none : Option _) = some _ from r73) (by simp) | succ m => exact ⟨m, rfl⟩
      have r77 : ref16_Limits_B1 (w64 (x1 * (w64 (x2 - 1)))) x0_0 (ref16_Limits_L1 (w64 (x1 * (w64 (x2 - 1)))) x0_0 m78) v66 v72 = some r := r73; clear r73; unfold ref16_Limits_B1 at r77; try dsimp only at r77
      refine Cov.seq ?_;refine Cov.region rfl ?_;refine Cov.q .ro (.lss rfl rfl) rfl ?_;refine Cov.region_end ?_;refine Cov.seq ?_
      refine Cov.cond_dec rfl (fun c79 => ?_) (fun c79 => ?_)
      ·have r80 := ifT r77 c79; clear r77
       refine Cov.skip ?_;refine Cov.seq ?_;refine Cov.block ?_;refine Cov.region rfl ?_;refine Cov.q .ro (.move rfl) rfl ?_;refine Cov.q .ro (.fieldAddr 0 rfl fl49_0 ty3.sz rfl) rfl ?_;refine Cov.q .ro (.load_own 0 rfl rfl ty3 rfl) rfl ?_
       refine Cov.lit [_] [(0, _)] .ro sl41 ty3 rfl rfl rfl rfl rfl rfl (fun b81 hb81 => ?_)
       have o82 : OL (Rep.int .i64) G [.int .i64 x0_0] ([x0_0] : List Int) := ((OL.cons rfl (Rep.intI .i64 x0_0) (OL.nil (Rp' := (Rep.int .i64)))) :)
       refine Cov.reval 38 (n' := ([x0_0] : List Int).length) rfl rfl ?_
       obtain ⟨u88, hu88, r89⟩ := bind_some r80; clear r80
       refine Cov.appO (Q := (Rep.int .i64)) 0 .ro sl41 ty3 rfl rfl rfl rfl rfl rfl o70 o82 rfl rfl rfl B0 hu88 rfl (fun a84 k85 cs86 o87 => ?_)
       refine Cov.q .ro (.assign rfl) rfl ?_;refine Cov.region_end ?_;refine Cov.inBlock ?_;refine Cov.region rfl ?_;refine Cov.q .ro (.addw rfl rfl) rfl ?_;refine Cov.q .ro (.move rfl) rfl ?_;refine Cov.region_end ?_
       refine Cov.prune _ ?_ (Cov.same rfl rfl rfl (hb74 (m78, u88, a84, k85, cs86, (w64 (v72 + 1))) ⟨o87, r89⟩ (Nat.lt_succ_self _)))
       exact ⟨rfl, rfl, rfl, rfl, trivial⟩
      ·have r91 := ifF r77 c79; clear r77
       refine Cov.exit rfl ?_;refine Cov.seq ?_;refine Cov.region rfl ?_;refine Cov.q .ro (.move rfl) rfl ?_;refine Cov.q .ro (.assign rfl) rfl ?_;refine Cov.q .ro (.assign rfl) rfl ?_;refine Cov.region_end ?_
       cases r91
       refine Cov.drop 1 0 [] _ rfl rfl ?_
       refine Cov.retS (c := ⟨149, none⟩) (.inr ⟨_, rfl⟩) [.tmp 6, .tmp 7] [_, _] rfl Tryz.func149 Tryz.results149 ⟨RV.tmp rfl, RV.tmp rfl, trivial⟩ (fun _ h => List.mem_cons_of_mem _ h) ⟨a67, k68, cs69, rfl, rfl, rfl, o70⟩
    ·intro hb19
     refine Cov.split 25 rfl (fun c18 => ?_) (fun c18 => ?_)
     ·refine Cov.g_off rfl rfl rfl ?_
      refine Cov.g_off rfl rfl rfl ?_;refine Cov.q .ro (.pick_t rfl rfl) rfl ?_
      refine Cov.prune _ ?_ (Cov.same rfl rfl rfl (hb19 () trivial))
      exact ⟨dor_t c18, rfl, rfl, rfl, trivial⟩
     ·refine Cov.g_on rfl ?_
      refine Cov.q .ro (.move rfl) rfl ?_;refine Cov.g_on rfl ?_;refine Cov.q .ro (.gtr rfl rfl) rfl ?_;refine Cov.q .ro (.pick_f rfl rfl) rfl ?_
      refine Cov.prune _ ?_ (Cov.same rfl rfl rfl (hb19 () trivial))
      exact ⟨dor_f c18, rfl, rfl, rfl, trivial⟩
   ·intro hb15
    refine Cov.split 21 rfl (fun c14 => ?_) (fun c14 => ?_)
    ·refine Cov.g_off rfl rfl rfl ?_
     refine Cov.g_off rfl rfl rfl ?_;refine Cov.q .ro (.pick_t rfl rfl) rfl ?_
     refine Cov.prune _ ?_ (Cov.same rfl rfl rfl (hb15 () trivial))
     exact ⟨dor_t c14, rfl, rfl, rfl, trivial⟩
    ·refine Cov.g_on rfl ?_
     refine Cov.q .ro (.move rfl) rfl ?_;refine Cov.g_on rfl ?_;refine Cov.q .ro (.lss rfl rfl) rfl ?_;refine Cov.q .ro (.pick_f rfl rfl) rfl ?_
     refine Cov.prune _ ?_ (Cov.same rfl rfl rfl (hb15 () trivial))
     exact ⟨dor_f c14, rfl, rfl, rfl, trivial⟩
  ·intro hb11
   refine Cov.split 17 rfl (fun c10 => ?_) (fun c10 => ?_)
   ·refine Cov.g_off rfl rfl rfl ?_
    refine Cov.g_off rfl rfl rfl ?_;refine Cov.q .ro (.pick_t rfl rfl) rfl ?_
    refine Cov.prune _ ?_ (Cov.same rfl rfl rfl (hb11 () trivial))
    exact ⟨dor_t c10, rfl, rfl, rfl, trivial⟩
   ·refine Cov.g_on rfl ?_
    refine Cov.q .ro (.move rfl) rfl ?_;refine Cov.g_on rfl ?_;refine Cov.q .ro (.gtr rfl rfl) rfl ?_;refine Cov.q .ro (.pick_f rfl rfl) rfl ?_
    refine Cov.prune _ ?_ (Cov.same rfl rfl rfl (hb11 () trivial))
    exact ⟨dor_f c10, rfl, rfl, rfl, trivial⟩
set_option maxHeartbeats 4000000 in
set_option maxRecDepth 100000 in
theorem ref17_Check_c {Fs : List Hp} {G : Hp} {x0_0 : Int} {x1_0 : Int} {x1_1 : Int} {r : Int} (hG : G ∈ Fs)  (h : ref17_Check x0_0 (x1_0, x1_1) = some r) : RetS Tryz.prog 177 #[.agg #[.int .i64 x0_0], .agg #[.int .i64 x1_0, .int .i64 x1_1]] Fs [] [] (fun v bo so => v = .int .i64 r ∧ bo = [] ∧ so = []) := by
 unfold ref17_Check at h
 try dsimp only at h
 refine RetS.of (vs := [_, _]) Tryz.func177 rfl Tryz.ntmps177 [(0, _), (1, _)] ⟨rfl, rfl, trivial⟩ rfl hG fun w0 S0 hS0 B0 => ?_
 refine Cov.seq ?_;refine Cov.region rfl ?_
 refine Cov.box [_] .ro rfl rfl rfl (fun b1 hb1 => ?_)
 refine Cov.box [_, _] .ro rfl rfl rfl (fun b2 hb2 => ?_)
 refine Cov.q .ro (.assign rfl) rfl ?_;refine Cov.region_end ?_;refine Cov.seq ?_;refine Cov.seq ?_;refine Cov.region rfl ?_;refine Cov.q .ro (.load_own_a 1 [_] rfl rfl ty49 rfl) rfl ?_
 obtain ⟨u3, hu3, r4⟩ := bind_some h; clear h
 refine Cov.callS (b1 := []) (b2 := [_, _]) (s1 := []) [_] [] .ro rfl rfl Tryz.call122 rfl rfl (ref03_Check_c (G := G) List.mem_cons_self  hu3) rfl (fun v6 bo so h5 => ?_)
 obtain ⟨rfl, rfl, rfl⟩ := h5
 refine Cov.same (bl' := [_, _]) (sl' := []) rfl rfl rfl ?_;refine Cov.q .ro (.assign rfl) rfl ?_;refine Cov.region_end ?_;refine Cov.seq ?_;refine Cov.region rfl ?_;refine Cov.q .ro (.move rfl) rfl ?_;refine Cov.q .ro (.neq rfl rfl) rfl ?_;refine Cov.region_end ?_
 refine Cov.cond_dec rfl (fun c7 => ?_) (fun c7 => ?_)
 ·have r8 := ifT r4 c7; clear r4
  refine Cov.seq ?_;refine Cov.region rfl ?_;refine Cov.q .ro (.move rfl) rfl ?_;refine Cov.q .ro (.assign rfl) rfl ?_;refine Cov.region_end ?_
  cases r8
  refine Cov.drop 2 0 [] _ rfl rfl ?_
  refine Cov.retS (c := ⟨177, none⟩) (.inr ⟨_, rfl⟩) [.tmp 4] [_] rfl Tryz.func177 Tryz.results177 ⟨RV.tmp rfl, trivial⟩ (fun _ h => List.mem_cons_of_mem _ h) ⟨rfl, rfl, rfl⟩
 ·have r9 := ifF r4 c7; clear r4
  refine Cov.skip ?_;refine Cov.seq ?_;refine Cov.seq ?_;refine Cov.region rfl ?_;refine Cov.q .ro (.fieldAddr 0 rfl fl259_0 ty3.sz rfl) rfl ?_;refine Cov.q .ro (.load_own 0 rfl rfl ty3 rfl) rfl ?_;refine Cov.q .ro (.lss rfl rfl) rfl ?_;refine Cov.q .ro (.move rfl) rfl ?_;refine Cov.cutR 4 (β := Unit) (fun y => [(18, .bool (decide ((x1_0 < 2) ∨ (10 < x1_0))))]) [(2, _), (3, _)] (fun y => G :: Fs) (fun y => []) [_, _] (fun y => []) [] (fun y => True) ⟨rfl, rfl, trivial⟩ [0, 1] rfl [] rfl ?_ ?_
  ·rintro _ _
   refine Cov.prune [(18, .bool (decide ((x1_0 < 2) ∨ (10 < x1_0)))), (2, _), (3, _)] ⟨rfl, rfl, rfl, trivial⟩ ?_;refine Cov.same (bl' := [_, _]) (sl' := []) (Fs' := G :: Fs) rfl rfl rfl ?_;refine Cov.q .ro (.move rfl) rfl ?_;refine Cov.cutR 6 (β := Unit) (fun y => [(25, .bool (decide (((x1_0 < 2) ∨ (10 < x1_0)) ∨ (x0_0 ≤ x1_0))))]) [(3, _)] (fun y => G :: Fs) (fun y => []) [_, _] (fun y => []) [] (fun y => True) ⟨rfl, trivial⟩ [0, 1] rfl [] rfl ?_ ?_
   ·rintro _ _
    refine Cov.prune [(25, .bool (decide (((x1_0 < 2) ∨ (10 < x1_0)) ∨ (x0_0 ≤ x1_0)))), (3, _)] ⟨rfl, rfl, trivial⟩ ?_;refine Cov.same (bl' := [_, _]) (sl' := []) (Fs' := G :: Fs) rfl rfl rfl ?_;refine Cov.q .ro (.move rfl) rfl ?_;refine Cov.cutR 4 (β := Unit) (fun y => [(30, .bool (decide ((((x1_0 < 2) ∨ (10 < x1_0)) ∨ (x0_0 ≤ x1_0)) ∨ (x1_1 < 1))))]) [(3, _)] (fun y => G :: Fs) (fun y => []) [_, _] (fun y => []) [] (fun y => True) ⟨rfl, trivial⟩ [0, 1] rfl [] rfl ?_ ?_
    ·rintro _ _
     refine Cov.prune [(30, .bool (decide ((((x1_0 < 2) ∨ (10 < x1_0)) ∨ (x0_0 ≤ x1_0)) ∨ (x1_1 < 1)))), (3, _)] ⟨rfl, rfl, trivial⟩ ?_;refine Cov.same (bl' := [_, _]) (sl' := []) (Fs' := G :: Fs) rfl rfl rfl ?_;refine Cov.q .ro (.move rfl) rfl ?_;refine Cov.cutR 7 (β := Unit) (fun y => [(38, .bool (decide (((((x1_0 < 2) ∨ (10 < x1_0)) ∨ (x0_0 ≤ x1_0)) ∨ (x1_1 < 1)) ∨ ((w64 (x1_0 - 1)) < x1_1))))]) [] (fun y => G :: Fs) (fun y => []) [_, _] (fun y => []) [] (fun y => True) trivial [0, 1] rfl [] rfl ?_ ?_
     ·rintro _ _
      refine Cov.prune [(38, .bool (decide (((((x1_0 < 2) ∨ (10 < x1_0)) ∨ (x0_0 ≤ x1_0)) ∨ (x1_1 < 1)) ∨ ((w64 (x1_0 - 1)) < x1_1))))] ⟨rfl, trivial⟩ ?_;refine Cov.same (bl' := [_, _]) (sl' := []) (Fs' := G :: Fs) rfl rfl rfl ?_;refine Cov.region_end ?_
      refine Cov.cond_dec rfl (fun c26 => ?_) (fun c26 => ?_)
      ·have r27 := ifT r9 c26; clear r9
       refine Cov.seq ?_;refine Cov.region rfl ?_;refine Cov.q .ro (.assign rfl) rfl ?_;refine Cov.region_end ?_
       cases r27
       refine Cov.drop 2 0 [] _ rfl rfl ?_
       refine Cov.retS (c := ⟨177, none⟩) (.inr ⟨_, rfl⟩) [.tmp 4] [_] rfl Tryz.func177 Tryz.results177 ⟨RV.tmp rfl, trivial⟩ (fun _ h => List.mem_cons_of_mem _ h) ⟨rfl, rfl, rfl⟩
      ·have r28 := ifF r9 c26; clear r9
       refine Cov.skip ?_;refine Cov.seq ?_;refine Cov.region rfl ?_;refine Cov.q .ro (.assign rfl) rfl ?_;refine Cov.region_end ?_
       cases r28
       refine Cov.drop 2 0 [] _ rfl rfl ?_
       refine Cov.retS (c := ⟨177, none⟩) (.inr ⟨_, rfl⟩) [.tmp 4] [_] rfl Tryz.func177 Tryz.results177 ⟨RV.tmp rfl, trivial⟩ (fun _ h => List.mem_cons_of_mem _ h) ⟨rfl, rfl, rfl⟩
     ·intro hb23
      refine Cov.split 31 rfl (fun c22 => ?_) (fun c22 => ?_)
      ·refine Cov.g_off rfl rfl rfl ?_
       refine Cov.g_off rfl rfl rfl ?_;refine Cov.g_off rfl rfl rfl ?_;refine Cov.g_off rfl rfl rfl ?_;refine Cov.g_off rfl rfl rfl ?_;refine Cov.g_off rfl rfl rfl ?_;refine Cov.q .ro (.pick_t rfl rfl) rfl ?_
       refine Cov.prune _ ?_ (Cov.same rfl rfl rfl (hb23 () trivial))
       exact ⟨dor_t c22, trivial⟩
      ·refine Cov.g_on rfl ?_
       refine Cov.q .ro (.fieldAddr 1 rfl fl259_1 ty3.sz rfl) rfl ?_;refine Cov.g_on rfl ?_;refine Cov.q .ro (.load_own 0 rfl rfl ty3 rfl) rfl ?_;refine Cov.g_on rfl ?_;refine Cov.q .ro (.fieldAddr 0 rfl fl259_0 ty3.sz rfl) rfl ?_;refine Cov.g_on rfl ?_;refine Cov.q .ro (.load_own 0 rfl rfl ty3 rfl) rfl ?_;refine Cov.g_on rfl ?_;refine Cov.q .ro (.subw rfl rfl) rfl ?_
       refine Cov.g_on rfl ?_;refine Cov.q .ro (.gtr rfl rfl) rfl ?_;refine Cov.q .ro (.pick_f rfl rfl) rfl ?_
       refine Cov.prune _ ?_ (Cov.same rfl rfl rfl (hb23 () trivial))
       exact ⟨dor_f c22, trivial⟩
    ·intro hb19
     refine Cov.split 26 rfl (fun c18 => ?_) (fun c18 => ?_)
     ·refine Cov.g_off rfl rfl rfl ?_
      refine Cov.g_off rfl rfl rfl ?_;refine Cov.g_off rfl rfl rfl ?_;refine Cov.q .ro (.pick_t rfl rfl) rfl ?_
      refine Cov.prune _ ?_ (Cov.same rfl rfl rfl (hb19 () trivial))
      exact ⟨dor_t c18, rfl, trivial⟩
     ·refine Cov.g_on rfl ?_
      refine Cov.q .ro (.fieldAddr 1 rfl fl259_1 ty3.sz rfl) rfl ?_;refine Cov.g_on rfl ?_;refine Cov.q .ro (.load_own 0 rfl rfl ty3 rfl) rfl ?_;refine Cov.g_on rfl ?_;refine Cov.q .ro (.lss rfl rfl) rfl ?_;refine Cov.q .ro (.pick_f rfl rfl) rfl ?_
      refine Cov.prune _ ?_ (Cov.same rfl rfl rfl (hb19 () trivial))
      exact ⟨dor_f c18, rfl, trivial⟩
   ·intro hb15
    refine Cov.split 19 rfl (fun c14 => ?_) (fun c14 => ?_)
    ·refine Cov.g_off rfl rfl rfl ?_
     refine Cov.g_off rfl rfl rfl ?_;refine Cov.g_off rfl rfl rfl ?_;refine Cov.g_off rfl rfl rfl ?_;refine Cov.g_off rfl rfl rfl ?_;refine Cov.q .ro (.pick_t rfl rfl) rfl ?_
     refine Cov.prune _ ?_ (Cov.same rfl rfl rfl (hb15 () trivial))
     exact ⟨dor_t c14, rfl, trivial⟩
    ·refine Cov.g_on rfl ?_
     refine Cov.q .ro (.fieldAddr 0 rfl fl259_0 ty3.sz rfl) rfl ?_;refine Cov.g_on rfl ?_;refine Cov.q .ro (.load_own 0 rfl rfl ty3 rfl) rfl ?_;refine Cov.g_on rfl ?_;refine Cov.q .ro (.fieldAddr 0 rfl fl49_0 ty3.sz rfl) rfl ?_;refine Cov.g_on rfl ?_;refine Cov.q .ro (.load_own 1 rfl rfl ty3 rfl) rfl ?_;refine Cov.g_on rfl ?_;refine Cov.q .ro (.geq rfl rfl) rfl ?_
     refine Cov.q .ro (.pick_f rfl rfl) rfl ?_
     refine Cov.prune _ ?_ (Cov.same rfl rfl rfl (hb15 () trivial))
     exact ⟨dor_f c14, rfl, trivial⟩
  ·intro hb11
   refine Cov.split 14 rfl (fun c10 => ?_) (fun c10 => ?_)
   ·refine Cov.g_off rfl rfl rfl ?_
    refine Cov.g_off rfl rfl rfl ?_;refine Cov.g_off rfl rfl rfl ?_;refine Cov.q .ro (.pick_t rfl rfl) rfl ?_
    refine Cov.prune _ ?_ (Cov.same rfl rfl rfl (hb11 () trivial))
    exact ⟨dor_t c10, rfl, rfl, trivial⟩
   ·refine Cov.g_on rfl ?_
    refine Cov.q .ro (.fieldAddr 0 rfl fl259_0 ty3.sz rfl) rfl ?_;refine Cov.g_on rfl ?_;refine Cov.q .ro (.load_own 0 rfl rfl ty3 rfl) rfl ?_;refine Cov.g_on rfl ?_;refine Cov.q .ro (.gtr rfl rfl) rfl ?_;refine Cov.q .ro (.pick_f rfl rfl) rfl ?_
    refine Cov.prune _ ?_ (Cov.same rfl rfl rfl (hb11 () trivial))
    exact ⟨dor_f c10, rfl, rfl, trivial⟩
set_option maxHeartbeats 4000000 in
set_option maxRecDepth 100000 in
theorem ref17_Limits_c {Fs : List Hp} {G : Hp} {x0_0 : Int} {x1_0 : Int} {x1_1 : Int} {x2 : Int} {r : ((List Int) × Int)} (hG : G ∈ Fs)  (h : ref17_Limits x0_0 (x1_0, x1_1) x2 = some r) : RetS Tryz.prog 150 #[.agg #[.int .i64 x0_0], .agg #[.int .i64 x1_0, .int .i64 x1_1], .int .i64 x2] Fs [] [] (fun v bo so => ∃ (oa0 : Option Addr) (ok0 : Nat) (oc0 : List Value), v = .tuple #[.slice oa0 r.1.length ok0, .int .i64 r.2] ∧ bo = [] ∧ so = [.s (.slice oa0 r.1.length ok0) 3 1 r.1.length oc0] ∧ OL (Rep.int .i64) G oc0 r.1) := by
 unfold ref17_Limits at h
 try dsimp only at h
 refine RetS.of (vs := [_, _, _]) Tryz.func150 rfl Tryz.ntmps150 [(0, _), (1, _), (2, _)] ⟨rfl, rfl, rfl, trivial⟩ rfl hG fun w0 S0 hS0 B0 => ?_
 refine Cov.seq ?_;refine Cov.region rfl ?_
 refine Cov.box [_] .ro rfl rfl rfl (fun b1 hb1 => ?_)
 refine Cov.box [_, _] .ro rfl rfl rfl (fun b2 hb2 => ?_)
 refine Cov.q .ro (.assign rfl) rfl ?_;refine Cov.q .ro (.assign rfl) rfl ?_;refine Cov.region_end ?_;refine Cov.seq ?_;refine Cov.seq ?_;refine Cov.region rfl ?_;refine Cov.q .ro (.load_own_a 1 [_] rfl rfl ty49 rfl) rfl ?_;refine Cov.q .ro (.load_own_a 0 [_, _] rfl rfl ty259 rfl) rfl ?_
 obtain ⟨u3, hu3, r4⟩ := bind_some h; clear h
 refine Cov.callS (b1 := []) (b2 := [_, _]) (s1 := []) [_, _] [] .ro rfl rfl Tryz.call177 rfl rfl (ref17_Check_c (G := G) List.mem_cons_self  hu3) rfl (fun v6 bo so h5 => ?_)
 obtain ⟨rfl, rfl, rfl⟩ := h5
 refine Cov.same (bl' := [_, _]) (sl' := []) rfl rfl rfl ?_;refine Cov.q .ro (.assign rfl) rfl ?_;refine Cov.region_end ?_;refine Cov.seq ?_;refine Cov.region rfl ?_;refine Cov.q .ro (.move rfl) rfl ?_;refine Cov.q .ro (.neq rfl rfl) rfl ?_;refine Cov.region_end ?_
 refine Cov.cond_dec rfl (fun c7 => ?_) (fun c7 => ?_)
 ·have r8 := ifT r4 c7; clear r4
  refine Cov.seq ?_;refine Cov.region rfl ?_;refine Cov.q .ro (.move rfl) rfl ?_;refine Cov.q .ro (.assign rfl) rfl ?_;refine Cov.q .ro (.assign rfl) rfl ?_;refine Cov.region_end ?_;refine Cov.own_nil 3 1 ?_
  cases r8
  refine Cov.drop 2 0 [] _ rfl rfl ?_
  refine Cov.retS (c := ⟨150, none⟩) (.inr ⟨_, rfl⟩) [.tmp 6, .tmp 7] [_, _] rfl Tryz.func150 Tryz.results150 ⟨RV.tmp rfl, RV.tmp rfl, trivial⟩ (fun _ h => List.mem_cons_of_mem _ h) ⟨none, 0, [], rfl, rfl, rfl, (OL.nil (Rp' := (Rep.int .i64)))⟩
 ·have r10 := ifF r4 c7; clear r4
  refine Cov.skip ?_;refine Cov.seq ?_;refine Cov.seq ?_;refine Cov.region rfl ?_;refine Cov.q .ro (.move rfl) rfl ?_;refine Cov.q .ro (.lss rfl rfl) rfl ?_;refine Cov.q .ro (.move rfl) rfl ?_;refine Cov.cutR 3 (β := Unit) (fun y => [(21, .bool (decide ((x2 < 1) ∨ (1024 < x2))))]) [(2, _), (3, _), (4, _)] (fun y => G :: Fs) (fun y => []) [_, _] (fun y => []) [] (fun y => True) ⟨rfl, rfl, rfl, trivial⟩ [0, 1] rfl [] rfl ?_ ?_
  ·rintro _ _
   refine Cov.prune [(21, .bool (decide ((x2 < 1) ∨ (1024 < x2)))), (2, _), (3, _), (4, _)] ⟨rfl, rfl, rfl, rfl, trivial⟩ ?_;refine Cov.same (bl' := [_, _]) (sl' := []) (Fs' := G :: Fs) rfl rfl rfl ?_;refine Cov.region_end ?_
   refine Cov.cond_dec rfl (fun c15 => ?_) (fun c15 => ?_)
   ·have r16 := ifT r10 c15; clear r10
    refine Cov.seq ?_;refine Cov.region rfl ?_;refine Cov.q .ro (.assign rfl) rfl ?_;refine Cov.q .ro (.assign rfl) rfl ?_;refine Cov.region_end ?_;refine Cov.own_nil 3 1 ?_
    cases r16
    refine Cov.drop 2 0 [] _ rfl rfl ?_
    refine Cov.retS (c := ⟨150, none⟩) (.inr ⟨_, rfl⟩) [.tmp 6, .tmp 7] [_, _] rfl Tryz.func150 Tryz.results150 ⟨RV.tmp rfl, RV.tmp rfl, trivial⟩ (fun _ h => List.mem_cons_of_mem _ h) ⟨none, 0, [], rfl, rfl, rfl, (OL.nil (Rp' := (Rep.int .i64)))⟩
   ·have r18 := ifF r10 c15; clear r10
    refine Cov.skip ?_;refine Cov.seq ?_;refine Cov.region rfl ?_;refine Cov.q .ro (.assign rfl) rfl ?_;refine Cov.region_end ?_;refine Cov.seq ?_;refine Cov.seq ?_;refine Cov.region rfl ?_;refine Cov.q .ro (.move rfl) rfl ?_
    refine Cov.q .ro (.fieldAddr 1 rfl fl259_1 ty3.sz rfl) rfl ?_;refine Cov.q .ro (.load_own 0 rfl rfl ty3 rfl) rfl ?_;refine Cov.q .ro (.mulw rfl rfl) rfl ?_;refine Cov.q .ro (.move rfl) rfl ?_;refine Cov.region_end ?_;refine Cov.block ?_;refine Cov.own_nil 3 1 ?_
    refine Cov.loop2 (α := Nat × List Int × Option Addr × Nat × List Value × Int) (fun y => [(9, .slice y.2.2.1 y.2.1.length y.2.2.2.1), (26, .int .i64 y.2.2.2.2.2)]) [(3, _), (25, _)] (fun y => []) (fun y => []) [_, _] (fun y => [.s (.slice y.2.2.1 y.2.1.length y.2.2.2.1) 3 1 y.2.1.length y.2.2.2.2.1]) [] (fun y => OL (Rep.int .i64) G y.2.2.2.2.1 y.2.1 ∧ ref17_Limits_L1 (w64 (x2 * x1_1)) x0_0 y.1 y.2.1 y.2.2.2.2.2 = some r) (fun y => y.1) (big, ([] : List Int), none, 0, [], 0) ⟨(OL.nil (Rp' := (Rep.int .i64))), r18⟩ ⟨rfl, rfl, rfl, rfl, trivial⟩ rfl rfl rfl (fun y hI hb71 => ?_)
    obtain ⟨n61, v63, a64, k65, cs66, v69⟩ := y
    obtain ⟨o67, r70⟩ := hI
    try dsimp only at o67 r70
    refine Cov.prune [(9, .slice a64 v63.length k65), (26, .int .i64 v69), (3, _), (25, _)] ⟨rfl, rfl, rfl, rfl, trivial⟩ ?_;refine Cov.same (bl' := [_, _]) (sl' := [.s (.slice a64 v63.length k65) 3 1 v63.length cs66]) (Fs' := G :: Fs) rfl rfl rfl ?_
    obtain ⟨m77, rfl⟩ : ∃ m, n61 = m + 1 := by cases n61 with | zero => exact absurd (show (none : Option _) = some _ from r70) (by simp) | succ m => exact ⟨m, rfl⟩
    have r76 : ref17_Limits_B1 (w64 (x2 * x1_1)) x0_0 (ref17_Limits_L1 (w64 (x2 * x1_1)) x0_0 m77) v63 v69 = some r := r70; clear r70; unfold ref17_Limits_B1 at r76; try dsimp only at r76
    refine Cov.seq ?_;refine Cov.region rfl ?_;refine Cov.q .ro (.lss rfl rfl) rfl ?_;refine Cov.region_end ?_;refine Cov.seq ?_
    refine Cov.cond_dec rfl (fun c78 => ?_) (fun c78 => ?_)
    ·have r79 := ifT r76 c78; clear r76
     refine Cov.skip ?_;refine Cov.seq ?_;refine Cov.block ?_;refine Cov.region rfl ?_;refine Cov.q .ro (.move rfl) rfl ?_;refine Cov.q .ro (.fieldAddr 0 rfl fl49_0 ty3.sz rfl) rfl ?_;refine Cov.q .ro (.load_own 1 rfl rfl ty3 rfl) rfl ?_
     refine Cov.lit [_] [(0, _)] .ro sl41 ty3 rfl rfl rfl rfl rfl rfl (fun b80 hb80 => ?_)
     have o81 : OL (Rep.int .i64) G [.int .i64 x0_0] ([x0_0] : List Int) := ((OL.cons rfl (Rep.intI .i64 x0_0) (OL.nil (Rp' := (Rep.int .i64)))) :)
     refine Cov.reval 31 (n' := ([x0_0] : List Int).length) rfl rfl ?_
     obtain ⟨u87, hu87, r88⟩ := bind_some r79; clear r79
     refine Cov.appO (Q := (Rep.int .i64)) 0 .ro sl41 ty3 rfl rfl rfl rfl rfl rfl o67 o81 rfl rfl rfl B0 hu87 rfl (fun a83 k84 cs85 o86 => ?_)
     refine Cov.q .ro (.assign rfl) rfl ?_;refine Cov.region_end ?_;refine Cov.inBlock ?_;refine Cov.region rfl ?_;refine Cov.q .ro (.addw rfl rfl) rfl ?_;refine Cov.q .ro (.move rfl) rfl ?_;refine Cov.region_end ?_
     refine Cov.prune _ ?_ (Cov.same rfl rfl rfl (hb71 (m77, u87, a83, k84, cs85, (w64 (v69 + 1))) ⟨o86, r88⟩ (Nat.lt_succ_self _)))
     exact ⟨rfl, rfl, rfl, rfl, trivial⟩
    ·have r90 := ifF r76 c78; clear r76
     refine Cov.exit rfl ?_;refine Cov.seq ?_;refine Cov.region rfl ?_;refine Cov.q .ro (.move rfl) rfl ?_;refine Cov.q .ro (.assign rfl) rfl ?_;refine Cov.q .ro (.assign rfl) rfl ?_;refine Cov.region_end ?_
     cases r90
     refine Cov.drop 2 0 [] _ rfl rfl ?_
     refine Cov.retS (c := ⟨150, none⟩) (.inr ⟨_, rfl⟩) [.tmp 6, .tmp 7] [_, _] rfl Tryz.func150 Tryz.results150 ⟨RV.tmp rfl, RV.tmp rfl, trivial⟩ (fun _ h => List.mem_cons_of_mem _ h) ⟨a64, k65, cs66, rfl, rfl, rfl, o67⟩
  ·intro hb12
   refine Cov.split 18 rfl (fun c11 => ?_) (fun c11 => ?_)
   ·refine Cov.g_off rfl rfl rfl ?_
    refine Cov.g_off rfl rfl rfl ?_;refine Cov.q .ro (.pick_t rfl rfl) rfl ?_
    refine Cov.prune _ ?_ (Cov.same rfl rfl rfl (hb12 () trivial))
    exact ⟨dor_t c11, rfl, rfl, rfl, trivial⟩
   ·refine Cov.g_on rfl ?_
    refine Cov.q .ro (.move rfl) rfl ?_;refine Cov.g_on rfl ?_;refine Cov.q .ro (.gtr rfl rfl) rfl ?_;refine Cov.q .ro (.pick_f rfl rfl) rfl ?_
    refine Cov.prune _ ?_ (Cov.same rfl rfl rfl (hb12 () trivial))
    exact ⟨dor_f c11, rfl, rfl, rfl, trivial⟩
set_option maxHeartbeats 4000000 in
set_option maxRecDepth 100000 in
theorem ref23_plan_c {Fs : List Hp} {G : Hp} {x0_0 : Int} {x0_1 : Int} {x0_2 : Int} {x0_3 : Int} {r : (Int × Int)} (hG : G ∈ Fs)  (h : ref23_plan (x0_0, x0_1, x0_2, x0_3) = some r) : RetS Tryz.prog 151 #[.agg #[.int .i64 x0_0, .int .i64 x0_1, .int .i64 x0_2, .int .i64 x0_3]] Fs [] [] (fun v bo so => v = .agg #[.int .i64 r.1, .int .i64 r.2] ∧ bo = [] ∧ so = []) := by
 unfold ref23_plan at h
 try dsimp only at h
 refine RetS.of (vs := [_]) Tryz.func151 rfl Tryz.ntmps151 [(0, _)] ⟨rfl, trivial⟩ rfl hG fun w0 S0 hS0 B0 => ?_
 refine Cov.seq ?_;refine Cov.region rfl ?_
 refine Cov.box [_, _, _, _] .ro rfl rfl rfl (fun b1 hb1 => ?_)
 refine Cov.alloc .ro ty259 rfl (fun b2 hb2 => ?_)
 refine Cov.region_end ?_;refine Cov.seq ?_;refine Cov.region rfl ?_;refine Cov.q .ro (.fieldAddr 1 rfl fl27_1 ty3.sz rfl) rfl ?_;refine Cov.q .ro (.load_own 1 rfl rfl ty3 rfl) rfl ?_;refine Cov.q .ro (.fieldAddr 2 rfl fl27_2 ty3.sz rfl) rfl ?_;refine Cov.q .ro (.load_own 1 rfl rfl ty3 rfl) rfl ?_;refine Cov.q .ro (.build [_, _] [(0, _), (1, _)] ty259 pl259 rfl rfl) rfl ?_;refine Cov.store 0 [_, _] [_, _] .ro rfl rfl rfl ty259 rfl rfl rfl rfl ?_
 refine Cov.region_end ?_
 cases h
 refine Cov.retSD 2 (c := ⟨151, none⟩) (.inr ⟨_, rfl⟩) [.cell 2 259] [_] rfl Tryz.func151 Tryz.results151 ⟨RV.cell_a 0 [_, _] rfl rfl ty259 rfl, trivial⟩ (fun _ h => List.mem_cons_of_mem _ h) ⟨rfl, rfl, rfl⟩
set_option maxHeartbeats 4000000 in
set_option maxRecDepth 100000 in
theorem ref18_Check_c {Fs : List Hp} {G : Hp} {x0_0 : Int} {x1_0 : Int} {x1_1 : Int} {x1_2 : Int} {r : Int} (hG : G ∈ Fs)  (h : ref18_Check x0_0 (x1_0, x1_1, x1_2) = some r) : RetS Tryz.prog 178 #[.agg #[.int .i64 x0_0], .agg #[.int .i64 x1_0, .int .i64 x1_1, .int .i64 x1_2]] Fs [] [] (fun v bo so => v = .int .i64 r ∧ bo = [] ∧ so = []) := by
 unfold ref18_Check at h
 try dsimp only at h
 refine RetS.of (vs := [_, _]) Tryz.func178 rfl Tryz.ntmps178 [(0, _), (1, _)] ⟨rfl, rfl, trivial⟩ rfl hG fun w0 S0 hS0 B0 => ?_
 refine Cov.seq ?_;refine Cov.region rfl ?_
 refine Cov.box [_] .ro rfl rfl rfl (fun b1 hb1 => ?_)
 refine Cov.box [_, _, _] .ro rfl rfl rfl (fun b2 hb2 => ?_)
 refine Cov.q .ro (.assign rfl) rfl ?_;refine Cov.region_end ?_;refine Cov.seq ?_;refine Cov.seq ?_;refine Cov.region rfl ?_;refine Cov.q .ro (.load_own_a 1 [_] rfl rfl ty49 rfl) rfl ?_
 obtain ⟨u3, hu3, r4⟩ := bind_some h; clear h
 refine Cov.callS (b1 := []) (b2 := [_, _]) (s1 := []) [_] [] .ro rfl rfl Tryz.call122 rfl rfl (ref03_Check_c (G := G) List.mem_cons_self  hu3) rfl (fun v6 bo so h5 => ?_)
 obtain ⟨rfl, rfl, rfl⟩ := h5
 refine Cov.same (bl' := [_, _]) (sl' := []) rfl rfl rfl ?_;refine Cov.q .ro (.assign rfl) rfl ?_;refine Cov.region_end ?_;refine Cov.seq ?_;refine Cov.region rfl ?_;refine Cov.q .ro (.move rfl) rfl ?_;refine Cov.q .ro (.neq rfl rfl) rfl ?_;refine Cov.region_end ?_
 refine Cov.cond_dec rfl (fun c7 => ?_) (fun c7 => ?_)
 ·have r8 := ifT r4 c7; clear r4
  refine Cov.seq ?_;refine Cov.region rfl ?_;refine Cov.q .ro (.move rfl) rfl ?_;refine Cov.q .ro (.assign rfl) rfl ?_;refine Cov.region_end ?_
  cases r8
  refine Cov.drop 2 0 [] _ rfl rfl ?_
  refine Cov.retS (c := ⟨178, none⟩) (.inr ⟨_, rfl⟩) [.tmp 4] [_] rfl Tryz.func178 Tryz.results178 ⟨RV.tmp rfl, trivial⟩ (fun _ h => List.mem_cons_of_mem _ h) ⟨rfl, rfl, rfl⟩
 ·have r9 := ifF r4 c7; clear r4
  refine Cov.skip ?_;refine Cov.seq ?_;refine Cov.seq ?_;refine Cov.region rfl ?_;refine Cov.q .ro (.fieldAddr 0 rfl fl263_0 ty3.sz rfl) rfl ?_;refine Cov.q .ro (.load_own 0 rfl rfl ty3 rfl) rfl ?_;refine Cov.q .ro (.lss rfl rfl) rfl ?_;refine Cov.q .ro (.move rfl) rfl ?_;refine Cov.cutR 4 (β := Unit) (fun y => [(18, .bool (decide ((x1_0 < 2) ∨ (10 < x1_0))))]) [(2, _), (3, _)] (fun y => G :: Fs) (fun y => []) [_, _] (fun y => []) [] (fun y => True) ⟨rfl, rfl, trivial⟩ [0, 1] rfl [] rfl ?_ ?_
  ·rintro _ _
   refine Cov.prune [(18, .bool (decide ((x1_0 < 2) ∨ (10 < x1_0)))), (2, _), (3, _)] ⟨rfl, rfl, rfl, trivial⟩ ?_;refine Cov.same (bl' := [_, _]) (sl' := []) (Fs' := G :: Fs) rfl rfl rfl ?_;refine Cov.q .ro (.move rfl) rfl ?_;refine Cov.cutR 6 (β := Unit) (fun y => [(25, .bool (decide (((x1_0 < 2) ∨ (10 < x1_0)) ∨ (x0_0 ≤ x1_0))))]) [(3, _)] (fun y => G :: Fs) (fun y => []) [_, _] (fun y => []) [] (fun y => True) ⟨rfl, trivial⟩ [0, 1] rfl [] rfl ?_ ?_
   ·rintro _ _
    refine Cov.prune [(25, .bool (decide (((x1_0 < 2) ∨ (10 < x1_0)) ∨ (x0_0 ≤ x1_0)))), (3, _)] ⟨rfl, rfl, trivial⟩ ?_;refine Cov.same (bl' := [_, _]) (sl' := []) (Fs' := G :: Fs) rfl rfl rfl ?_;refine Cov.q .ro (.move rfl) rfl ?_;refine Cov.cutR 4 (β := Unit) (fun y => [(30, .bool (decide ((((x1_0 < 2) ∨ (10 < x1_0)) ∨ (x0_0 ≤ x1_0)) ∨ (x1_1 < 1))))]) [(3, _)] (fun y => G :: Fs) (fun y => []) [_, _] (fun y => []) [] (fun y => True) ⟨rfl, trivial⟩ [0, 1] rfl [] rfl ?_ ?_
    ·rintro _ _
     refine Cov.prune [(30, .bool (decide ((((x1_0 < 2) ∨ (10 < x1_0)) ∨ (x0_0 ≤ x1_0)) ∨ (x1_1 < 1)))), (3, _)] ⟨rfl, rfl, trivial⟩ ?_;refine Cov.same (bl' := [_, _]) (sl' := []) (Fs' := G :: Fs) rfl rfl rfl ?_;refine Cov.q .ro (.move rfl) rfl ?_;refine Cov.cutR 6 (β := Unit) (fun y => [(37, .bool (decide (((((x1_0 < 2) ∨ (10 < x1_0)) ∨ (x0_0 ≤ x1_0)) ∨ (x1_1 < 1)) ∨ (x1_0 < x1_1))))]) [(3, _)] (fun y => G :: Fs) (fun y => []) [_, _] (fun y => []) [] (fun y => True) ⟨rfl, trivial⟩ [0, 1] rfl [] rfl ?_ ?_
     ·rintro _ _
      refine Cov.prune [(37, .bool (decide (((((x1_0 < 2) ∨ (10 < x1_0)) ∨ (x0_0 ≤ x1_0)) ∨ (x1_1 < 1)) ∨ (x1_0 < x1_1)))), (3, _)] ⟨rfl, rfl, trivial⟩ ?_;refine Cov.same (bl' := [_, _]) (sl' := []) (Fs' := G :: Fs) rfl rfl rfl ?_;refine Cov.q .ro (.move rfl) rfl ?_;refine Cov.cutR 4 (β := Unit) (fun y => [(42, .bool (decide ((((((x1_0 < 2) ∨ (10 < x1_0)) ∨ (x0_0 ≤ x1_0)) ∨ (x1_1 < 1)) ∨ (x1_0 < x1_1)) ∨ (x1_2 < 1))))]) [(3, _)] (fun y => G :: Fs) (fun y => []) [_, _] (fun y => []) [] (fun y => True) ⟨rfl, trivial⟩ [0, 1] rfl [] rfl ?_ ?_
      ·rintro _ _
       refine Cov.prune [(42, .bool (decide ((((((x1_0 < 2) ∨ (10 < x1_0)) ∨ (x0_0 ≤ x1_0)) ∨ (x1_1 < 1)) ∨ (x1_0 < x1_1)) ∨ (x1_2 < 1)))), (3, _)] ⟨rfl, rfl, trivial⟩ ?_;refine Cov.same (bl' := [_, _]) (sl' := []) (Fs' := G :: Fs) rfl rfl rfl ?_;refine Cov.q .ro (.move rfl) rfl ?_;refine Cov.cutR 6 (β := Unit) (fun y => [(49, .bool (decide (((((((x1_0 < 2) ∨ (10 < x1_0)) ∨ (x0_0 ≤ x1_0)) ∨ (x1_1 < 1)) ∨ (x1_0 < x1_1)) ∨ (x1_2 < 1)) ∨ (x1_0 < x1_2))))]) [(3, _)] (fun y => G :: Fs) (fun y => []) [_, _] (fun y => []) [] (fun y => True) ⟨rfl, trivial⟩ [0, 1] rfl [] rfl ?_ ?_
       ·rintro _ _
        refine Cov.prune [(49, .bool (decide (((((((x1_0 < 2) ∨ (10 < x1_0)) ∨ (x0_0 ≤ x1_0)) ∨ (x1_1 < 1)) ∨ (x1_0 < x1_1)) ∨ (x1_2 < 1)) ∨ (x1_0 < x1_2)))), (3, _)] ⟨rfl, rfl, trivial⟩ ?_;refine Cov.same (bl' := [_, _]) (sl' := []) (Fs' := G :: Fs) rfl rfl rfl ?_;refine Cov.q .ro (.move rfl) rfl ?_;refine Cov.cutR 11 (β := Unit) (fun y => [(61, .bool (decide ((((((((x1_0 < 2) ∨ (10 < x1_0)) ∨ (x0_0 ≤ x1_0)) ∨ (x1_1 < 1)) ∨ (x1_0 < x1_1)) ∨ (x1_2 < 1)) ∨ (x1_0 < x1_2)) ∨ (x1_0 < (w64 ((w64 ((w64 (2 * x1_2)) + x1_1)) - 1))))))]) [] (fun y => G :: Fs) (fun y => []) [_, _] (fun y => []) [] (fun y => True) trivial [0, 1] rfl [] rfl ?_ ?_
        ·rintro _ _
         refine Cov.prune [(61, .bool (decide ((((((((x1_0 < 2) ∨ (10 < x1_0)) ∨ (x0_0 ≤ x1_0)) ∨ (x1_1 < 1)) ∨ (x1_0 < x1_1)) ∨ (x1_2 < 1)) ∨ (x1_0 < x1_2)) ∨ (x1_0 < (w64 ((w64 ((w64 (2 * x1_2)) + x1_1)) - 1))))))] ⟨rfl, trivial⟩ ?_;refine Cov.same (bl' := [_, _]) (sl' := []) (Fs' := G :: Fs) rfl rfl rfl ?_;refine Cov.region_end ?_
         refine Cov.cond_dec rfl (fun c38 => ?_) (fun c38 => ?_)
         ·have r39 := ifT r9 c38; clear r9
          refine Cov.seq ?_;refine Cov.region rfl ?_;refine Cov.q .ro (.assign rfl) rfl ?_;refine Cov.region_end ?_
          cases r39
          refine Cov.drop 2 0 [] _ rfl rfl ?_
          refine Cov.retS (c := ⟨178, none⟩) (.inr ⟨_, rfl⟩) [.tmp 4] [_] rfl Tryz.func178 Tryz.results178 ⟨RV.tmp rfl, trivial⟩ (fun _ h => List.mem_cons_of_mem _ h) ⟨rfl, rfl, rfl⟩
         ·have r40 := ifF r9 c38; clear r9
          refine Cov.skip ?_;refine Cov.seq ?_;refine Cov.region rfl ?_;refine Cov.q .ro (.assign rfl) rfl ?_;refine Cov.region_end ?_
          cases r40
          refine Cov.drop 2 0 [] _ rfl rfl ?_
          refine Cov.retS (c := ⟨178, none⟩) (.inr ⟨_, rfl⟩) [.tmp 4] [_] rfl Tryz.func178 Tryz.results178 ⟨RV.tmp rfl, trivial⟩ (fun _ h => List.mem_cons_of_mem _ h) ⟨rfl, rfl, rfl⟩
        ·intro hb35
         refine Cov.split 50 rfl (fun c34 => ?_) (fun c34 => ?_)
         ·refine Cov.g_off rfl rfl rfl ?_
          refine Cov.g_off rfl rfl rfl ?_;refine Cov.g_off rfl rfl rfl ?_;refine Cov.g_off rfl rfl rfl ?_;refine Cov.g_off rfl rfl rfl ?_;refine Cov.g_off rfl rfl rfl ?_;refine Cov.g_off rfl rfl rfl ?_;refine Cov.g_off rfl rfl rfl ?_;refine Cov.g_off rfl rfl rfl ?_;refine Cov.g_off rfl rfl rfl ?_
          refine Cov.q .ro (.pick_t rfl rfl) rfl ?_
          refine Cov.prune _ ?_ (Cov.same rfl rfl rfl (hb35 () trivial))
          exact ⟨dor_t c34, trivial⟩
         ·refine Cov.g_on rfl ?_
          refine Cov.q .ro (.fieldAddr 2 rfl fl263_2 ty3.sz rfl) rfl ?_;refine Cov.g_on rfl ?_;refine Cov.q .ro (.load_own 0 rfl rfl ty3 rfl) rfl ?_;refine Cov.g_on rfl ?_;refine Cov.q .ro (.mulw rfl rfl) rfl ?_;refine Cov.g_on rfl ?_;refine Cov.q .ro (.fieldAddr 1 rfl fl263_1 ty3.sz rfl) rfl ?_;refine Cov.g_on rfl ?_;refine Cov.q .ro (.load_own 0 rfl rfl ty3 rfl) rfl ?_
          refine Cov.g_on rfl ?_;refine Cov.q .ro (.addw rfl rfl) rfl ?_;refine Cov.g_on rfl ?_;refine Cov.q .ro (.subw rfl rfl) rfl ?_;refine Cov.g_on rfl ?_;refine Cov.q .ro (.fieldAddr 0 rfl fl263_0 ty3.sz rfl) rfl ?_;refine Cov.g_on rfl ?_;refine Cov.q .ro (.load_own 0 rfl rfl ty3 rfl) rfl ?_;refine Cov.g_on rfl ?_
          refine Cov.q .ro (.gtr rfl rfl) rfl ?_;refine Cov.q .ro (.pick_f rfl rfl) rfl ?_
          refine Cov.prune _ ?_ (Cov.same rfl rfl rfl (hb35 () trivial))
          exact ⟨dor_f c34, trivial⟩
       ·intro hb31
        refine Cov.split 43 rfl (fun c30 => ?_) (fun c30 => ?_)
        ·refine Cov.g_off rfl rfl rfl ?_
         refine Cov.g_off rfl rfl rfl ?_;refine Cov.g_off rfl rfl rfl ?_;refine Cov.g_off rfl rfl rfl ?_;refine Cov.g_off rfl rfl rfl ?_;refine Cov.q .ro (.pick_t rfl rfl) rfl ?_
         refine Cov.prune _ ?_ (Cov.same rfl rfl rfl (hb31 () trivial))
         exact ⟨dor_t c30, rfl, trivial⟩
        ·refine Cov.g_on rfl ?_
         refine Cov.q .ro (.fieldAddr 2 rfl fl263_2 ty3.sz rfl) rfl ?_;refine Cov.g_on rfl ?_;refine Cov.q .ro (.load_own 0 rfl rfl ty3 rfl) rfl ?_;refine Cov.g_on rfl ?_;refine Cov.q .ro (.fieldAddr 0 rfl fl263_0 ty3.sz rfl) rfl ?_;refine Cov.g_on rfl ?_;refine Cov.q .ro (.load_own 0 rfl rfl ty3 rfl) rfl ?_;refine Cov.g_on rfl ?_;refine Cov.q .ro (.gtr rfl rfl) rfl ?_
         refine Cov.q .ro (.pick_f rfl rfl) rfl ?_
         refine Cov.prune _ ?_ (Cov.same rfl rfl rfl (hb31 () trivial))
         exact ⟨dor_f c30, rfl, trivial⟩
      ·intro hb27
       refine Cov.split 38 rfl (fun c26 => ?_) (fun c26 => ?_)
       ·refine Cov.g_off rfl rfl rfl ?_
        refine Cov.g_off rfl rfl rfl ?_;refine Cov.g_off rfl rfl rfl ?_;refine Cov.q .ro (.pick_t rfl rfl) rfl ?_
        refine Cov.prune _ ?_ (Cov.same rfl rfl rfl (hb27 () trivial))
        exact ⟨dor_t c26, rfl, trivial⟩
       ·refine Cov.g_on rfl ?_
        refine Cov.q .ro (.fieldAddr 2 rfl fl263_2 ty3.sz rfl) rfl ?_;refine Cov.g_on rfl ?_;refine Cov.q .ro (.load_own 0 rfl rfl ty3 rfl) rfl ?_;refine Cov.g_on rfl ?_;refine Cov.q .ro (.lss rfl rfl) rfl ?_;refine Cov.q .ro (.pick_f rfl rfl) rfl ?_
        refine Cov.prune _ ?_ (Cov.same rfl rfl rfl (hb27 () trivial))
        exact ⟨dor_f c26, rfl, trivial⟩
     ·intro hb23
      refine Cov.split 31 rfl (fun c22 => ?_) (fun c22 => ?_)
      ·refine Cov.g_off rfl rfl rfl ?_
       refine Cov.g_off rfl rfl rfl ?_;refine Cov.g_off rfl rfl rfl ?_;refine Cov.g_off rfl rfl rfl ?_;refine Cov.g_off rfl rfl rfl ?_;refine Cov.q .ro (.pick_t rfl rfl) rfl ?_
       refine Cov.prune _ ?_ (Cov.same rfl rfl rfl (hb23 () trivial))
       exact ⟨dor_t c22, rfl, trivial⟩
      ·refine Cov.g_on rfl ?_
       refine Cov.q .ro (.fieldAddr 1 rfl fl263_1 ty3.sz rfl) rfl ?_;refine Cov.g_on rfl ?_;refine Cov.q .ro (.load_own 0 rfl rfl ty3 rfl) rfl ?_;refine Cov.g_on rfl ?_;refine Cov.q .ro (.fieldAddr 0 rfl fl263_0 ty3.sz rfl) rfl ?_;refine Cov.g_on rfl ?_;refine Cov.q .ro (.load_own 0 rfl rfl ty3 rfl) rfl ?_;refine Cov.g_on rfl ?_;refine Cov.q .ro (.gtr rfl rfl) rfl ?_
       refine Cov.q .ro (.pick_f rfl rfl) rfl ?_
       refine Cov.prune _ ?_ (Cov.same rfl rfl rfl (hb23 () trivial))
       exact ⟨dor_f c22, rfl, trivial⟩
    ·intro hb19
     refine Cov.split 26 rfl (fun c18 => ?_) (fun c18 => ?_)
     ·refine Cov.g_off rfl rfl rfl ?_
      refine Cov.g_off rfl rfl rfl ?_;refine Cov.g_off rfl rfl rfl ?_;refine Cov.q .ro (.pick_t rfl rfl) rfl ?_
      refine Cov.prune _ ?_ (Cov.same rfl rfl rfl (hb19 () trivial))
      exact ⟨dor_t c18, rfl, trivial⟩
     ·refine Cov.g_on rfl ?_
      refine Cov.q .ro (.fieldAddr 1 rfl fl263_1 ty3.sz rfl) rfl ?_;refine Cov.g_on rfl ?_;refine Cov.q .ro (.load_own 0 rfl rfl ty3 rfl) rfl ?_;refine Cov.g_on rfl ?_;refine Cov.q .ro (.lss rfl rfl) rfl ?_;refine Cov.q .ro (.pick_f rfl rfl) rfl ?_
      refine Cov.prune _ ?_ (Cov.same rfl rfl rfl (hb19 () trivial))
      exact ⟨dor_f c18, rfl, trivial⟩
   ·intro hb15
    refine Cov.split 19 rfl (fun c14 => ?_) (fun c14 => ?_)
    ·refine Cov.g_off rfl rfl rfl ?_
     refine Cov.g_off rfl rfl rfl ?_;refine Cov.g_off rfl rfl rfl ?_;refine Cov.g_off rfl rfl rfl ?_;refine Cov.g_off rfl rfl rfl ?_;refine Cov.q .ro (.pick_t rfl rfl) rfl ?_
     refine Cov.prune _ ?_ (Cov.same rfl rfl rfl (hb15 () trivial))
     exact ⟨dor_t c14, rfl, trivial⟩
    ·refine Cov.g_on rfl ?_
     refine Cov.q .ro (.fieldAddr 0 rfl fl263_0 ty3.sz rfl) rfl ?_;refine Cov.g_on rfl ?_;refine Cov.q .ro (.load_own 0 rfl rfl ty3 rfl) rfl ?_;refine Cov.g_on rfl ?_;refine Cov.q .ro (.fieldAddr 0 rfl fl49_0 ty3.sz rfl) rfl ?_;refine Cov.g_on rfl ?_;refine Cov.q .ro (.load_own 1 rfl rfl ty3 rfl) rfl ?_;refine Cov.g_on rfl ?_;refine Cov.q .ro (.geq rfl rfl) rfl ?_
     refine Cov.q .ro (.pick_f rfl rfl) rfl ?_
     refine Cov.prune _ ?_ (Cov.same rfl rfl rfl (hb15 () trivial))
     exact ⟨dor_f c14, rfl, trivial⟩
  ·intro hb11
   refine Cov.split 14 rfl (fun c10 => ?_) (fun c10 => ?_)
   ·refine Cov.g_off rfl rfl rfl ?_
    refine Cov.g_off rfl rfl rfl ?_;refine Cov.g_off rfl rfl rfl ?_;refine Cov.q .ro (.pick_t rfl rfl) rfl ?_
    refine Cov.prune _ ?_ (Cov.same rfl rfl rfl (hb11 () trivial))
    exact ⟨dor_t c10, rfl, rfl, trivial⟩
   ·refine Cov.g_on rfl ?_
    refine Cov.q .ro (.fieldAddr 0 rfl fl263_0 ty3.sz rfl) rfl ?_;refine Cov.g_on rfl ?_;refine Cov.q .ro (.load_own 0 rfl rfl ty3 rfl) rfl ?_;refine Cov.g_on rfl ?_;refine Cov.q .ro (.gtr rfl rfl) rfl ?_;refine Cov.q .ro (.pick_f rfl rfl) rfl ?_
    refine Cov.prune _ ?_ (Cov.same rfl rfl rfl (hb11 () trivial))
    exact ⟨dor_f c10, rfl, rfl, trivial⟩
set_option maxHeartbeats 4000000 in
set_option maxRecDepth 100000 in
theorem ref18_Limits_c {Fs : List Hp} {G : Hp} {x0_0 : Int} {x1_0 : Int} {x1_1 : Int} {x1_2 : Int} {x2 : Int} {r : ((List Int) × Int)} (hG : G ∈ Fs)  (h : ref18_Limits x0_0 (x1_0, x1_1, x1_2) x2 = some r) : RetS Tryz.prog 152 #[.agg #[.int .i64 x0_0], .agg #[.int .i64 x1_0, .int .i64 x1_1, .int .i64 x1_2], .int .i64 x2] Fs [] [] (fun v bo so => ∃ (oa0 : Option Addr) (ok0 : Nat) (oc0 : List Value), v = .tuple #[.slice oa0 r.1.length ok0, .int .i64 r.2] ∧ bo = [] ∧ so = [.s (.slice oa0 r.1.length ok0) 3 1 r.1.length oc0] ∧ OL (Rep.int .i64) G oc0 r.1) := by
 unfold ref18_Limits at h
 try dsimp only at h
 refine RetS.of (vs := [_, _, _]) Tryz.func152 rfl Tryz.ntmps152 [(0, _), (1, _), (2, _)] ⟨rfl, rfl, rfl, trivial⟩ rfl hG fun w0 S0 hS0 B0 => ?_
 refine Cov.seq ?_;refine Cov.region rfl ?_
 refine Cov.box [_] .ro rfl rfl rfl (fun b1 hb1 => ?_)
 refine Cov.box [_, _, _] .ro rfl rfl rfl (fun b2 hb2 => ?_)
 refine Cov.q .ro (.assign rfl) rfl ?_;refine Cov.q .ro (.assign rfl) rfl ?_;refine Cov.region_end ?_;refine Cov.seq ?_;refine Cov.seq ?_;refine Cov.region rfl ?_;refine Cov.q .ro (.load_own_a 1 [_] rfl rfl ty49 rfl) rfl ?_;refine Cov.q .ro (.load_own_a 0 [_, _, _] rfl rfl ty263 rfl) rfl ?_
 obtain ⟨u3, hu3, r4⟩ := bind_some h; clear h
 refine Cov.callS (b1 := []) (b2 := [_, _]) (s1 := []) [_, _] [] .ro rfl rfl Tryz.call178 rfl rfl (ref18_Check_c (G := G) List.mem_cons_self  hu3) rfl (fun v6 bo so h5 => ?_)
 obtain ⟨rfl, rfl, rfl⟩ := h5
 refine Cov.same (bl' := [_, _]) (sl' := []) rfl rfl rfl ?_;refine Cov.q .ro (.assign rfl) rfl ?_;refine Cov.region_end ?_;refine Cov.seq ?_;refine Cov.region rfl ?_;refine Cov.q .ro (.move rfl) rfl ?_;refine Cov.q .ro (.neq rfl rfl) rfl ?_;refine Cov.region_end ?_
 refine Cov.cond_dec rfl (fun c7 => ?_) (fun c7 => ?_)
 ·have r8 := ifT r4 c7; clear r4
  refine Cov.seq ?_;refine Cov.region rfl ?_;refine Cov.q .ro (.move rfl) rfl ?_;refine Cov.q .ro (.assign rfl) rfl ?_;refine Cov.q .ro (.assign rfl) rfl ?_;refine Cov.region_end ?_;refine Cov.own_nil 3 1 ?_
  cases r8
  refine Cov.drop 2 0 [] _ rfl rfl ?_
  refine Cov.retS (c := ⟨152, none⟩) (.inr ⟨_, rfl⟩) [.tmp 6, .tmp 7] [_, _] rfl Tryz.func152 Tryz.results152 ⟨RV.tmp rfl, RV.tmp rfl, trivial⟩ (fun _ h => List.mem_cons_of_mem _ h) ⟨none, 0, [], rfl, rfl, rfl, (OL.nil (Rp' := (Rep.int .i64)))⟩
 ·have r10 := ifF r4 c7; clear r4
  refine Cov.skip ?_;refine Cov.seq ?_;refine Cov.seq ?_;refine Cov.region rfl ?_;refine Cov.q .ro (.move rfl) rfl ?_;refine Cov.q .ro (.lss rfl rfl) rfl ?_;refine Cov.q .ro (.move rfl) rfl ?_;refine Cov.cutR 3 (β := Unit) (fun y => [(21, .bool (decide ((x2 < 1) ∨ (1024 < x2))))]) [(2, _), (3, _), (4, _)] (fun y => G :: Fs) (fun y => []) [_, _] (fun y => []) [] (fun y => True) ⟨rfl, rfl, rfl, trivial⟩ [0, 1] rfl [] rfl ?_ ?_
  ·rintro _ _
   refine Cov.prune [(21, .bool (decide ((x2 < 1) ∨ (1024 < x2)))), (2, _), (3, _), (4, _)] ⟨rfl, rfl, rfl, rfl, trivial⟩ ?_;refine Cov.same (bl' := [_, _]) (sl' := []) (Fs' := G :: Fs) rfl rfl rfl ?_;refine Cov.region_end ?_
   refine Cov.cond_dec rfl (fun c15 => ?_) (fun c15 => ?_)
   ·have r16 := ifT r10 c15; clear r10
    refine Cov.seq ?_;refine Cov.region rfl ?_;refine Cov.q .ro (.assign rfl) rfl ?_;refine Cov.q .ro (.assign rfl) rfl ?_;refine Cov.region_end ?_;refine Cov.own_nil 3 1 ?_
    cases r16
    refine Cov.drop 2 0 [] _ rfl rfl ?_
    refine Cov.retS (c := ⟨152, none⟩) (.inr ⟨_, rfl⟩) [.tmp 6, .tmp 7] [_, _] rfl Tryz.func152 Tryz.results152 ⟨RV.tmp rfl, RV.tmp rfl, trivial⟩ (fun _ h => List.mem_cons_of_mem _ h) ⟨none, 0, [], rfl, rfl, rfl, (OL.nil (Rp' := (Rep.int .i64)))⟩
   ·have r18 := ifF r10 c15; clear r10
    refine Cov.skip ?_;refine Cov.seq ?_;refine Cov.region rfl ?_;refine Cov.q .ro (.assign rfl) rfl ?_;refine Cov.region_end ?_;refine Cov.seq ?_;refine Cov.seq ?_;refine Cov.region rfl ?_;refine Cov.q .ro (.move rfl) rfl ?_
    refine Cov.q .ro (.fieldAddr 1 rfl fl263_1 ty3.sz rfl) rfl ?_;refine Cov.q .ro (.load_own 0 rfl rfl ty3 rfl) rfl ?_;refine Cov.q .ro (.mulw rfl rfl) rfl ?_;refine Cov.q .ro (.move rfl) rfl ?_;refine Cov.region_end ?_;refine Cov.block ?_;refine Cov.own_nil 3 1 ?_
    refine Cov.loop2 (α := Nat × List Int × Option Addr × Nat × List Value × Int) (fun y => [(9, .slice y.2.2.1 y.2.1.length y.2.2.2.1), (26, .int .i64 y.2.2.2.2.2)]) [(3, _), (25, _)] (fun y => []) (fun y => []) [_, _] (fun y => [.s (.slice y.2.2.1 y.2.1.length y.2.2.2.1) 3 1 y.2.1.length y.2.2.2.2.1]) [] (fun y => OL (Rep.int .i64) G y.2.2.2.2.1 y.2.1 ∧ ref18_Limits_L1 (w64 (x2 * x1_1)) x0_0 y.1 y.2.1 y.2.2.2.2.2 = some r) (fun y => y.1) (big, ([] : List Int), none, 0, [], 0) ⟨(OL.nil (Rp' := (Rep.int .i64))), r18⟩ ⟨rfl, rfl, rfl, rfl, trivial⟩ rfl rfl rfl (fun y hI hb73 => ?_)
    obtain ⟨n63, v65, a66, k67, cs68, v71⟩ := y
    obtain ⟨o69, r72⟩ := hI
    try dsimp only at o69 r72
    refine Cov.prune [(9, .slice a66 v65.length k67), (26, .int .i64 v71), (3, _), (25, _)] ⟨rfl, rfl, rfl, rfl, trivial⟩ ?_;refine Cov.same (bl' := [_, _]) (sl' := [.s (.slice a66 v65.length k67) 3 1 v65.length cs68]) (Fs' := G :: Fs) rfl rfl rfl ?_
    obtain ⟨m80, rfl⟩ : ∃ m, n63 = m + 1 := by cases n63 with | zero => exact absurd (show (none : Option _) = some _ from r72) (by simp) | succ m => exact ⟨m, rfl⟩
    have r79 : ref18_Limits_B1 (w64 (x2 * x1_1)) x0_0 (ref18_Limits_L1 (w64 (x2 * x1_1)) x0_0 m80) v65 v71 = some r := r72; clear r72; unfold ref18_Limits_B1 at r79; try dsimp only at r79
    refine Cov.seq ?_;refine Cov.region rfl ?_;refine Cov.q .ro (.lss rfl rfl) rfl ?_;refine Cov.region_end ?_;refine Cov.seq ?_
    refine Cov.cond_dec rfl (fun c81 => ?_) (fun c81 => ?_)
    ·have r82 := ifT r79 c81; clear r79
     refine Cov.skip ?_;refine Cov.seq ?_;refine Cov.block ?_;refine Cov.region rfl ?_;refine Cov.q .ro (.move rfl) rfl ?_;refine Cov.q .ro (.fieldAddr 0 rfl fl49_0 ty3.sz rfl) rfl ?_;refine Cov.q .ro (.load_own 1 rfl rfl ty3 rfl) rfl ?_
     refine Cov.lit [_] [(0, _)] .ro sl41 ty3 rfl rfl rfl rfl rfl rfl (fun b83 hb83 => ?_)
     have o84 : OL (Rep.int .i64) G [.int .i64 x0_0] ([x0_0] : List Int) := ((OL.cons rfl (Rep.intI .i64 x0_0) (OL.nil (Rp' := (Rep.int .i64)))) :)
     refine Cov.reval 31 (n' := ([x0_0] : List Int).length) rfl rfl ?_
     obtain ⟨u90, hu90, r91⟩ := bind_some r82; clear r82
     refine Cov.appO (Q := (Rep.int .i64)) 0 .ro sl41 ty3 rfl rfl rfl rfl rfl rfl o69 o84 rfl rfl rfl B0 hu90 rfl (fun a86 k87 cs88 o89 => ?_)
     refine Cov.q .ro (.assign rfl) rfl ?_;refine Cov.region_end ?_;refine Cov.inBlock ?_;refine Cov.region rfl ?_;refine Cov.q .ro (.addw rfl rfl) rfl ?_;refine Cov.q .ro (.move rfl) rfl ?_;refine Cov.region_end ?_
     refine Cov.prune _ ?_ (Cov.same rfl rfl rfl (hb73 (m80, u90, a86, k87, cs88, (w64 (v71 + 1))) ⟨o89, r91⟩ (Nat.lt_succ_self _)))
     exact ⟨rfl, rfl, rfl, rfl, trivial⟩
    ·have r93 := ifF r79 c81; clear r79
     refine Cov.exit rfl ?_;refine Cov.seq ?_;refine Cov.region rfl ?_;refine Cov.q .ro (.move rfl) rfl ?_;refine Cov.q .ro (.assign rfl) rfl ?_;refine Cov.q .ro (.assign rfl) rfl ?_;refine Cov.region_end ?_
     cases r93
     refine Cov.drop 2 0 [] _ rfl rfl ?_
     refine Cov.retS (c := ⟨152, none⟩) (.inr ⟨_, rfl⟩) [.tmp 6, .tmp 7] [_, _] rfl Tryz.func152 Tryz.results152 ⟨RV.tmp rfl, RV.tmp rfl, trivial⟩ (fun _ h => List.mem_cons_of_mem _ h) ⟨a66, k67, cs68, rfl, rfl, rfl, o69⟩
  ·intro hb12
   refine Cov.split 18 rfl (fun c11 => ?_) (fun c11 => ?_)
   ·refine Cov.g_off rfl rfl rfl ?_
    refine Cov.g_off rfl rfl rfl ?_;refine Cov.q .ro (.pick_t rfl rfl) rfl ?_
    refine Cov.prune _ ?_ (Cov.same rfl rfl rfl (hb12 () trivial))
    exact ⟨dor_t c11, rfl, rfl, rfl, trivial⟩
   ·refine Cov.g_on rfl ?_
    refine Cov.q .ro (.move rfl) rfl ?_;refine Cov.g_on rfl ?_;refine Cov.q .ro (.gtr rfl rfl) rfl ?_;refine Cov.q .ro (.pick_f rfl rfl) rfl ?_
    refine Cov.prune _ ?_ (Cov.same rfl rfl rfl (hb12 () trivial))
    exact ⟨dor_f c11, rfl, rfl, rfl, trivial⟩
set_option maxHeartbeats 4000000 in
set_option maxRecDepth 100000 in
theorem ref23_storage_c {Fs : List Hp} {G : Hp} {x0_0 : Int} {x0_1 : Int} {x0_2 : Int} {x0_3 : Int} {r : (Int × Int × Int)} (hG : G ∈ Fs)  (h : ref23_storage (x0_0, x0_1, x0_2, x0_3) = some r) : RetS Tryz.prog 153 #[.agg #[.int .i64 x0_0, .int .i64 x0_1, .int .i64 x0_2, .int .i64 x0_3]] Fs [] [] (fun v bo so => v = .agg #[.int .i64 r.1, .int .i64 r.2.1, .int .i64 r.2.2] ∧ bo = [] ∧ so = []) := by
 unfold ref23_storage at h
 try dsimp only at h
 refine RetS.of (vs := [_]) Tryz.func153 rfl Tryz.ntmps153 [(0, _)] ⟨rfl, trivial⟩ rfl hG fun w0 S0 hS0 B0 => ?_
 refine Cov.seq ?_;refine Cov.region rfl ?_
 refine Cov.box [_, _, _, _] .ro rfl rfl rfl (fun b1 hb1 => ?_)
 refine Cov.alloc .ro ty263 rfl (fun b2 hb2 => ?_)
 refine Cov.region_end ?_;refine Cov.seq ?_;refine Cov.region rfl ?_;refine Cov.q .ro (.fieldAddr 1 rfl fl27_1 ty3.sz rfl) rfl ?_;refine Cov.q .ro (.load_own 1 rfl rfl ty3 rfl) rfl ?_;refine Cov.q .ro (.fieldAddr 2 rfl fl27_2 ty3.sz rfl) rfl ?_;refine Cov.q .ro (.load_own 1 rfl rfl ty3 rfl) rfl ?_;refine Cov.q .ro (.fieldAddr 3 rfl fl27_3 ty3.sz rfl) rfl ?_;refine Cov.q .ro (.load_own 1 rfl rfl ty3 rfl) rfl ?_
 refine Cov.q .ro (.build [_, _, _] [(0, _), (1, _), (2, _)] ty263 pl263 rfl rfl) rfl ?_;refine Cov.store 0 [_, _, _] [_, _] .ro rfl rfl rfl ty263 rfl rfl rfl rfl ?_;refine Cov.region_end ?_
 cases h
 refine Cov.retSD 2 (c := ⟨153, none⟩) (.inr ⟨_, rfl⟩) [.cell 2 263] [_] rfl Tryz.func153 Tryz.results153 ⟨RV.cell_a 0 [_, _, _] rfl rfl ty263 rfl, trivial⟩ (fun _ h => List.mem_cons_of_mem _ h) ⟨rfl, rfl, rfl⟩
set_option maxHeartbeats 4000000 in
set_option maxRecDepth 100000 in
theorem ref23_Units_c {Fs : List Hp} {G : Hp} {x0_0 : Int} {x0_1 : Int} {x0_2 : Int} {x0_3 : Int} {x1 : Int} {r : Int} (hG : G ∈ Fs)  (h : ref23_Units (x0_0, x0_1, x0_2, x0_3) x1 = some r) : RetS Tryz.prog 154 #[.agg #[.int .i64 x0_0, .int .i64 x0_1, .int .i64 x0_2, .int .i64 x0_3], .int .i64 x1] Fs [] [] (fun v bo so => v = .int .i64 r ∧ bo = [] ∧ so = []) := by
 unfold ref23_Units at h
 try dsimp only at h
 refine RetS.of (vs := [_, _]) Tryz.func154 rfl Tryz.ntmps154 [(0, _), (1, _)] ⟨rfl, rfl, trivial⟩ rfl hG fun w0 S0 hS0 B0 => ?_
 refine Cov.seq ?_;refine Cov.region rfl ?_
 refine Cov.box [_, _, _, _] .ro rfl rfl rfl (fun b1 hb1 => ?_)
 refine Cov.q .ro (.assign rfl) rfl ?_;refine Cov.region_end ?_;refine Cov.seq ?_;refine Cov.seq ?_;refine Cov.region rfl ?_;refine Cov.q .ro (.load_own_a 0 [_, _, _, _] rfl rfl ty27 rfl) rfl ?_
 obtain ⟨u2, hu2, r3⟩ := bind_some h; clear h
 refine Cov.callS (b1 := []) (b2 := [_]) (s1 := []) [_] [] .ro rfl rfl Tryz.call124 rfl rfl (ref23_Shape_c (G := G) List.mem_cons_self  hu2) rfl (fun v5 bo so h4 => ?_)
 obtain ⟨rfl, rfl, rfl⟩ := h4
 refine Cov.same (bl' := [_]) (sl' := []) rfl rfl rfl ?_;refine Cov.q .ro (.not rfl) rfl ?_;refine Cov.q .ro (.move rfl) rfl ?_;refine Cov.cutR 3 (β := Unit) (fun y => [(11, .bool (decide (((!u2) = true) ∨ (x1 < 1))))]) [(1, _), (2, _)] (fun y => G :: Fs) (fun y => []) [_] (fun y => []) [] (fun y => True) ⟨rfl, rfl, trivial⟩ [0] rfl [] rfl ?_ ?_
 ·rintro _ _
  refine Cov.prune [(11, .bool (decide (((!u2) = true) ∨ (x1 < 1)))), (1, _), (2, _)] ⟨rfl, rfl, rfl, trivial⟩ ?_;refine Cov.same (bl' := [_]) (sl' := []) (Fs' := G :: Fs) rfl rfl rfl ?_;refine Cov.q .ro (.move rfl) rfl ?_;refine Cov.cutR 3 (β := Unit) (fun y => [(15, .bool (decide ((((!u2) = true) ∨ (x1 < 1)) ∨ (1024 < x1))))]) [(1, _), (2, _)] (fun y => G :: Fs) (fun y => []) [_] (fun y => []) [] (fun y => True) ⟨rfl, rfl, trivial⟩ [0] rfl [] rfl ?_ ?_
  ·rintro _ _
   refine Cov.prune [(15, .bool (decide ((((!u2) = true) ∨ (x1 < 1)) ∨ (1024 < x1)))), (1, _), (2, _)] ⟨rfl, rfl, rfl, trivial⟩ ?_;refine Cov.same (bl' := [_]) (sl' := []) (Fs' := G :: Fs) rfl rfl rfl ?_;refine Cov.region_end ?_
   refine Cov.cond_dec rfl (fun c14 => ?_) (fun c14 => ?_)
   ·have r15 := ifT r3 c14; clear r3
    refine Cov.seq ?_;refine Cov.region rfl ?_;refine Cov.q .ro (.assign rfl) rfl ?_;refine Cov.region_end ?_
    cases r15
    refine Cov.drop 1 0 [] _ rfl rfl ?_
    refine Cov.retS (c := ⟨154, none⟩) (.inr ⟨_, rfl⟩) [.tmp 4] [_] rfl Tryz.func154 Tryz.results154 ⟨RV.tmp rfl, trivial⟩ (fun _ h => List.mem_cons_of_mem _ h) ⟨rfl, rfl, rfl⟩
   ·have r16 := ifF r3 c14; clear r3
    refine Cov.skip ?_;refine Cov.seq ?_;refine Cov.seq ?_;refine Cov.region rfl ?_;refine Cov.q .ro (.fieldAddr 0 rfl fl27_0 ty3.sz rfl) rfl ?_;refine Cov.q .ro (.load_own 0 rfl rfl ty3 rfl) rfl ?_;refine Cov.q .ro (.eql rfl rfl) rfl ?_;refine Cov.region_end ?_
    refine Cov.cond_dec rfl (fun c17 => ?_) (fun c17 => ?_)
    ·have r18 := ifT r16 c17; clear r16
     refine Cov.seq ?_;refine Cov.region rfl ?_;refine Cov.q .ro (.move rfl) rfl ?_;refine Cov.q .ro (.fieldAddr 3 rfl fl27_3 ty3.sz rfl) rfl ?_;refine Cov.q .ro (.load_own 0 rfl rfl ty3 rfl) rfl ?_;refine Cov.q .ro (.addw rfl rfl) rfl ?_;refine Cov.q .ro (.subw rfl rfl) rfl ?_;refine Cov.q .ro (.fieldAddr 3 rfl fl27_3 ty3.sz rfl) rfl ?_;refine Cov.q .ro (.load_own 0 rfl rfl ty3 rfl) rfl ?_
     obtain ⟨u19, hu19, r20⟩ := bind_some r18; clear r18
     refine Cov.q .ro (.quow rfl rfl (nz_some hu19)) rfl ?_;refine Cov.q .ro (.assign rfl) rfl ?_;refine Cov.region_end ?_;refine Cov.prune [(4, _)] ⟨rfl, trivial⟩ ?_
     cases r20
     refine Cov.drop 1 0 [] _ rfl rfl ?_
     refine Cov.retS (c := ⟨154, none⟩) (.inr ⟨_, rfl⟩) [.tmp 4] [_] rfl Tryz.func154 Tryz.results154 ⟨RV.tmp rfl, trivial⟩ (fun _ h => List.mem_cons_of_mem _ h) ⟨rfl, rfl, rfl⟩
    ·have r21 := ifF r16 c17; clear r16
     refine Cov.skip ?_;refine Cov.seq ?_;refine Cov.region rfl ?_;refine Cov.q .ro (.move rfl) rfl ?_;refine Cov.q .ro (.assign rfl) rfl ?_;refine Cov.region_end ?_
     cases r21
     refine Cov.drop 1 0 [] _ rfl rfl ?_
     refine Cov.retS (c := ⟨154, none⟩) (.inr ⟨_, rfl⟩) [.tmp 4] [_] rfl Tryz.func154 Tryz.results154 ⟨RV.tmp rfl, trivial⟩ (fun _ h => List.mem_cons_of_mem _ h) ⟨rfl, rfl, rfl⟩
  ·intro hb11
   refine Cov.split 12 rfl (fun c10 => ?_) (fun c10 => ?_)
   ·refine Cov.g_off rfl rfl rfl ?_
    refine Cov.g_off rfl rfl rfl ?_;refine Cov.q .ro (.pick_t rfl rfl) rfl ?_
    refine Cov.prune _ ?_ (Cov.same rfl rfl rfl (hb11 () trivial))
    exact ⟨dor_t c10, rfl, rfl, trivial⟩
   ·refine Cov.g_on rfl ?_
    refine Cov.q .ro (.move rfl) rfl ?_;refine Cov.g_on rfl ?_;refine Cov.q .ro (.gtr rfl rfl) rfl ?_;refine Cov.q .ro (.pick_f rfl rfl) rfl ?_
    refine Cov.prune _ ?_ (Cov.same rfl rfl rfl (hb11 () trivial))
    exact ⟨dor_f c10, rfl, rfl, trivial⟩
 ·intro hb7
  refine Cov.split_b 8 rfl (fun c6 => ?_) (fun c6 => ?_)
  ·refine Cov.g_off rfl rfl rfl ?_
   refine Cov.g_off rfl rfl rfl ?_;refine Cov.q .ro (.pick_t rfl rfl) rfl ?_
   refine Cov.prune _ ?_ (Cov.same rfl rfl rfl (hb7 () trivial))
   exact ⟨dor_t c6, rfl, rfl, trivial⟩
  ·refine Cov.g_on rfl ?_
   refine Cov.q .ro (.move rfl) rfl ?_;refine Cov.g_on rfl ?_;refine Cov.q .ro (.lss rfl rfl) rfl ?_;refine Cov.q .ro (.pick_f rfl rfl) rfl ?_
   refine Cov.prune _ ?_ (Cov.same rfl rfl rfl (hb7 () trivial))
   exact ⟨dor_f (bne_of c6), rfl, rfl, trivial⟩
set_option maxHeartbeats 4000000 in
set_option maxRecDepth 100000 in
theorem ref23_Limits_c {Fs : List Hp} {G : Hp} {x0_0 : Int} {x0_1 : Int} {x0_2 : Int} {x0_3 : Int} {x1_0 : Int} {x2 : Int} {r : ((List Int) × Int)} (hG : G ∈ Fs)  (h : ref23_Limits (x0_0, x0_1, x0_2, x0_3) x1_0 x2 = some r) : RetS Tryz.prog 103 #[.agg #[.int .i64 x0_0, .int .i64 x0_1, .int .i64 x0_2, .int .i64 x0_3], .agg #[.int .i64 x1_0], .int .i64 x2] Fs [] [] (fun v bo so => ∃ (oa0 : Option Addr) (ok0 : Nat) (oc0 : List Value), v = .tuple #[.slice oa0 r.1.length ok0, .int .i64 r.2] ∧ bo = [] ∧ so = [.s (.slice oa0 r.1.length ok0) 3 1 r.1.length oc0] ∧ OL (Rep.int .i64) G oc0 r.1) := by
 unfold ref23_Limits at h
 try dsimp only at h
 refine RetS.of (vs := [_, _, _]) Tryz.func103 rfl Tryz.ntmps103 [(0, _), (1, _), (2, _)] ⟨rfl, rfl, rfl, trivial⟩ rfl hG fun w0 S0 hS0 B0 => ?_
 refine Cov.seq ?_;refine Cov.region rfl ?_
 refine Cov.box [_, _, _, _] .ro rfl rfl rfl (fun b1 hb1 => ?_)
 refine Cov.box [_] .ro rfl rfl rfl (fun b2 hb2 => ?_)
 refine Cov.q .ro (.assign rfl) rfl ?_;refine Cov.q .ro (.assign rfl) rfl ?_;refine Cov.region_end ?_;refine Cov.seq ?_;refine Cov.seq ?_;refine Cov.region rfl ?_;refine Cov.q .ro (.load_own_a 1 [_, _, _, _] rfl rfl ty27 rfl) rfl ?_;refine Cov.q .ro (.load_own_a 0 [_] rfl rfl ty49 rfl) rfl ?_
 obtain ⟨u3, hu3, r4⟩ := bind_some h; clear h
 refine Cov.callS (b1 := []) (b2 := [_, _]) (s1 := []) [_, _] [] .ro rfl rfl Tryz.call69 rfl rfl (ref23_Valid_c (G := G) List.mem_cons_self  hu3) rfl (fun v6 bo so h5 => ?_)
 obtain ⟨rfl, rfl, rfl⟩ := h5
 refine Cov.same (bl' := [_, _]) (sl' := []) rfl rfl rfl ?_;refine Cov.q .ro (.not rfl) rfl ?_;refine Cov.region_end ?_
 refine Cov.cond rfl (fun c7 => ?_) (fun c7 => ?_)
 ·have r8 := ifT r4 c7; clear r4
  refine Cov.seq ?_;refine Cov.region rfl ?_;refine Cov.q .ro (.assign rfl) rfl ?_;refine Cov.q .ro (.assign rfl) rfl ?_;refine Cov.region_end ?_;refine Cov.own_nil 3 1 ?_
  cases r8
  refine Cov.drop 2 0 [] _ rfl rfl ?_
  refine Cov.retS (c := ⟨103, none⟩) (.inr ⟨_, rfl⟩) [.tmp 6, .tmp 7] [_, _] rfl Tryz.func103 Tryz.results103 ⟨RV.tmp rfl, RV.tmp rfl, trivial⟩ (fun _ h => List.mem_cons_of_mem _ h) ⟨none, 0, [], rfl, rfl, rfl, (OL.nil (Rp' := (Rep.int .i64)))⟩
 ·have r10 := ifBF r4 c7; clear r4
  refine Cov.skip ?_;refine Cov.seq ?_;refine Cov.seq ?_;refine Cov.region rfl ?_;refine Cov.q .ro (.move rfl) rfl ?_;refine Cov.q .ro (.lss rfl rfl) rfl ?_;refine Cov.q .ro (.move rfl) rfl ?_;refine Cov.cutR 3 (β := Unit) (fun y => [(17, .bool (decide ((x2 < 1) ∨ (1024 < x2))))]) [(2, _), (3, _), (4, _)] (fun y => G :: Fs) (fun y => []) [_, _] (fun y => []) [] (fun y => True) ⟨rfl, rfl, rfl, trivial⟩ [0, 1] rfl [] rfl ?_ ?_
  ·rintro _ _
   refine Cov.prune [(17, .bool (decide ((x2 < 1) ∨ (1024 < x2)))), (2, _), (3, _), (4, _)] ⟨rfl, rfl, rfl, rfl, trivial⟩ ?_;refine Cov.same (bl' := [_, _]) (sl' := []) (Fs' := G :: Fs) rfl rfl rfl ?_;refine Cov.region_end ?_
   refine Cov.cond_dec rfl (fun c15 => ?_) (fun c15 => ?_)
   ·have r16 := ifT r10 c15; clear r10
    refine Cov.seq ?_;refine Cov.region rfl ?_;refine Cov.q .ro (.assign rfl) rfl ?_;refine Cov.q .ro (.assign rfl) rfl ?_;refine Cov.region_end ?_;refine Cov.own_nil 3 1 ?_
    cases r16
    refine Cov.drop 2 0 [] _ rfl rfl ?_
    refine Cov.retS (c := ⟨103, none⟩) (.inr ⟨_, rfl⟩) [.tmp 6, .tmp 7] [_, _] rfl Tryz.func103 Tryz.results103 ⟨RV.tmp rfl, RV.tmp rfl, trivial⟩ (fun _ h => List.mem_cons_of_mem _ h) ⟨none, 0, [], rfl, rfl, rfl, (OL.nil (Rp' := (Rep.int .i64)))⟩
   ·have r18 := ifF r10 c15; clear r10
    refine Cov.skip ?_;refine Cov.seq ?_;refine Cov.seq ?_;refine Cov.region rfl ?_;refine Cov.q .ro (.fieldAddr 0 rfl fl27_0 ty3.sz rfl) rfl ?_;refine Cov.q .ro (.load_own 1 rfl rfl ty3 rfl) rfl ?_;refine Cov.region_end ?_;refine Cov.block ?_;refine Cov.seq ?_
    refine Cov.region rfl ?_;refine Cov.q .ro (.eql rfl rfl) rfl ?_;refine Cov.q .ro (.assign rfl) rfl ?_;refine Cov.region_end ?_
    refine Cov.cond_dec rfl (fun c19 => ?_) (fun c19 => ?_)
    ·have r20 := ifT r18 c19; clear r18
     refine Cov.seq ?_;refine Cov.region rfl ?_;refine Cov.q .ro (.load_own_a 0 [_] rfl rfl ty49 rfl) rfl ?_;refine Cov.q .ro (.move rfl) rfl ?_;refine Cov.q .ro (.fieldAddr 1 rfl fl27_1 ty3.sz rfl) rfl ?_;refine Cov.q .ro (.load_own 1 rfl rfl ty3 rfl) rfl ?_
     obtain ⟨u21, hu21, r22⟩ := bind_some r20; clear r20
     refine Cov.callS (b1 := []) (b2 := [_, _]) (s1 := []) [_, _, _] [] .ro rfl rfl Tryz.call149 rfl rfl (ref16_Limits_c (G := G) List.mem_cons_self  hu21) rfl (fun v24 bo so h23 => ?_)
     obtain ⟨a26, k27, cs28, rfl, rfl, rfl, o29⟩ := h23
     refine Cov.same (bl' := [_, _]) (sl' := [_]) rfl rfl rfl ?_;refine Cov.q .ro (.extract rfl rfl) rfl ?_;refine Cov.q .ro (.extract rfl rfl) rfl ?_;refine Cov.q .ro (.assign rfl) rfl ?_;refine Cov.q .ro (.assign rfl) rfl ?_;refine Cov.region_end ?_;refine Cov.prune [(6, _), (7, _)] ⟨rfl, rfl, trivial⟩ ?_
     cases r22
     refine Cov.drop 2 0 [] _ rfl rfl ?_
     refine Cov.retS (c := ⟨103, none⟩) (.inr ⟨_, rfl⟩) [.tmp 6, .tmp 7] [_, _] rfl Tryz.func103 Tryz.results103 ⟨RV.tmp rfl, RV.tmp rfl, trivial⟩ (fun _ h => List.mem_cons_of_mem _ h) ⟨a26, k27, cs28, rfl, rfl, rfl, o29⟩
    ·have r30 := ifF r18 c19; clear r18
     refine Cov.seq ?_;refine Cov.region rfl ?_;refine Cov.q .ro (.eql rfl rfl) rfl ?_;refine Cov.q .ro (.assign rfl) rfl ?_;refine Cov.region_end ?_
     refine Cov.cond_dec rfl (fun c31 => ?_) (fun c31 => ?_)
     ·have r32 := ifT r30 c31; clear r30
      refine Cov.seq ?_;refine Cov.drawL (.q 0 (.q 1 (.q 3 (.e 2 1 (.e 4 1 (.q 5 (.q 6 (.q 7 (.q 8 .nil))))))))) [_, _] (by kernel_rfl) (by kernel_rfl) (pick_mem [0, 1] rfl) ?_;refine Cov.dq (.load_own_a 0 [_] rfl rfl ty49 rfl) rfl ?_;refine Cov.dq (.load_own_a 1 [_, _, _, _] rfl rfl ty27 rfl) rfl ?_;refine Cov.dq (.move rfl) rfl ?_
      obtain ⟨u33, hu33, r34⟩ := bind_some r32; clear r32
      refine Cov.callS (b1 := []) (b2 := [_, _]) (s1 := []) [_] [] .d1 rfl rfl Tryz.call151 rfl rfl (ref23_plan_c (G := G) List.mem_cons_self  hu33) rfl (fun v36 bo so h35 => ?_)
      obtain ⟨rfl, rfl, rfl⟩ := h35
      refine Cov.same (bl' := [_, _]) (sl' := []) rfl rfl rfl ?_;refine Cov.clsL (HpLe.refl _) (pick_mem [0, 1] rfl) ?_
      obtain ⟨u37, hu37, r38⟩ := bind_some r34; clear r34
      refine Cov.callS (b1 := []) (b2 := [_, _]) (s1 := []) [_, _, _] [] .d1 rfl rfl Tryz.call150 rfl rfl (ref17_Limits_c (G := G) List.mem_cons_self  hu37) rfl (fun v40 bo so h39 => ?_)
      obtain ⟨a42, k43, cs44, rfl, rfl, rfl, o45⟩ := h39
      refine Cov.same (bl' := [_, _]) (sl' := [_]) rfl rfl rfl ?_;refine Cov.clsL (HpLe.refl _) (pick_mem [0, 1] rfl) ?_;refine Cov.dq (.extract rfl rfl) rfl ?_;refine Cov.dq (.extract rfl rfl) rfl ?_;refine Cov.dq (.assign rfl) rfl ?_;refine Cov.dq (.assign rfl) rfl ?_;refine Cov.draw_end ?_;refine Cov.prune [(6, _), (7, _)] ⟨rfl, rfl, trivial⟩ ?_
      cases r38
      refine Cov.drop 2 0 [] _ rfl rfl ?_
      refine Cov.retS (c := ⟨103, none⟩) (.inr ⟨_, rfl⟩) [.tmp 6, .tmp 7] [_, _] rfl Tryz.func103 Tryz.results103 ⟨RV.tmp rfl, RV.tmp rfl, trivial⟩ (fun _ h => List.mem_cons_of_mem _ h) ⟨a42, k43, cs44, rfl, rfl, rfl, o45⟩
     ·have r46 := ifF r30 c31; clear r30
      refine Cov.skip ?_;refine Cov.inBlock ?_;refine Cov.seq ?_;refine Cov.drawL (.q 0 (.q 1 (.q 3 (.q 4 (.e 2 1 (.e 5 1 (.e 6 1 (.q 7 (.q 8 (.q 9 (.q 10 .nil))))))))))) [_, _] (by kernel_rfl) (by kernel_rfl) (pick_mem [0, 1] rfl) ?_;refine Cov.dq (.load_own_a 0 [_] rfl rfl ty49 rfl) rfl ?_;refine Cov.dq (.load_own_a 1 [_, _, _, _] rfl rfl ty27 rfl) rfl ?_;refine Cov.dq (.load_own_a 1 [_, _, _, _] rfl rfl ty27 rfl) rfl ?_;refine Cov.dq (.move rfl) rfl ?_
      obtain ⟨u47, hu47, r48⟩ := bind_some r46; clear r46
      refine Cov.callS (b1 := []) (b2 := [_, _]) (s1 := []) [_] [] .d1 rfl rfl Tryz.call153 rfl rfl (ref23_storage_c (G := G) List.mem_cons_self  hu47) rfl (fun v50 bo so h49 => ?_)
      obtain ⟨rfl, rfl, rfl⟩ := h49
      refine Cov.same (bl' := [_, _]) (sl' := []) rfl rfl rfl ?_;refine Cov.clsL (HpLe.refl _) (pick_mem [0, 1] rfl) ?_
      obtain ⟨u51, hu51, r52⟩ := bind_some r48; clear r48
      refine Cov.callS (b1 := []) (b2 := [_, _]) (s1 := []) [_, _] [] .d1 rfl rfl Tryz.call154 rfl rfl (ref23_Units_c (G := G) List.mem_cons_self  hu51) rfl (fun v54 bo so h53 => ?_)
      obtain ⟨rfl, rfl, rfl⟩ := h53
      refine Cov.same (bl' := [_, _]) (sl' := []) rfl rfl rfl ?_;refine Cov.clsL (HpLe.refl _) (pick_mem [0, 1] rfl) ?_
      obtain ⟨u55, hu55, r56⟩ := bind_some r52; clear r52
      refine Cov.callS (b1 := []) (b2 := [_, _]) (s1 := []) [_, _, _] [] .d1 rfl rfl Tryz.call152 rfl rfl (ref18_Limits_c (G := G) List.mem_cons_self  hu55) rfl (fun v58 bo so h57 => ?_)
      obtain ⟨a60, k61, cs62, rfl, rfl, rfl, o63⟩ := h57
      refine Cov.same (bl' := [_, _]) (sl' := [_]) rfl rfl rfl ?_;refine Cov.clsL (HpLe.refl _) (pick_mem [0, 1] rfl) ?_;refine Cov.dq (.extract rfl rfl) rfl ?_;refine Cov.dq (.extract rfl rfl) rfl ?_;refine Cov.dq (.assign rfl) rfl ?_;refine Cov.dq (.assign rfl) rfl ?_;refine Cov.draw_end ?_;refine Cov.prune [(6, _), (7, _)] ⟨rfl, rfl, trivial⟩ ?_
      cases r56
      refine Cov.drop 2 0 [] _ rfl rfl ?_
      refine Cov.retS (c := ⟨103, none⟩) (.inr ⟨_, rfl⟩) [.tmp 6, .tmp 7] [_, _] rfl Tryz.func103 Tryz.results103 ⟨RV.tmp rfl, RV.tmp rfl, trivial⟩ (fun _ h => List.mem_cons_of_mem _ h) ⟨a60, k61, cs62, rfl, rfl, rfl, o63⟩
  ·intro hb12
   refine Cov.split 14 rfl (fun c11 => ?_) (fun c11 => ?_)
   ·refine Cov.g_off rfl rfl rfl ?_
    refine Cov.g_off rfl rfl rfl ?_;refine Cov.q .ro (.pick_t rfl rfl) rfl ?_
    refine Cov.prune _ ?_ (Cov.same rfl rfl rfl (hb12 () trivial))
    exact ⟨dor_t c11, rfl, rfl, rfl, trivial⟩
   ·refine Cov.g_on rfl ?_
    refine Cov.q .ro (.move rfl) rfl ?_;refine Cov.g_on rfl ?_;refine Cov.q .ro (.gtr rfl rfl) rfl ?_;refine Cov.q .ro (.pick_f rfl rfl) rfl ?_
    refine Cov.prune _ ?_ (Cov.same rfl rfl rfl (hb12 () trivial))
    exact ⟨dor_f c11, rfl, rfl, rfl, trivial⟩
set_option maxHeartbeats 4000000 in
set_option maxRecDepth 100000 in
theorem ref24_Limits_c {Fs : List Hp} {G : Hp} {x0_0 : Int} {x0_1 : Int} {x0_2 : Int} {x0_3 : Int} {x1_0 : Int} {x2 : Int} {x3 : Int} {r : ((List Int) × Int)} (hG : G ∈ Fs)  (h : ref24_Limits (x0_0, x0_1, x0_2, x0_3) x1_0 x2 x3 = some r) : RetS Tryz.prog 51 #[.agg #[.int .i64 x0_0, .int .i64 x0_1, .int .i64 x0_2, .int .i64 x0_3], .agg #[.int .i64 x1_0], .int .i64 x2, .int .i64 x3] Fs [] [] (fun v bo so => ∃ (oa0 : Option Addr) (ok0 : Nat) (oc0 : List Value), v = .tuple #[.slice oa0 r.1.length ok0, .int .i64 r.2] ∧ bo = [] ∧ so = [.s (.slice oa0 r.1.length ok0) 3 1 r.1.length oc0] ∧ OL (Rep.int .i64) G oc0 r.1) := by
 unfold ref24_Limits at h
 try dsimp only at h
 refine RetS.of (vs := [_, _, _, _]) Tryz.func51 rfl Tryz.ntmps51 [(0, _), (1, _), (2, _), (3, _)] ⟨rfl, rfl, rfl, rfl, trivial⟩ rfl hG fun w0 S0 hS0 B0 => ?_
 refine Cov.seq ?_;refine Cov.region rfl ?_
 refine Cov.box [_, _, _, _] .ro rfl rfl rfl (fun b1 hb1 => ?_)
 refine Cov.box [_] .ro rfl rfl rfl (fun b2 hb2 => ?_)
 refine Cov.q .ro (.assign rfl) rfl ?_;refine Cov.q .ro (.assign rfl) rfl ?_;refine Cov.region_end ?_;refine Cov.seq ?_;refine Cov.seq ?_;refine Cov.region rfl ?_;refine Cov.q .ro (.load_own_a 1 [_, _, _, _] rfl rfl ty27 rfl) rfl ?_;refine Cov.q .ro (.load_own_a 0 [_] rfl rfl ty49 rfl) rfl ?_
 obtain ⟨u3, hu3, r4⟩ := bind_some h; clear h
 refine Cov.callS (b1 := []) (b2 := [_, _]) (s1 := []) [_, _] [] .ro rfl rfl Tryz.call69 rfl rfl (ref23_Valid_c (G := G) List.mem_cons_self  hu3) rfl (fun v6 bo so h5 => ?_)
 obtain ⟨rfl, rfl, rfl⟩ := h5
 refine Cov.same (bl' := [_, _]) (sl' := []) rfl rfl rfl ?_;refine Cov.q .ro (.not rfl) rfl ?_;refine Cov.region_end ?_
 refine Cov.cond rfl (fun c7 => ?_) (fun c7 => ?_)
 ·have r8 := ifT r4 c7; clear r4
  refine Cov.seq ?_;refine Cov.region rfl ?_;refine Cov.q .ro (.assign rfl) rfl ?_;refine Cov.q .ro (.assign rfl) rfl ?_;refine Cov.region_end ?_;refine Cov.own_nil 3 1 ?_
  cases r8
  refine Cov.drop 2 0 [] _ rfl rfl ?_
  refine Cov.retS (c := ⟨51, none⟩) (.inr ⟨_, rfl⟩) [.tmp 8, .tmp 9] [_, _] rfl Tryz.func51 Tryz.results51 ⟨RV.tmp rfl, RV.tmp rfl, trivial⟩ (fun _ h => List.mem_cons_of_mem _ h) ⟨none, 0, [], rfl, rfl, rfl, (OL.nil (Rp' := (Rep.int .i64)))⟩
 ·have r10 := ifBF r4 c7; clear r4
  refine Cov.skip ?_;refine Cov.seq ?_;refine Cov.seq ?_;refine Cov.region rfl ?_;refine Cov.q .ro (.move rfl) rfl ?_;refine Cov.q .ro (.lss rfl rfl) rfl ?_;refine Cov.q .ro (.move rfl) rfl ?_;refine Cov.cutR 3 (β := Unit) (fun y => [(23, .bool (decide ((x3 < 1) ∨ (16 < x3))))]) [(2, _), (3, _), (4, _), (5, _)] (fun y => G :: Fs) (fun y => []) [_, _] (fun y => []) [] (fun y => True) ⟨rfl, rfl, rfl, rfl, trivial⟩ [0, 1] rfl [] rfl ?_ ?_
  ·rintro _ _
   refine Cov.prune [(23, .bool (decide ((x3 < 1) ∨ (16 < x3)))), (2, _), (3, _), (4, _), (5, _)] ⟨rfl, rfl, rfl, rfl, rfl, trivial⟩ ?_;refine Cov.same (bl' := [_, _]) (sl' := []) (Fs' := G :: Fs) rfl rfl rfl ?_;refine Cov.q .ro (.move rfl) rfl ?_;refine Cov.cutR 3 (β := Unit) (fun y => [(27, .bool (decide (((x3 < 1) ∨ (16 < x3)) ∨ (x2 < 1))))]) [(2, _), (3, _), (4, _), (5, _)] (fun y => G :: Fs) (fun y => []) [_, _] (fun y => []) [] (fun y => True) ⟨rfl, rfl, rfl, rfl, trivial⟩ [0, 1] rfl [] rfl ?_ ?_
   ·rintro _ _
    refine Cov.prune [(27, .bool (decide (((x3 < 1) ∨ (16 < x3)) ∨ (x2 < 1)))), (2, _), (3, _), (4, _), (5, _)] ⟨rfl, rfl, rfl, rfl, rfl, trivial⟩ ?_;refine Cov.same (bl' := [_, _]) (sl' := []) (Fs' := G :: Fs) rfl rfl rfl ?_;refine Cov.q .ro (.move rfl) rfl ?_;refine Cov.cutR 3 (β := Unit) (fun y => [(31, .bool (decide ((((x3 < 1) ∨ (16 < x3)) ∨ (x2 < 1)) ∨ (1024 < x2))))]) [(2, _), (3, _), (4, _), (5, _)] (fun y => G :: Fs) (fun y => []) [_, _] (fun y => []) [] (fun y => True) ⟨rfl, rfl, rfl, rfl, trivial⟩ [0, 1] rfl [] rfl ?_ ?_
    ·rintro _ _
     refine Cov.prune [(31, .bool (decide ((((x3 < 1) ∨ (16 < x3)) ∨ (x2 < 1)) ∨ (1024 < x2)))), (2, _), (3, _), (4, _), (5, _)] ⟨rfl, rfl, rfl, rfl, rfl, trivial⟩ ?_;refine Cov.same (bl' := [_, _]) (sl' := []) (Fs' := G :: Fs) rfl rfl rfl ?_;refine Cov.region_end ?_
     refine Cov.cond_dec rfl (fun c23 => ?_) (fun c23 => ?_)
     ·have r24 := ifT r10 c23; clear r10
      refine Cov.seq ?_;refine Cov.region rfl ?_;refine Cov.q .ro (.assign rfl) rfl ?_;refine Cov.q .ro (.assign rfl) rfl ?_;refine Cov.region_end ?_;refine Cov.own_nil 3 1 ?_
      cases r24
      refine Cov.drop 2 0 [] _ rfl rfl ?_
      refine Cov.retS (c := ⟨51, none⟩) (.inr ⟨_, rfl⟩) [.tmp 8, .tmp 9] [_, _] rfl Tryz.func51 Tryz.results51 ⟨RV.tmp rfl, RV.tmp rfl, trivial⟩ (fun _ h => List.mem_cons_of_mem _ h) ⟨none, 0, [], rfl, rfl, rfl, (OL.nil (Rp' := (Rep.int .i64)))⟩
     ·have r26 := ifF r10 c23; clear r10
      refine Cov.skip ?_;refine Cov.seq ?_;refine Cov.region rfl ?_;refine Cov.q .ro (.assign rfl) rfl ?_;refine Cov.region_end ?_;refine Cov.seq ?_;refine Cov.seq ?_;refine Cov.region rfl ?_;refine Cov.q .ro (.assign rfl) rfl ?_
      refine Cov.region_end ?_;refine Cov.block ?_;refine Cov.own_nil 3 1 ?_
      refine Cov.loop2 (α := Nat × List Int × Option Addr × Nat × List Value × Int) (fun y => [(10, .slice y.2.2.1 y.2.1.length y.2.2.2.1), (11, .int .i64 y.2.2.2.2.2)]) [(2, _), (3, _), (4, _), (5, _)] (fun y => []) (fun y => []) [_, _] (fun y => [.s (.slice y.2.2.1 y.2.1.length y.2.2.2.1) 3 1 y.2.1.length y.2.2.2.2.1]) [] (fun y => OL (Rep.int .i64) G y.2.2.2.2.1 y.2.1 ∧ ref24_Limits_L1 x2 x3 x1_0 x0_0 x0_1 x0_2 x0_3 y.1 y.2.1 y.2.2.2.2.2 = some r) (fun y => y.1) (big, ([] : List Int), none, 0, [], 0) ⟨(OL.nil (Rp' := (Rep.int .i64))), r26⟩ ⟨rfl, rfl, rfl, rfl, rfl, rfl, trivial⟩ rfl rfl rfl (fun y hI hb103 => ?_)
      obtain ⟨n93, v95, a96, k97, cs98, v101⟩ := y
      obtain ⟨o99, r102⟩ := hI
      try dsimp only at o99 r102
      refine Cov.prune [(10, .slice a96 v95.length k97), (11, .int .i64 v101), (2, _), (3, _), (4, _), (5, _)] ⟨rfl, rfl, rfl, rfl, rfl, rfl, trivial⟩ ?_;refine Cov.same (bl' := [_, _]) (sl' := [.s (.slice a96 v95.length k97) 3 1 v95.length cs98]) (Fs' := G :: Fs) rfl rfl rfl ?_
      obtain ⟨m112, rfl⟩ : ∃ m, n93 = m + 1 := by cases n93 with | zero => exact absurd (show (none : Option _) = some _ from r102) (by simp) | succ m => exact ⟨m, rfl⟩
      have r111 : ref24_Limits_B1 x2 x3 x1_0 x0_0 x0_1 x0_2 x0_3 (ref24_Limits_L1 x2 x3 x1_0 x0_0 x0_1 x0_2 x0_3 m112) v95 v101 = some r := r102; clear r102; unfold ref24_Limits_B1 at r111; try dsimp only at r111
      refine Cov.seq ?_;refine Cov.seq ?_;refine Cov.region rfl ?_;refine Cov.q .ro (.move rfl) rfl ?_;refine Cov.q .ro (.move rfl) rfl ?_;refine Cov.q .ro (.lss rfl rfl) rfl ?_;refine Cov.region_end ?_
      refine Cov.cond_dec rfl (fun c113 => ?_) (fun c113 => ?_)
      ·have r114 := ifT r111 c113; clear r111
       refine Cov.skip ?_;refine Cov.seq ?_;refine Cov.block ?_;refine Cov.seq ?_;refine Cov.region rfl ?_;refine Cov.q .ro (.load_own_a 1 [_, _, _, _] rfl rfl ty27 rfl) rfl ?_;refine Cov.q .ro (.load_own_a 0 [_] rfl rfl ty49 rfl) rfl ?_;refine Cov.q .ro (.move rfl) rfl ?_
       obtain ⟨u115, hu115, r116⟩ := bind_some r114; clear r114
       refine Cov.callS (b1 := []) (b2 := [_, _]) (s1 := []) [_, _, _] [] .ro rfl rfl Tryz.call103 rfl rfl (ref23_Limits_c (G := G) List.mem_cons_self  hu115) rfl (fun v118 bo so h117 => ?_)
       obtain ⟨a120, k121, cs122, rfl, rfl, rfl, o123⟩ := h117
       refine Cov.same (bl' := [_, _]) (sl' := [_, _]) rfl rfl rfl ?_;refine Cov.q .ro (.move rfl) rfl ?_;refine Cov.q .ro (.extract rfl rfl) rfl ?_;refine Cov.q .ro (.extract rfl rfl) rfl ?_;refine Cov.q .ro (.assign rfl) rfl ?_;refine Cov.q .ro (.assign rfl) rfl ?_;refine Cov.region_end ?_;refine Cov.seq ?_;refine Cov.seq ?_
       refine Cov.region rfl ?_;refine Cov.q .ro (.move rfl) rfl ?_;refine Cov.q .ro (.neq rfl rfl) rfl ?_;refine Cov.region_end ?_
       refine Cov.cond_dec rfl (fun c124 => ?_) (fun c124 => ?_)
       ·have r125 := ifT r116 c124; clear r116
        refine Cov.seq ?_;refine Cov.region rfl ?_;refine Cov.q .ro (.move rfl) rfl ?_;refine Cov.q .ro (.assign rfl) rfl ?_;refine Cov.q .ro (.assign rfl) rfl ?_;refine Cov.region_end ?_;refine Cov.prune [(8, _), (9, _)] ⟨rfl, rfl, trivial⟩ ?_;refine Cov.own_nil 3 1 ?_
        cases r125
        refine Cov.drop 2 0 [] _ rfl rfl ?_;refine Cov.pullS 2 rfl [_, _, _] rfl ?_;refine Cov.pullS 2 rfl [_, _, _] rfl ?_;refine Cov.drop 0 2 _ [_] rfl rfl ?_
        refine Cov.retS (c := ⟨51, none⟩) (.inr ⟨_, rfl⟩) [.tmp 8, .tmp 9] [_, _] rfl Tryz.func51 Tryz.results51 ⟨RV.tmp rfl, RV.tmp rfl, trivial⟩ (fun _ h => List.mem_cons_of_mem _ h) ⟨none, 0, [], rfl, rfl, rfl, (OL.nil (Rp' := (Rep.int .i64)))⟩
       ·have r127 := ifF r116 c124; clear r116
        refine Cov.skip ?_;refine Cov.region rfl ?_;refine Cov.q .ro (.move rfl) rfl ?_;refine Cov.q .ro (.move rfl) rfl ?_
        obtain ⟨u132, hu132, r133⟩ := bind_some r127; clear r127
        refine Cov.appO (Q := (Rep.int .i64)) 0 .ro sl41 ty3 rfl rfl rfl rfl rfl rfl o99 o123 rfl rfl rfl B0 hu132 rfl (fun a128 k129 cs130 o131 => ?_)
        refine Cov.q .ro (.assign rfl) rfl ?_;refine Cov.region_end ?_;refine Cov.prune [(10, _), (11, _), (2, _), (3, _), (4, _), (5, _)] ⟨rfl, rfl, rfl, rfl, rfl, rfl, trivial⟩ ?_;refine Cov.inBlock ?_;refine Cov.region rfl ?_;refine Cov.q .ro (.move rfl) rfl ?_;refine Cov.q .ro (.addw rfl rfl) rfl ?_;refine Cov.q .ro (.assign rfl) rfl ?_;refine Cov.region_end ?_
        refine Cov.prune _ ?_ (Cov.same rfl rfl rfl (hb103 (m112, u132, a128, k129, cs130, (w64 (v101 + 1))) ⟨o131, r133⟩ (Nat.lt_succ_self _)))
        exact ⟨rfl, rfl, rfl, rfl, rfl, rfl, trivial⟩
      ·have r135 := ifF r111 c113; clear r111
       refine Cov.exit rfl ?_;refine Cov.seq ?_;refine Cov.region rfl ?_;refine Cov.q .ro (.move rfl) rfl ?_;refine Cov.q .ro (.assign rfl) rfl ?_;refine Cov.q .ro (.assign rfl) rfl ?_;refine Cov.region_end ?_
       cases r135
       refine Cov.drop 2 0 [] _ rfl rfl ?_
       refine Cov.retS (c := ⟨51, none⟩) (.inr ⟨_, rfl⟩) [.tmp 8, .tmp 9] [_, _] rfl Tryz.func51 Tryz.results51 ⟨RV.tmp rfl, RV.tmp rfl, trivial⟩ (fun _ h => List.mem_cons_of_mem _ h) ⟨a96, k97, cs98, rfl, rfl, rfl, o99⟩
    ·intro hb20
     refine Cov.split 28 rfl (fun c19 => ?_) (fun c19 => ?_)
     ·refine Cov.g_off rfl rfl rfl ?_
      refine Cov.g_off rfl rfl rfl ?_;refine Cov.q .ro (.pick_t rfl rfl) rfl ?_
      refine Cov.prune _ ?_ (Cov.same rfl rfl rfl (hb20 () trivial))
      exact ⟨dor_t c19, rfl, rfl, rfl, rfl, trivial⟩
     ·refine Cov.g_on rfl ?_
      refine Cov.q .ro (.move rfl) rfl ?_;refine Cov.g_on rfl ?_;refine Cov.q .ro (.gtr rfl rfl) rfl ?_;refine Cov.q .ro (.pick_f rfl rfl) rfl ?_
      refine Cov.prune _ ?_ (Cov.same rfl rfl rfl (hb20 () trivial))
      exact ⟨dor_f c19, rfl, rfl, rfl, rfl, trivial⟩
   ·intro hb16
    refine Cov.split 24 rfl (fun c15 => ?_) (fun c15 => ?_)
    ·refine Cov.g_off rfl rfl rfl ?_
     refine Cov.g_off rfl rfl rfl ?_;refine Cov.q .ro (.pick_t rfl rfl) rfl ?_
     refine Cov.prune _ ?_ (Cov.same rfl rfl rfl (hb16 () trivial))
     exact ⟨dor_t c15, rfl, rfl, rfl, rfl, trivial⟩
    ·refine Cov.g_on rfl ?_
     refine Cov.q .ro (.move rfl) rfl ?_;refine Cov.g_on rfl ?_;refine Cov.q .ro (.lss rfl rfl) rfl ?_;refine Cov.q .ro (.pick_f rfl rfl) rfl ?_
     refine Cov.prune _ ?_ (Cov.same rfl rfl rfl (hb16 () trivial))
     exact ⟨dor_f c15, rfl, rfl, rfl, rfl, trivial⟩
  ·intro hb12
   refine Cov.split 20 rfl (fun c11 => ?_) (fun c11 => ?_)
   ·refine Cov.g_off rfl rfl rfl ?_
    refine Cov.g_off rfl rfl rfl ?_;refine Cov.q .ro (.pick_t rfl rfl) rfl ?_
    refine Cov.prune _ ?_ (Cov.same rfl rfl rfl (hb12 () trivial))
    exact ⟨dor_t c11, rfl, rfl, rfl, rfl, trivial⟩
   ·refine Cov.g_on rfl ?_
    refine Cov.q .ro (.move rfl) rfl ?_;refine Cov.g_on rfl ?_;refine Cov.q .ro (.gtr rfl rfl) rfl ?_;refine Cov.q .ro (.pick_f rfl rfl) rfl ?_
    refine Cov.prune _ ?_ (Cov.same rfl rfl rfl (hb12 () trivial))
    exact ⟨dor_f c11, rfl, rfl, rfl, rfl, trivial⟩
set_option maxHeartbeats 4000000 in
set_option maxRecDepth 100000 in
theorem ref43_Draws_c {Fs : List Hp} {G : Hp} {x0_0 : Int} {x0_1 : Int} {x0_2 : Int} {x0_3 : Int} {x1_0 : Int} {x2 : Int} {x3 : Int} {r : (Int × Int)} (hG : G ∈ Fs)  (h : ref43_Draws (x0_0, x0_1, x0_2, x0_3) x1_0 x2 x3 = some r) : RetS Tryz.prog 23 #[.agg #[.int .i64 x0_0, .int .i64 x0_1, .int .i64 x0_2, .int .i64 x0_3], .agg #[.int .i64 x1_0], .int .i64 x2, .int .i64 x3] Fs [] [] (fun v bo so => v = .tuple #[.int .i64 r.1, .int .i64 r.2] ∧ bo = [] ∧ so = []) := by
 unfold ref43_Draws at h
 try dsimp only at h
 refine RetS.of (vs := [_, _, _, _]) Tryz.func23 rfl Tryz.ntmps23 [(0, _), (1, _), (2, _), (3, _)] ⟨rfl, rfl, rfl, rfl, trivial⟩ rfl hG fun w0 S0 hS0 B0 => ?_
 refine Cov.seq ?_;refine Cov.region rfl ?_
 refine Cov.box [_, _, _, _] .ro rfl rfl rfl (fun b1 hb1 => ?_)
 refine Cov.box [_] .ro rfl rfl rfl (fun b2 hb2 => ?_)
 refine Cov.q .ro (.assign rfl) rfl ?_;refine Cov.q .ro (.assign rfl) rfl ?_;refine Cov.region_end ?_;refine Cov.seq ?_;refine Cov.region rfl ?_;refine Cov.q .ro (.load_own_a 1 [_, _, _, _] rfl rfl ty27 rfl) rfl ?_;refine Cov.q .ro (.load_own_a 0 [_] rfl rfl ty49 rfl) rfl ?_;refine Cov.q .ro (.move rfl) rfl ?_;refine Cov.q .ro (.move rfl) rfl ?_
 obtain ⟨u3, hu3, r4⟩ := bind_some h; clear h
 refine Cov.callS (b1 := []) (b2 := [_, _]) (s1 := []) [_, _, _, _] [] .ro rfl rfl Tryz.call51 rfl rfl (ref24_Limits_c (G := G) List.mem_cons_self  hu3) rfl (fun v6 bo so h5 => ?_)
 obtain ⟨a8, k9, cs10, rfl, rfl, rfl, o11⟩ := h5
 refine Cov.same (bl' := [_, _]) (sl' := [_]) rfl rfl rfl ?_;refine Cov.q .ro (.move rfl) rfl ?_;refine Cov.q .ro (.extract rfl rfl) rfl ?_;refine Cov.q .ro (.extract rfl rfl) rfl ?_;refine Cov.q .ro (.assign rfl) rfl ?_;refine Cov.q .ro (.assign rfl) rfl ?_;refine Cov.region_end ?_;refine Cov.prune [(10, _), (11, _)] ⟨rfl, rfl, trivial⟩ ?_;refine Cov.seq ?_
 refine Cov.seq ?_;refine Cov.region rfl ?_;refine Cov.q .ro (.move rfl) rfl ?_;refine Cov.q .ro (.neq rfl rfl) rfl ?_;refine Cov.region_end ?_
 refine Cov.cond_dec rfl (fun c12 => ?_) (fun c12 => ?_)
 ·have r13 := ifT r4 c12; clear r4
  refine Cov.seq ?_;refine Cov.region rfl ?_;refine Cov.q .ro (.move rfl) rfl ?_;refine Cov.q .ro (.assign rfl) rfl ?_;refine Cov.q .ro (.assign rfl) rfl ?_;refine Cov.region_end ?_
  cases r13
  refine Cov.drop 2 0 [] _ rfl rfl ?_;refine Cov.drop 0 1 _ [] rfl rfl ?_
  refine Cov.retS (c := ⟨23, none⟩) (.inr ⟨_, rfl⟩) [.tmp 8, .tmp 9] [_, _] rfl Tryz.func23 Tryz.results23 ⟨RV.tmp rfl, RV.tmp rfl, trivial⟩ (fun _ h => List.mem_cons_of_mem _ h) ⟨rfl, rfl, rfl⟩
 ·have r14 := ifF r4 c12; clear r4
  refine Cov.skip ?_;refine Cov.seq ?_;refine Cov.region rfl ?_;refine Cov.q .ro (.move rfl) rfl ?_;refine Cov.q .ro (.len_sl rfl rfl sl41) rfl ?_;refine Cov.q .ro (.assign rfl) rfl ?_;refine Cov.q .ro (.assign rfl) rfl ?_;refine Cov.region_end ?_
  cases r14
  refine Cov.drop 2 0 [] _ rfl rfl ?_;refine Cov.drop 0 1 _ [] rfl rfl ?_
  refine Cov.retS (c := ⟨23, none⟩) (.inr ⟨_, rfl⟩) [.tmp 8, .tmp 9] [_, _] rfl Tryz.func23 Tryz.results23 ⟨RV.tmp rfl, RV.tmp rfl, trivial⟩ (fun _ h => List.mem_cons_of_mem _ h) ⟨rfl, rfl, rfl⟩
set_option maxHeartbeats 4000000 in
set_option maxRecDepth 100000 in
theorem play_Dice_Hashing_c {Fs : List Hp} {G : Hp} {p0 : Nat} {a0_0 : Option Addr} {k0_0 : Nat} {x0_0 : List Int} {x0_1 : Int} {r : ((Int × (List (Int × Int))) × ((List Int) × Int))} (hG : G ∈ Fs) (s0_0 : SlR (Rep.int .u8) G a0_0 k0_0 x0_0) (h : play_Dice_Hashing (x0_0, x0_1) = some r) : RetW Tryz.prog 24 #[.pointer (some ⟨p0, 0, none⟩)] Fs [(p0, .cells #[.slice a0_0 x0_0.length k0_0, .int .i64 x0_1] 97 (0, 0))] [] (fun v bo so G => ∃ a0 : Option Addr, ∃ k0 : Nat, ∃ a1 : Option Addr, ∃ k1 : Nat, v = .agg #[.int .i64 r.1.1, .slice a0 r.1.2.length k0] ∧ bo = [(p0, .cells #[.slice a1 r.2.1.length k1, .int .i64 r.2.2] 97 (0, 0))] ∧ so = [] ∧ SlR (Rep.pair (Rep.int .i64) (Rep.int .i64)) G a0 k0 r.1.2 ∧ SlR (Rep.int .u8) G a1 k1 r.2.1) := by
 unfold play_Dice_Hashing at h
 try dsimp only at h
 refine RetW.of (vs := [_]) Tryz.func24 rfl Tryz.ntmps24 [(0, _)] ⟨rfl, trivial⟩ rfl hG fun w0 S0 hS0 B0 => ?_
 refine Cov.seq ?_;refine Cov.region rfl ?_
 refine Cov.alloc .ro ty73 rfl (fun b1 hb1 => ?_)
 refine Cov.region_end ?_;refine Cov.seq ?_;refine Cov.region rfl ?_;refine Cov.q .ro (.move rfl) rfl ?_
 obtain ⟨u2, hu2, r3⟩ := bind_some h; clear h
 refine Cov.pull 1 rfl [_, _] rfl ?_
 refine Cov.callS (b1 := [_]) (b2 := [_]) (s1 := []) [_, _] [] .ro rfl rfl Tryz.call25 rfl rfl (play_Dice_Pick_c (G := G) List.mem_cons_self s0_0 hu2) rfl (fun v5 bo so h4 => ?_)
 obtain ⟨a6, k7, rfl, rfl, rfl, s8⟩ := h4
 refine Cov.same (bl' := [_, _]) (sl' := []) rfl rfl rfl ?_;refine Cov.q .ro (.addw rfl rfl) rfl ?_;refine Cov.q .ro (.build [_, _] [(0, _)] ty73 pl73 rfl rfl) rfl ?_
 refine Cov.alloc .ro ty73 rfl (fun b9 hb9 => ?_)
 refine Cov.store 0 [_, _] [_, _, _] .ro rfl rfl rfl ty73 rfl rfl rfl rfl ?_;refine Cov.region_end ?_;refine Cov.seq ?_;refine Cov.seq ?_;refine Cov.region rfl ?_;refine Cov.q .ro (.move rfl) rfl ?_
 obtain ⟨u10, hu10, r11⟩ := bind_some r3; clear r3
 refine Cov.pull 1 rfl [_, _, _] rfl ?_
 refine Cov.callS (b1 := [_]) (b2 := [_, _]) (s1 := []) [_, _] [] .ro rfl rfl Tryz.call25 rfl rfl (play_Dice_Pick_c (G := G) List.mem_cons_self s8 hu10) rfl (fun v13 bo so h12 => ?_)
 obtain ⟨a14, k15, rfl, rfl, rfl, s16⟩ := h12
 refine Cov.same (bl' := [_, _, _]) (sl' := []) rfl rfl rfl ?_;refine Cov.q .ro (.addw rfl rfl) rfl ?_;refine Cov.q .ro (.assign rfl) rfl ?_;refine Cov.region_end ?_;refine Cov.cutB (β := List Int × Option Addr × Nat × Int × Int × (List (Int × Int)) × Option Addr × Nat × List Value × Int) (fun y => []) [(2, _), (3, _)] (fun y => G :: Fs) (fun y => [(p0, .cells #[.slice y.2.1 y.1.length y.2.2.1, .int .i64 y.2.2.2.1] 97 (0, 0)), (b9, .cells #[.int .i64 y.2.2.2.2.1, .slice y.2.2.2.2.2.2.1 y.2.2.2.2.2.1.length y.2.2.2.2.2.2.2.1] 73 (0, 0)), (b1, .cells #[.int .i64 y.2.2.2.2.2.2.2.2.2, .slice none 0 0] 73 (0, 0))]) [] (fun y => [.s (.slice y.2.2.2.2.2.2.1 y.2.2.2.2.2.1.length y.2.2.2.2.2.2.2.1) 123 2 y.2.2.2.2.2.1.length y.2.2.2.2.2.2.2.2.1]) [] (fun y => SlR (Rep.int .u8) G y.2.1 y.2.2.1 y.1 ∧ OL (Rep.pair (Rep.int .i64) (Rep.int .i64)) G y.2.2.2.2.2.2.2.2.1 y.2.2.2.2.2.1 ∧ play_Dice_Hashing_J1 y.1 y.2.2.2.1 y.2.2.2.2.1 y.2.2.2.2.2.1 y.2.2.2.2.2.2.2.2.2 = some r) ⟨rfl, rfl, trivial⟩ [] rfl [] rfl ?_ ?_
 ·intro y hI
  obtain ⟨v128, a129, k130, v132, v133, v134, a135, k136, cs137, v140⟩ := y
  obtain ⟨s131, o138, r142⟩ := hI
  try dsimp only at s131 o138 r142
  refine Cov.prune [(2, _), (3, _)] ⟨rfl, rfl, trivial⟩ ?_;refine Cov.same (bl' := [(p0, .cells #[.slice a129 v128.length k130, .int .i64 v132] 97 (0, 0)), (b9, .cells #[.int .i64 v133, .slice a135 v134.length k136] 73 (0, 0)), (b1, .cells #[.int .i64 v140, .slice none 0 0] 73 (0, 0))]) (sl' := [.s (.slice a135 v134.length k136) 123 2 v134.length cs137]) (Fs' := G :: Fs) rfl rfl rfl ?_
  unfold play_Dice_Hashing_J1 at r142
  try dsimp only at r142
  refine Cov.seq ?_;refine Cov.region rfl ?_;refine Cov.q .ro (.load_own_a 1 [_, _] rfl rfl ty73 rfl) rfl ?_;refine Cov.store 2 [_, _] [_, _, _] .ro rfl rfl rfl ty73 rfl rfl rfl rfl ?_;refine Cov.region_end ?_
  refine Cov.freezeR 0 rfl rfl o138 [] rfl B0 (fun G143 e144 B145 s146 => ?_)
  cases r142
  refine Cov.pull 2 rfl [_, _, _] rfl ?_;refine Cov.pull 2 rfl [_, _, _] rfl ?_
  refine Cov.retWD 2 (c := ⟨24, none⟩) (.inr ⟨_, rfl⟩) [.cell 2 73] [_] rfl Tryz.func24 Tryz.results24 ⟨RV.cell_a 1 [_, _] rfl rfl ty73 rfl, trivial⟩ (fun _ h => List.mem_cons_of_mem _ h) List.mem_cons_self B145 (by subst hS0; simp [blks]) (fun G' hg => ⟨a135, k136, a129, k130, rfl, rfl, rfl, (SlR.mono hg s146), (SlR.mono hg (SlR.mono e144 s131))⟩)
 ·intro hb148
  refine Cov.block ?_;refine Cov.own_nil 123 2 ?_;refine Cov.pull 1 rfl [_, _, _] rfl ?_;refine Cov.pull 1 rfl [_, _, _] rfl ?_
  refine Cov.loop2 (α := Nat × Int × List Int × Option Addr × Nat × Int × (List (Int × Int)) × Option Addr × Nat × List Value) (fun y => [(4, .int .i64 y.2.1)]) [(0, _), (2, _), (3, _)] (fun y => []) (fun y => [(p0, .cells #[.slice y.2.2.2.1 y.2.2.1.length y.2.2.2.2.1, .int .i64 y.2.2.2.2.2.1] 97 (0, 0)), (b9, .cells #[.int .i64 (w64 (2 + u2.1)), .slice y.2.2.2.2.2.2.2.1 y.2.2.2.2.2.2.1.length y.2.2.2.2.2.2.2.2.1] 73 (0, 0))]) [_] (fun y => [.s (.slice y.2.2.2.2.2.2.2.1 y.2.2.2.2.2.2.1.length y.2.2.2.2.2.2.2.2.1) 123 2 y.2.2.2.2.2.2.1.length y.2.2.2.2.2.2.2.2.2]) [] (fun y => SlR (Rep.int .u8) G y.2.2.2.1 y.2.2.2.2.1 y.2.2.1 ∧ OL (Rep.pair (Rep.int .i64) (Rep.int .i64)) G y.2.2.2.2.2.2.2.2.2 y.2.2.2.2.2.2.1 ∧ play_Dice_Hashing_L2 play_Dice_Hashing_J1 (w64 (2 + u2.1)) y.1 y.2.1 y.2.2.1 y.2.2.2.2.2.1 y.2.2.2.2.2.2.1 = some r) (fun y => y.1) (big, (w64 (1 + u10.1)), u10.2.1, a14, k15, u10.2.2, ([] : List (Int × Int)), none, 0, []) ⟨s16, (OL.nil (Rp' := (Rep.pair (Rep.int .i64) (Rep.int .i64)))), r11⟩ ⟨rfl, rfl, rfl, rfl, trivial⟩ rfl rfl rfl (fun y hI hb230 => ?_)
  obtain ⟨n215, v217, v218, a219, k220, v222, v223, a224, k225, cs226⟩ := y
  obtain ⟨s221, o227, r229⟩ := hI
  try dsimp only at s221 o227 r229
  refine Cov.prune [(4, .int .i64 v217), (0, _), (2, _), (3, _)] ⟨rfl, rfl, rfl, rfl, trivial⟩ ?_;refine Cov.same (bl' := [(p0, .cells #[.slice a219 v218.length k220, .int .i64 v222] 97 (0, 0)), (b9, .cells #[.int .i64 (w64 (2 + u2.1)), .slice a224 v223.length k225] 73 (0, 0)), _]) (sl' := [.s (.slice a224 v223.length k225) 123 2 v223.length cs226]) (Fs' := G :: Fs) rfl rfl rfl ?_
  obtain ⟨m233, rfl⟩ : ∃ m, n215 = m + 1 := by cases n215 with | zero => exact absurd (show (none : Option _) = some _ from r229) (by simp) | succ m => exact ⟨m, rfl⟩
  have r232 : play_Dice_Hashing_B2 play_Dice_Hashing_J1 (w64 (2 + u2.1)) (play_Dice_Hashing_L2 play_Dice_Hashing_J1 (w64 (2 + u2.1)) m233) v217 v218 v222 v223 = some r := r229; clear r229; unfold play_Dice_Hashing_B2 at r232; try dsimp only at r232
  refine Cov.seq ?_;refine Cov.seq ?_;refine Cov.region rfl ?_;refine Cov.q .ro (.move rfl) rfl ?_;refine Cov.q .ro (.gtr rfl rfl) rfl ?_;refine Cov.region_end ?_
  refine Cov.cond_dec rfl (fun c234 => ?_) (fun c234 => ?_)
  ·have r235 := ifT r232 c234; clear r232
   refine Cov.skip ?_;refine Cov.seq ?_;refine Cov.block ?_;refine Cov.drawL (.q 0 (.q 1 (.q 2 (.q 5 (.e 3 1 (.q 4 (.e 6 1 (.q 7 (.e 8 1 (.e 9 1 (.q 10 (.e 11 2 .nil)))))))))))) [_, _] (by kernel_rfl) (by kernel_rfl) (pick_mem [1, 2] rfl) ?_;refine Cov.dq (.fieldAddr 1 rfl fl73_1 ty71.sz rfl) rfl ?_;refine Cov.dq (.load_own 0 rfl rfl ty71 rfl) rfl ?_;refine Cov.dq (.move rfl) rfl ?_;refine Cov.dq (.move rfl) rfl ?_
   obtain ⟨u236, hu236, r237⟩ := bind_some r235; clear r235
   refine Cov.callS (b1 := [_]) (b2 := [_, _]) (s1 := []) [_, _] [] .d1 rfl rfl Tryz.call25 rfl rfl (play_Dice_Pick_c (G := G) List.mem_cons_self s221 hu236) rfl (fun v239 bo so h238 => ?_)
   obtain ⟨a240, k241, rfl, rfl, rfl, s242⟩ := h238
   refine Cov.same (bl' := [_, _, _]) (sl' := [_]) rfl rfl rfl ?_;refine Cov.clsL (HpLe.refl _) (pick_mem [1, 2] rfl) ?_;refine Cov.dq (.addw rfl rfl) rfl ?_
   obtain ⟨u243, hu243, r244⟩ := bind_some r237; clear r237
   refine Cov.callS (b1 := [_]) (b2 := [_, _]) (s1 := []) [_, _] [] .d1 rfl rfl Tryz.call25 rfl rfl (play_Dice_Pick_c (G := G) List.mem_cons_self s242 hu243) rfl (fun v246 bo so h245 => ?_)
   obtain ⟨a247, k248, rfl, rfl, rfl, s249⟩ := h245
   refine Cov.same (bl' := [_, _, _]) (sl' := [_]) rfl rfl rfl ?_;refine Cov.clsL (HpLe.refl _) (pick_mem [1, 2] rfl) ?_;refine Cov.dq (.build [_, _] [(0, _), (1, _)] ty123 pl123 rfl rfl) rfl ?_
   refine Cov.lit [_, _] [(0, _)] .d1 sl71 ty123 rfl rfl rfl rfl rfl rfl (fun b250 hb250 => ?_)
   have o251 : OL (Rep.pair (Rep.int .i64) (Rep.int .i64)) G [.int .i64 (w64 (1 + u236.1)), .int .i64 u243.1] ([((w64 (1 + u236.1)), u243.1)] : List (Int × Int)) := ((OL.cons rfl (Rep.pairI (Rep.intI .i64 (w64 (1 + u236.1))) (Rep.intI .i64 u243.1)) (OL.nil (Rp' := (Rep.pair (Rep.int .i64) (Rep.int .i64))))) :)
   refine Cov.reval 24 (n' := ([((w64 (1 + u236.1)), u243.1)] : List (Int × Int)).length) rfl rfl ?_;refine Cov.clsL (HpLe.refl _) (pick_mem [1, 2] rfl) ?_
   obtain ⟨u257, hu257, r258⟩ := bind_some r244; clear r244
   refine Cov.appO (Q := (Rep.pair (Rep.int .i64) (Rep.int .i64))) 0 .d1 sl71 ty123 rfl rfl rfl rfl rfl rfl o227 o251 rfl rfl rfl B0 hu257 rfl (fun a253 k254 cs255 o256 => ?_)
   refine Cov.clsL (HpLe.refl _) (pick_mem [1, 2] rfl) ?_;refine Cov.dq (.fieldAddr 1 rfl fl73_1 ty71.sz rfl) rfl ?_;refine Cov.store 1 [_, _] [_, _, _] .d2 rfl rfl rfl ty71 rfl rfl rfl rfl ?_;refine Cov.draw_end ?_;refine Cov.prune [(4, _), (0, _), (2, _), (3, _)] ⟨rfl, rfl, rfl, rfl, trivial⟩ ?_;refine Cov.inBlock ?_;refine Cov.region rfl ?_;refine Cov.q .ro (.move rfl) rfl ?_;refine Cov.q .ro (.subw rfl rfl) rfl ?_
   refine Cov.q .ro (.assign rfl) rfl ?_;refine Cov.region_end ?_
   refine Cov.prune _ ?_ (Cov.same rfl rfl rfl (hb230 (m233, (w64 (v217 - 1)), u243.2.1, a247, k248, u243.2.2, u257, a253, k254, cs255) ⟨s249, o256, r258⟩ (Nat.lt_succ_self _)))
   exact ⟨rfl, rfl, rfl, rfl, trivial⟩
  ·have r260 := ifF r232 c234; clear r232
   refine Cov.exit rfl ?_
   refine Cov.prune _ ?_ (Cov.same rfl rfl rfl (hb148 (v218, a219, k220, v222, (w64 (2 + u2.1)), v223, a224, k225, cs226, 0) ⟨s221, o227, r260⟩))
   exact ⟨rfl, rfl, trivial⟩
set_option maxHeartbeats 4000000 in
set_option maxRecDepth 100000 in
theorem cuckoo_Check_c {Fs : List Hp} {G : Hp} {x0_0 : Int} {a0_1 : Option Addr} {k0_1 : Nat} {x0_1 : List (Int × Int)} {r : Int} (hG : G ∈ Fs) (s0_1 : SlR (Rep.pair (Rep.int .i64) (Rep.int .i64)) G a0_1 k0_1 x0_1) (h : cuckoo_Check (x0_0, x0_1) = some r) : RetS Tryz.prog 60 #[.agg #[.int .i64 x0_0, .slice a0_1 x0_1.length k0_1]] Fs [] [] (fun v bo so => v = .int .i64 r ∧ bo = [] ∧ so = []) := by
 unfold cuckoo_Check at h
 try dsimp only at h
 refine RetS.of (vs := [_]) Tryz.func60 rfl Tryz.ntmps60 [(0, _)] ⟨rfl, trivial⟩ rfl hG fun w0 S0 hS0 B0 => ?_
 refine Cov.seq ?_;refine Cov.region rfl ?_
 refine Cov.box [_, _] .ro rfl rfl rfl (fun b1 hb1 => ?_)
 refine Cov.q .ro (.assign rfl) rfl ?_;refine Cov.region_end ?_;refine Cov.seq ?_;refine Cov.seq ?_;refine Cov.region rfl ?_;refine Cov.q .ro (.fieldAddr 0 rfl fl73_0 ty3.sz rfl) rfl ?_;refine Cov.q .ro (.load_own 0 rfl rfl ty3 rfl) rfl ?_;refine Cov.q .ro (.lss rfl rfl) rfl ?_;refine Cov.q .ro (.move rfl) rfl ?_
 refine Cov.cutR 4 (β := Unit) (fun y => [(12, .bool (decide ((x0_0 < 1) ∨ (64 < x0_0))))]) [(1, _)] (fun y => G :: Fs) (fun y => []) [_] (fun y => []) [] (fun y => True) ⟨rfl, trivial⟩ [0] rfl [] rfl ?_ ?_
 ·rintro _ _
  refine Cov.prune [(12, .bool (decide ((x0_0 < 1) ∨ (64 < x0_0)))), (1, _)] ⟨rfl, rfl, trivial⟩ ?_;refine Cov.same (bl' := [_]) (sl' := []) (Fs' := G :: Fs) rfl rfl rfl ?_;refine Cov.q .ro (.move rfl) rfl ?_;refine Cov.cutR 5 (β := Unit) (fun y => [(18, .bool (decide (((x0_0 < 1) ∨ (64 < x0_0)) ∨ ((x0_1.length : Int) < 1))))]) [(1, _)] (fun y => G :: Fs) (fun y => []) [_] (fun y => []) [] (fun y => True) ⟨rfl, trivial⟩ [0] rfl [] rfl ?_ ?_
  ·rintro _ _
   refine Cov.prune [(18, .bool (decide (((x0_0 < 1) ∨ (64 < x0_0)) ∨ ((x0_1.length : Int) < 1)))), (1, _)] ⟨rfl, rfl, trivial⟩ ?_;refine Cov.same (bl' := [_]) (sl' := []) (Fs' := G :: Fs) rfl rfl rfl ?_;refine Cov.q .ro (.move rfl) rfl ?_;refine Cov.cutR 5 (β := Unit) (fun y => [(24, .bool (decide ((((x0_0 < 1) ∨ (64 < x0_0)) ∨ ((x0_1.length : Int) < 1)) ∨ (4 < (x0_1.length : Int)))))]) [(1, _)] (fun y => G :: Fs) (fun y => []) [_] (fun y => []) [] (fun y => True) ⟨rfl, trivial⟩ [0] rfl [] rfl ?_ ?_
   ·rintro _ _
    refine Cov.prune [(24, .bool (decide ((((x0_0 < 1) ∨ (64 < x0_0)) ∨ ((x0_1.length : Int) < 1)) ∨ (4 < (x0_1.length : Int))))), (1, _)] ⟨rfl, rfl, trivial⟩ ?_;refine Cov.same (bl' := [_]) (sl' := []) (Fs' := G :: Fs) rfl rfl rfl ?_;refine Cov.region_end ?_
    refine Cov.cond_dec rfl (fun c14 => ?_) (fun c14 => ?_)
    ·have r15 := ifT h c14; clear h
     refine Cov.seq ?_;refine Cov.region rfl ?_;refine Cov.q .ro (.assign rfl) rfl ?_;refine Cov.region_end ?_
     cases r15
     refine Cov.drop 1 0 [] _ rfl rfl ?_
     refine Cov.retS (c := ⟨60, none⟩) (.inr ⟨_, rfl⟩) [.tmp 2] [_] rfl Tryz.func60 Tryz.results60 ⟨RV.tmp rfl, trivial⟩ (fun _ h => List.mem_cons_of_mem _ h) ⟨rfl, rfl, rfl⟩
    ·have r16 := ifF h c14; clear h
     refine Cov.skip ?_;refine Cov.seq ?_;refine Cov.seq ?_;refine Cov.region rfl ?_;refine Cov.q .ro (.fieldAddr 1 rfl fl73_1 ty71.sz rfl) rfl ?_;refine Cov.q .ro (.load_own 0 rfl rfl ty71 rfl) rfl ?_;refine Cov.q .ro (.len_sl rfl rfl sl71) rfl ?_;refine Cov.q .ro (.move rfl) rfl ?_;refine Cov.region_end ?_
     refine Cov.block ?_
     refine Cov.loop2 (α := Nat × (List (Int × Int))) (fun y => [(28, .int .i64 (y.1 : Int))]) [(26, _), (27, _)] (fun y => []) (fun y => []) [_] (fun y => []) [] (fun y => List.drop y.1 x0_1 = y.2 ∧ cuckoo_Check_L1 y.2  = some r) (fun y => y.2.length) (0, x0_1) ⟨rfl, r16⟩ ⟨rfl, rfl, rfl, trivial⟩ rfl rfl rfl (fun y hI hb49 => ?_)
     obtain ⟨i45, w46⟩ := y
     obtain ⟨g47, r48⟩ := hI
     try dsimp only at g47 r48
     refine Cov.prune [(28, .int .i64 (i45 : Int)), (26, _), (27, _)] ⟨rfl, rfl, rfl, trivial⟩ ?_;refine Cov.same (bl' := [_]) (sl' := []) (Fs' := G :: Fs) rfl rfl rfl ?_
     cases w46 with
     | nil =>
      rw [cuckoo_Check_L1] at r48; try dsimp only at r48
      refine Cov.seq ?_;refine Cov.region rfl ?_;refine Cov.q .ro (.lss rfl rfl) rfl ?_;refine Cov.region_end ?_;refine Cov.seq ?_
      refine Cov.cond_dec rfl (fun c => absurd c (drop_nil g47)) (fun _ => ?_)
      refine Cov.exit rfl ?_;refine Cov.seq ?_;refine Cov.region rfl ?_;refine Cov.q .ro (.assign rfl) rfl ?_;refine Cov.region_end ?_
      cases r48
      refine Cov.drop 1 0 [] _ rfl rfl ?_
      refine Cov.retS (c := ⟨60, none⟩) (.inr ⟨_, rfl⟩) [.tmp 2] [_] rfl Tryz.func60 Tryz.results60 ⟨RV.tmp rfl, trivial⟩ (fun _ h => List.mem_cons_of_mem _ h) ⟨rfl, rfl, rfl⟩
     | cons x54 xs55 =>
      have r53 : cuckoo_Check_B1 (cuckoo_Check_L1 xs55) x54  = some r := r48; clear r48; unfold cuckoo_Check_B1 at r53; try dsimp only at r53
      refine Cov.seq ?_;refine Cov.region rfl ?_;refine Cov.q .ro (.lss rfl rfl) rfl ?_;refine Cov.region_end ?_;refine Cov.seq ?_
      refine Cov.cond_dec rfl (fun _ => ?_) (fun c => absurd (drop_lt g47) c)
      refine Cov.skip ?_;refine Cov.seq ?_;refine Cov.block ?_;refine Cov.seq ?_;refine Cov.region rfl ?_
      obtain ⟨c56, p57, h58⟩ := SlR.get s0_1 (drop_idx g47)
      obtain ⟨_, _, rfl, rfl, rfl⟩ := h58
      refine Cov.q .ro (.idxR s0_1 rfl rfl (drop_idx g47) sl71 ty123.sz) rfl ?_;refine Cov.q .ro (.load_rp_a [_, _] p57 List.mem_cons_self rfl ty123 rfl) rfl ?_
      refine Cov.alloc .ro ty123 rfl (fun b59 hb59 => ?_)
      refine Cov.store 0 [_, _] [_, _] .ro rfl rfl rfl ty123 rfl rfl rfl rfl ?_;refine Cov.region_end ?_;refine Cov.seq ?_;refine Cov.region rfl ?_;refine Cov.q .ro (.fieldAddr 0 rfl fl123_0 ty3.sz rfl) rfl ?_;refine Cov.q .ro (.load_own 0 rfl rfl ty3 rfl) rfl ?_;refine Cov.q .ro (.lss rfl rfl) rfl ?_;refine Cov.q .ro (.move rfl) rfl ?_;refine Cov.cutR 4 (β := Unit) (fun y => [(39, .bool (decide ((x54.1 < 0) ∨ (2147483647 ≤ x54.1))))]) [(28, _), (26, _), (27, _), (4, _)] (fun y => G :: Fs) (fun y => []) [_, _] (fun y => []) [] (fun y => True) ⟨rfl, rfl, rfl, rfl, trivial⟩ [0, 1] rfl [] rfl ?_ ?_
      ·rintro _ _
       refine Cov.prune [(39, .bool (decide ((x54.1 < 0) ∨ (2147483647 ≤ x54.1)))), (28, _), (26, _), (27, _), (4, _)] ⟨rfl, rfl, rfl, rfl, rfl, trivial⟩ ?_;refine Cov.same (bl' := [_, _]) (sl' := []) (Fs' := G :: Fs) rfl rfl rfl ?_;refine Cov.q .ro (.move rfl) rfl ?_;refine Cov.cutR 4 (β := Unit) (fun y => [(44, .bool (decide (((x54.1 < 0) ∨ (2147483647 ≤ x54.1)) ∨ (x54.2 < 0))))]) [(28, _), (26, _), (27, _), (4, _)] (fun y => G :: Fs) (fun y => []) [_, _] (fun y => []) [] (fun y => True) ⟨rfl, rfl, rfl, rfl, trivial⟩ [0, 1] rfl [] rfl ?_ ?_
       ·rintro _ _
        refine Cov.prune [(44, .bool (decide (((x54.1 < 0) ∨ (2147483647 ≤ x54.1)) ∨ (x54.2 < 0)))), (28, _), (26, _), (27, _), (4, _)] ⟨rfl, rfl, rfl, rfl, rfl, trivial⟩ ?_;refine Cov.same (bl' := [_, _]) (sl' := []) (Fs' := G :: Fs) rfl rfl rfl ?_;refine Cov.q .ro (.move rfl) rfl ?_;refine Cov.cutR 4 (β := Unit) (fun y => [(49, .bool (decide ((((x54.1 < 0) ∨ (2147483647 ≤ x54.1)) ∨ (x54.2 < 0)) ∨ (2147483647 ≤ x54.2))))]) [(28, _), (26, _), (27, _)] (fun y => G :: Fs) (fun y => []) [_, _] (fun y => []) [] (fun y => True) ⟨rfl, rfl, rfl, trivial⟩ [0, 1] rfl [] rfl ?_ ?_
        ·rintro _ _
         refine Cov.prune [(49, .bool (decide ((((x54.1 < 0) ∨ (2147483647 ≤ x54.1)) ∨ (x54.2 < 0)) ∨ (2147483647 ≤ x54.2)))), (28, _), (26, _), (27, _)] ⟨rfl, rfl, rfl, rfl, trivial⟩ ?_;refine Cov.same (bl' := [_, _]) (sl' := []) (Fs' := G :: Fs) rfl rfl rfl ?_;refine Cov.region_end ?_
         refine Cov.cond_dec rfl (fun c72 => ?_) (fun c72 => ?_)
         ·have r73 := ifT r53 c72; clear r53
          refine Cov.seq ?_;refine Cov.region rfl ?_;refine Cov.q .ro (.assign rfl) rfl ?_;refine Cov.region_end ?_
          cases r73
          refine Cov.drop 2 0 [] _ rfl rfl ?_
          refine Cov.retS (c := ⟨60, none⟩) (.inr ⟨_, rfl⟩) [.tmp 2] [_] rfl Tryz.func60 Tryz.results60 ⟨RV.tmp rfl, trivial⟩ (fun _ h => List.mem_cons_of_mem _ h) ⟨rfl, rfl, rfl⟩
         ·have r74 := ifF r53 c72; clear r53
          refine Cov.skip ?_;refine Cov.inBlock ?_;refine Cov.region rfl ?_;refine Cov.q .ro (.addw rfl rfl) rfl ?_;refine Cov.q .ro (.move rfl) rfl ?_;refine Cov.region_end ?_;refine Cov.drop 1 0 [_] _ rfl rfl ?_
          refine Cov.prune _ ?_ (Cov.same rfl rfl rfl (hb49 ((i45 + 1), xs55) ⟨(drop_succ g47), r74⟩ (Nat.lt_succ_self _)))
          exact ⟨(congrArg (fun z => some (Value.int .i64 z)) (idx_wrap (SlR.len s0_1) g47)), rfl, rfl, trivial⟩
        ·intro hb69
         refine Cov.split 45 rfl (fun c68 => ?_) (fun c68 => ?_)
         ·refine Cov.g_off rfl rfl rfl ?_
          refine Cov.g_off rfl rfl rfl ?_;refine Cov.g_off rfl rfl rfl ?_;refine Cov.q .ro (.pick_t rfl rfl) rfl ?_
          refine Cov.prune _ ?_ (Cov.same rfl rfl rfl (hb69 () trivial))
          exact ⟨dor_t c68, rfl, rfl, rfl, trivial⟩
         ·refine Cov.g_on rfl ?_
          refine Cov.q .ro (.fieldAddr 1 rfl fl123_1 ty3.sz rfl) rfl ?_;refine Cov.g_on rfl ?_;refine Cov.q .ro (.load_own 0 rfl rfl ty3 rfl) rfl ?_;refine Cov.g_on rfl ?_;refine Cov.q .ro (.geq rfl rfl) rfl ?_;refine Cov.q .ro (.pick_f rfl rfl) rfl ?_
          refine Cov.prune _ ?_ (Cov.same rfl rfl rfl (hb69 () trivial))
          exact ⟨dor_f c68, rfl, rfl, rfl, trivial⟩
       ·intro hb65
        refine Cov.split 40 rfl (fun c64 => ?_) (fun c64 => ?_)
        ·refine Cov.g_off rfl rfl rfl ?_
         refine Cov.g_off rfl rfl rfl ?_;refine Cov.g_off rfl rfl rfl ?_;refine Cov.q .ro (.pick_t rfl rfl) rfl ?_
         refine Cov.prune _ ?_ (Cov.same rfl rfl rfl (hb65 () trivial))
         exact ⟨dor_t c64, rfl, rfl, rfl, rfl, trivial⟩
        ·refine Cov.g_on rfl ?_
         refine Cov.q .ro (.fieldAddr 1 rfl fl123_1 ty3.sz rfl) rfl ?_;refine Cov.g_on rfl ?_;refine Cov.q .ro (.load_own 0 rfl rfl ty3 rfl) rfl ?_;refine Cov.g_on rfl ?_;refine Cov.q .ro (.lss rfl rfl) rfl ?_;refine Cov.q .ro (.pick_f rfl rfl) rfl ?_
         refine Cov.prune _ ?_ (Cov.same rfl rfl rfl (hb65 () trivial))
         exact ⟨dor_f c64, rfl, rfl, rfl, rfl, trivial⟩
      ·intro hb61
       refine Cov.split 35 rfl (fun c60 => ?_) (fun c60 => ?_)
       ·refine Cov.g_off rfl rfl rfl ?_
        refine Cov.g_off rfl rfl rfl ?_;refine Cov.g_off rfl rfl rfl ?_;refine Cov.q .ro (.pick_t rfl rfl) rfl ?_
        refine Cov.prune _ ?_ (Cov.same rfl rfl rfl (hb61 () trivial))
        exact ⟨dor_t c60, rfl, rfl, rfl, rfl, trivial⟩
       ·refine Cov.g_on rfl ?_
        refine Cov.q .ro (.fieldAddr 0 rfl fl123_0 ty3.sz rfl) rfl ?_;refine Cov.g_on rfl ?_;refine Cov.q .ro (.load_own 0 rfl rfl ty3 rfl) rfl ?_;refine Cov.g_on rfl ?_;refine Cov.q .ro (.geq rfl rfl) rfl ?_;refine Cov.q .ro (.pick_f rfl rfl) rfl ?_
        refine Cov.prune _ ?_ (Cov.same rfl rfl rfl (hb61 () trivial))
        exact ⟨dor_f c60, rfl, rfl, rfl, rfl, trivial⟩
   ·intro hb11
    refine Cov.split 19 rfl (fun c10 => ?_) (fun c10 => ?_)
    ·refine Cov.g_off rfl rfl rfl ?_
     refine Cov.g_off rfl rfl rfl ?_;refine Cov.g_off rfl rfl rfl ?_;refine Cov.g_off rfl rfl rfl ?_;refine Cov.q .ro (.pick_t rfl rfl) rfl ?_
     refine Cov.prune _ ?_ (Cov.same rfl rfl rfl (hb11 () trivial))
     exact ⟨dor_t c10, rfl, trivial⟩
    ·refine Cov.g_on rfl ?_
     refine Cov.q .ro (.fieldAddr 1 rfl fl73_1 ty71.sz rfl) rfl ?_;refine Cov.g_on rfl ?_;refine Cov.q .ro (.load_own 0 rfl rfl ty71 rfl) rfl ?_;refine Cov.g_on rfl ?_;refine Cov.q .ro (.len_sl rfl rfl sl71) rfl ?_;refine Cov.g_on rfl ?_;refine Cov.q .ro (.gtr rfl rfl) rfl ?_;refine Cov.q .ro (.pick_f rfl rfl) rfl ?_
     refine Cov.prune _ ?_ (Cov.same rfl rfl rfl (hb11 () trivial))
     exact ⟨dor_f c10, rfl, trivial⟩
  ·intro hb7
   refine Cov.split 13 rfl (fun c6 => ?_) (fun c6 => ?_)
   ·refine Cov.g_off rfl rfl rfl ?_
    refine Cov.g_off rfl rfl rfl ?_;refine Cov.g_off rfl rfl rfl ?_;refine Cov.g_off rfl rfl rfl ?_;refine Cov.q .ro (.pick_t rfl rfl) rfl ?_
    refine Cov.prune _ ?_ (Cov.same rfl rfl rfl (hb7 () trivial))
    exact ⟨dor_t c6, rfl, trivial⟩
   ·refine Cov.g_on rfl ?_
    refine Cov.q .ro (.fieldAddr 1 rfl fl73_1 ty71.sz rfl) rfl ?_;refine Cov.g_on rfl ?_;refine Cov.q .ro (.load_own 0 rfl rfl ty71 rfl) rfl ?_;refine Cov.g_on rfl ?_;refine Cov.q .ro (.len_sl rfl rfl sl71) rfl ?_;refine Cov.g_on rfl ?_;refine Cov.q .ro (.lss rfl rfl) rfl ?_;refine Cov.q .ro (.pick_f rfl rfl) rfl ?_
    refine Cov.prune _ ?_ (Cov.same rfl rfl rfl (hb7 () trivial))
    exact ⟨dor_f c6, rfl, trivial⟩
 ·intro hb3
  refine Cov.split 8 rfl (fun c2 => ?_) (fun c2 => ?_)
  ·refine Cov.g_off rfl rfl rfl ?_
   refine Cov.g_off rfl rfl rfl ?_;refine Cov.g_off rfl rfl rfl ?_;refine Cov.q .ro (.pick_t rfl rfl) rfl ?_
   refine Cov.prune _ ?_ (Cov.same rfl rfl rfl (hb3 () trivial))
   exact ⟨dor_t c2, rfl, trivial⟩
  ·refine Cov.g_on rfl ?_
   refine Cov.q .ro (.fieldAddr 0 rfl fl73_0 ty3.sz rfl) rfl ?_;refine Cov.g_on rfl ?_;refine Cov.q .ro (.load_own 0 rfl rfl ty3 rfl) rfl ?_;refine Cov.g_on rfl ?_;refine Cov.q .ro (.gtr rfl rfl) rfl ?_;refine Cov.q .ro (.pick_f rfl rfl) rfl ?_
   refine Cov.prune _ ?_ (Cov.same rfl rfl rfl (hb3 () trivial))
   exact ⟨dor_f c2, rfl, trivial⟩
set_option maxHeartbeats 4000000 in
set_option maxRecDepth 100000 in
theorem cuckoo_homes_c {Fs : List Hp} {G : Hp} {x0_0 : Int} {a0_1 : Option Addr} {k0_1 : Nat} {x0_1 : List (Int × Int)} {x1 : Int} {r : (List Int)} (hG : G ∈ Fs) (s0_1 : SlR (Rep.pair (Rep.int .i64) (Rep.int .i64)) G a0_1 k0_1 x0_1) (h : cuckoo_homes (x0_0, x0_1) x1 = some r) : RetS Tryz.prog 104 #[.agg #[.int .i64 x0_0, .slice a0_1 x0_1.length k0_1], .int .i64 x1] Fs [] [] (fun v bo so => ∃ (oa0 : Option Addr) (ok0 : Nat) (oc0 : List Value), v = .slice oa0 r.length ok0 ∧ bo = [] ∧ so = [.s (.slice oa0 r.length ok0) 3 1 r.length oc0] ∧ OL (Rep.int .i64) G oc0 r) := by
 unfold cuckoo_homes at h
 try dsimp only at h
 refine RetS.of (vs := [_, _]) Tryz.func104 rfl Tryz.ntmps104 [(0, _), (1, _)] ⟨rfl, rfl, trivial⟩ rfl hG fun w0 S0 hS0 B0 => ?_
 refine Cov.seq ?_;refine Cov.region rfl ?_
 refine Cov.box [_, _] .ro rfl rfl rfl (fun b1 hb1 => ?_)
 refine Cov.q .ro (.assign rfl) rfl ?_;refine Cov.region_end ?_;refine Cov.seq ?_;refine Cov.region rfl ?_;refine Cov.q .ro (.assign rfl) rfl ?_;refine Cov.region_end ?_;refine Cov.seq ?_;refine Cov.seq ?_;refine Cov.region rfl ?_
 refine Cov.q .ro (.fieldAddr 1 rfl fl73_1 ty71.sz rfl) rfl ?_;refine Cov.q .ro (.load_own 0 rfl rfl ty71 rfl) rfl ?_;refine Cov.q .ro (.len_sl rfl rfl sl71) rfl ?_;refine Cov.q .ro (.move rfl) rfl ?_;refine Cov.region_end ?_;refine Cov.block ?_;refine Cov.own_nil 3 1 ?_
 refine Cov.loop2 (α := Nat × (List (Int × Int)) × List Int × Option Addr × Nat × List Value) (fun y => [(5, .slice y.2.2.2.1 y.2.2.1.length y.2.2.2.2.1), (11, .int .i64 (y.1 : Int))]) [(1, _), (2, _), (9, _), (10, _)] (fun y => []) (fun y => []) [_] (fun y => [.s (.slice y.2.2.2.1 y.2.2.1.length y.2.2.2.2.1) 3 1 y.2.2.1.length y.2.2.2.2.2]) [] (fun y => OL (Rep.int .i64) G y.2.2.2.2.2 y.2.2.1 ∧ List.drop y.1 x0_1 = y.2.1 ∧ cuckoo_homes_L1 x1 x0_0 y.2.1 y.2.2.1 = some r) (fun y => y.2.1.length) (0, x0_1, ([] : List Int), none, 0, []) ⟨(OL.nil (Rp' := (Rep.int .i64))), rfl, h⟩ ⟨rfl, rfl, rfl, rfl, rfl, rfl, trivial⟩ rfl rfl rfl (fun y hI hb66 => ?_)
 obtain ⟨i56, w57, v59, a60, k61, cs62⟩ := y
 obtain ⟨o63, g58, r65⟩ := hI
 try dsimp only at o63 g58 r65
 refine Cov.prune [(5, .slice a60 v59.length k61), (11, .int .i64 (i56 : Int)), (1, _), (2, _), (9, _), (10, _)] ⟨rfl, rfl, rfl, rfl, rfl, rfl, trivial⟩ ?_;refine Cov.same (bl' := [_]) (sl' := [.s (.slice a60 v59.length k61) 3 1 v59.length cs62]) (Fs' := G :: Fs) rfl rfl rfl ?_
 cases w57 with
 | nil =>
  rw [cuckoo_homes_L1] at r65; try dsimp only at r65
  refine Cov.seq ?_;refine Cov.region rfl ?_;refine Cov.q .ro (.lss rfl rfl) rfl ?_;refine Cov.region_end ?_;refine Cov.seq ?_
  refine Cov.cond_dec rfl (fun c => absurd c (drop_nil g58)) (fun _ => ?_)
  refine Cov.exit rfl ?_;refine Cov.seq ?_;refine Cov.region rfl ?_;refine Cov.q .ro (.move rfl) rfl ?_;refine Cov.q .ro (.assign rfl) rfl ?_;refine Cov.region_end ?_
  cases r65
  refine Cov.drop 1 0 [] _ rfl rfl ?_
  refine Cov.retS (c := ⟨104, none⟩) (.inr ⟨_, rfl⟩) [.tmp 4] [_] rfl Tryz.func104 Tryz.results104 ⟨RV.tmp rfl, trivial⟩ (fun _ h => List.mem_cons_of_mem _ h) ⟨a60, k61, cs62, rfl, rfl, rfl, o63⟩
 | cons x72 xs73 =>
  have r71 : cuckoo_homes_B1 x1 x0_0 (cuckoo_homes_L1 x1 x0_0 xs73) x72 v59 = some r := r65; clear r65; unfold cuckoo_homes_B1 at r71; try dsimp only at r71
  refine Cov.seq ?_;refine Cov.region rfl ?_;refine Cov.q .ro (.lss rfl rfl) rfl ?_;refine Cov.region_end ?_;refine Cov.seq ?_
  refine Cov.cond_dec rfl (fun _ => ?_) (fun c => absurd (drop_lt g58) c)
  refine Cov.skip ?_;refine Cov.seq ?_;refine Cov.block ?_;refine Cov.seq ?_;refine Cov.region rfl ?_
  obtain ⟨c74, p75, h76⟩ := SlR.get s0_1 (drop_idx g58)
  obtain ⟨_, _, rfl, rfl, rfl⟩ := h76
  refine Cov.q .ro (.idxR s0_1 rfl rfl (drop_idx g58) sl71 ty123.sz) rfl ?_;refine Cov.q .ro (.load_rp_a [_, _] p75 List.mem_cons_self rfl ty123 rfl) rfl ?_
  refine Cov.alloc .ro ty123 rfl (fun b77 hb77 => ?_)
  refine Cov.store 0 [_, _] [_, _] .ro rfl rfl rfl ty123 rfl rfl rfl rfl ?_;refine Cov.region_end ?_;refine Cov.region rfl ?_;refine Cov.q .ro (.move rfl) rfl ?_;refine Cov.q .ro (.fieldAddr 0 rfl fl123_0 ty3.sz rfl) rfl ?_;refine Cov.q .ro (.load_own 0 rfl rfl ty3 rfl) rfl ?_;refine Cov.q .ro (.move rfl) rfl ?_;refine Cov.q .ro (.mulw rfl rfl) rfl ?_;refine Cov.q .ro (.fieldAddr 1 rfl fl123_1 ty3.sz rfl) rfl ?_
  refine Cov.q .ro (.load_own 0 rfl rfl ty3 rfl) rfl ?_;refine Cov.q .ro (.addw rfl rfl) rfl ?_;refine Cov.q .ro (.remt rfl rfl (by decide)) rfl ?_;refine Cov.q .ro (.fieldAddr 0 rfl fl73_0 ty3.sz rfl) rfl ?_;refine Cov.q .ro (.load_own 1 rfl rfl ty3 rfl) rfl ?_
  obtain ⟨u78, hu78, r79⟩ := bind_some r71; clear r71
  refine Cov.q .ro (.remt rfl rfl (nz_some hu78)) rfl ?_
  refine Cov.lit [_] [(0, _)] .ro sl41 ty3 rfl rfl rfl rfl rfl rfl (fun b80 hb80 => ?_)
  have o81 : OL (Rep.int .i64) G [.int .i64 (Int.tmod (Int.tmod (w64 ((w64 (x72.1 * x1)) + x72.2)) 2147483647) x0_0)] ([(Int.tmod (Int.tmod (w64 ((w64 (x72.1 * x1)) + x72.2)) 2147483647) x0_0)] : List Int) := ((OL.cons rfl (Rep.intI .i64 (Int.tmod (Int.tmod (w64 ((w64 (x72.1 * x1)) + x72.2)) 2147483647) x0_0)) (OL.nil (Rp' := (Rep.int .i64)))) :)
  refine Cov.reval 27 (n' := ([(Int.tmod (Int.tmod (w64 ((w64 (x72.1 * x1)) + x72.2)) 2147483647) x0_0)] : List Int).length) rfl rfl ?_
  obtain ⟨u87, hu87, r88⟩ := bind_some r79; clear r79
  refine Cov.appO (Q := (Rep.int .i64)) 0 .ro sl41 ty3 rfl rfl rfl rfl rfl rfl o63 o81 rfl rfl rfl B0 hu87 rfl (fun a83 k84 cs85 o86 => ?_)
  refine Cov.q .ro (.assign rfl) rfl ?_;refine Cov.region_end ?_;refine Cov.prune [(5, _), (11, _), (1, _), (2, _), (9, _), (10, _)] ⟨rfl, rfl, rfl, rfl, rfl, rfl, trivial⟩ ?_;refine Cov.inBlock ?_;refine Cov.region rfl ?_;refine Cov.q .ro (.addw rfl rfl) rfl ?_;refine Cov.q .ro (.move rfl) rfl ?_;refine Cov.region_end ?_;refine Cov.drop 1 0 [_] _ rfl rfl ?_
  refine Cov.prune _ ?_ (Cov.same rfl rfl rfl (hb66 ((i56 + 1), xs73, u87, a83, k84, cs85) ⟨o86, (drop_succ g58), r88⟩ (Nat.lt_succ_self _)))
  exact ⟨rfl, (congrArg (fun z => some (Value.int .i64 z)) (idx_wrap (SlR.len s0_1) g58)), rfl, rfl, rfl, rfl, trivial⟩
set_option maxHeartbeats 4000000 in
set_option maxRecDepth 100000 in
theorem cuckoo_Layout_c {Fs : List Hp} {G : Hp} {x0_0 : Int} {a0_1 : Option Addr} {k0_1 : Nat} {x0_1 : List (Int × Int)} {x1 : Int} {r : ((List (List Int)) × Int)} (hG : G ∈ Fs) (s0_1 : SlR (Rep.pair (Rep.int .i64) (Rep.int .i64)) G a0_1 k0_1 x0_1) (h : cuckoo_Layout (x0_0, x0_1) x1 = some r) : RetW Tryz.prog 52 #[.agg #[.int .i64 x0_0, .slice a0_1 x0_1.length k0_1], .int .i64 x1] Fs [] [] (fun v bo so G => ∃ a0 : Option Addr, ∃ k0 : Nat, v = .tuple #[.slice a0 r.1.length k0, .int .i64 r.2] ∧ bo = [] ∧ so = [] ∧ SlR (Rep.sl (Rep.int .i64)) G a0 k0 r.1) := by
 unfold cuckoo_Layout at h
 try dsimp only at h
 refine RetW.of (vs := [_, _]) Tryz.func52 rfl Tryz.ntmps52 [(0, _), (1, _)] ⟨rfl, rfl, trivial⟩ rfl hG fun w0 S0 hS0 B0 => ?_
 refine Cov.seq ?_;refine Cov.region rfl ?_
 refine Cov.box [_, _] .ro rfl rfl rfl (fun b1 hb1 => ?_)
 refine Cov.q .ro (.assign rfl) rfl ?_;refine Cov.q .ro (.assign rfl) rfl ?_;refine Cov.region_end ?_;refine Cov.seq ?_;refine Cov.seq ?_;refine Cov.region rfl ?_;refine Cov.q .ro (.load_own_a 0 [_, _] rfl rfl ty73 rfl) rfl ?_
 obtain ⟨u2, hu2, r3⟩ := bind_some h; clear h
 refine Cov.callS (b1 := []) (b2 := [_]) (s1 := []) [_] [] .ro rfl rfl Tryz.call60 rfl rfl (cuckoo_Check_c (G := G) List.mem_cons_self s0_1 hu2) rfl (fun v5 bo so h4 => ?_)
 obtain ⟨rfl, rfl, rfl⟩ := h4
 refine Cov.same (bl' := [_]) (sl' := []) rfl rfl rfl ?_;refine Cov.q .ro (.assign rfl) rfl ?_;refine Cov.region_end ?_;refine Cov.seq ?_;refine Cov.region rfl ?_;refine Cov.q .ro (.move rfl) rfl ?_;refine Cov.q .ro (.neq rfl rfl) rfl ?_;refine Cov.region_end ?_
 refine Cov.cond_dec rfl (fun c6 => ?_) (fun c6 => ?_)
 ·have r7 := ifT r3 c6; clear r3
  refine Cov.seq ?_;refine Cov.region rfl ?_;refine Cov.q .ro (.move rfl) rfl ?_;refine Cov.q .ro (.assign rfl) rfl ?_;refine Cov.q .ro (.assign rfl) rfl ?_;refine Cov.region_end ?_
  cases r7
  refine Cov.drop 1 0 [] _ rfl rfl ?_
  refine Cov.retW (c := ⟨52, none⟩) (.inr ⟨_, rfl⟩) [.tmp 4, .tmp 5] [_, _] rfl Tryz.func52 Tryz.results52 ⟨RV.tmp rfl, RV.tmp rfl, trivial⟩ (fun _ h => List.mem_cons_of_mem _ h) List.mem_cons_self B0 (by subst hS0; simp [blks]) (fun G' hg => ⟨none, 0, rfl, rfl, rfl, (SlR.mono hg (SlR.nil (Rp' := (Rep.sl (Rep.int .i64)))))⟩)
 ·have r8 := ifF r3 c6; clear r3
  refine Cov.skip ?_;refine Cov.seq ?_;refine Cov.seq ?_;refine Cov.region rfl ?_;refine Cov.q .ro (.move rfl) rfl ?_;refine Cov.q .ro (.lss rfl rfl) rfl ?_;refine Cov.q .ro (.move rfl) rfl ?_;refine Cov.cutR 3 (β := Unit) (fun y => [(22, .bool (decide ((x1 < 0) ∨ (1024 < x1))))]) [(1, _), (2, _)] (fun y => G :: Fs) (fun y => []) [_] (fun y => []) [] (fun y => True) ⟨rfl, rfl, trivial⟩ [0] rfl [] rfl ?_ ?_
  ·rintro _ _
   refine Cov.prune [(22, .bool (decide ((x1 < 0) ∨ (1024 < x1)))), (1, _), (2, _)] ⟨rfl, rfl, rfl, trivial⟩ ?_;refine Cov.same (bl' := [_]) (sl' := []) (Fs' := G :: Fs) rfl rfl rfl ?_;refine Cov.region_end ?_
   refine Cov.cond_dec rfl (fun c13 => ?_) (fun c13 => ?_)
   ·have r14 := ifT r8 c13; clear r8
    refine Cov.seq ?_;refine Cov.region rfl ?_;refine Cov.q .ro (.assign rfl) rfl ?_;refine Cov.q .ro (.assign rfl) rfl ?_;refine Cov.region_end ?_
    cases r14
    refine Cov.drop 1 0 [] _ rfl rfl ?_
    refine Cov.retW (c := ⟨52, none⟩) (.inr ⟨_, rfl⟩) [.tmp 4, .tmp 5] [_, _] rfl Tryz.func52 Tryz.results52 ⟨RV.tmp rfl, RV.tmp rfl, trivial⟩ (fun _ h => List.mem_cons_of_mem _ h) List.mem_cons_self B0 (by subst hS0; simp [blks]) (fun G' hg => ⟨none, 0, rfl, rfl, rfl, (SlR.mono hg (SlR.nil (Rp' := (Rep.sl (Rep.int .i64)))))⟩)
   ·have r15 := ifF r8 c13; clear r8
    refine Cov.skip ?_;refine Cov.seq ?_;refine Cov.region rfl ?_;refine Cov.q .ro (.fieldAddr 0 rfl fl73_0 ty3.sz rfl) rfl ?_;refine Cov.q .ro (.load_own 0 rfl rfl ty3 rfl) rfl ?_
    obtain ⟨u16, hu16, r17⟩ := bind_some r15; clear r15
    refine Cov.makeN (G := G) (Q := (Rep.int .i64)) 3 1 .ro sl50 ty41 rfl rfl hu16 rfl rfl (fun b18 es19 cs20 hb18 o21 => ?_)
    refine Cov.q .ro (.assign rfl) rfl ?_;refine Cov.region_end ?_;refine Cov.seq ?_;refine Cov.seq ?_;refine Cov.region rfl ?_;refine Cov.q .ro (.move rfl) rfl ?_;refine Cov.q .ro (.move rfl) rfl ?_;refine Cov.region_end ?_;refine Cov.block ?_
    refine Cov.pullS 1 rfl [_, _] rfl ?_;refine Cov.pullS 1 rfl [_, _] rfl ?_
    refine Cov.loop2 (α := Nat × Hp × Int × List (List Int) × List NE × List Value × Int) (fun y => [(27, .int .i64 y.2.2.1), (7, .slice (some ⟨b18, 0, none⟩) y.2.2.2.1.length u16.length)]) [(2, _), (26, _)] (fun y => [y.2.1]) (fun y => [(b1, .cells #[.int .i64 y.2.2.2.2.2.2, .slice a0_1 x0_1.length k0_1] 73 (0, 0))]) [] (fun y => [.s (.slice (some ⟨b18, 0, none⟩) y.2.2.2.1.length u16.length) 41 1 y.2.2.2.1.length y.2.2.2.2.2.1, .g (packG 3 1 y.2.2.2.2.1)]) [] (fun y => HpLe G y.2.1 ∧ Bd w0 S0 Fs y.2.1 ∧ NL (Rep.int .i64) y.2.1 y.2.2.2.2.1 y.2.2.2.2.2.1 y.2.2.2.1 ∧ y.2.2.2.1.length = u16.length ∧ cuckoo_Layout_L2 x1 x0_1 y.1 y.2.2.1 y.2.2.2.1 y.2.2.2.2.2.2 = some r) (fun y => y.1) (big, G, 0, u16, es19, cs20, x0_0) ⟨(HpLe.refl _), B0, o21, rfl, r17⟩ ⟨rfl, rfl, rfl, rfl, trivial⟩ rfl rfl rfl (fun y hI hb216 => ?_)
    obtain ⟨n200, G202, v206, v207, es208, cs209, v214⟩ := y
    obtain ⟨e203, B204, o210, hl211, r215⟩ := hI
    try dsimp only at e203 B204 o210 hl211 r215
    refine Cov.prune [(27, .int .i64 v206), (7, .slice (some ⟨b18, 0, none⟩) v207.length u16.length), (2, _), (26, _)] ⟨rfl, rfl, rfl, rfl, trivial⟩ ?_;refine Cov.same (bl' := [(b1, .cells #[.int .i64 v214, .slice a0_1 x0_1.length k0_1] 73 (0, 0))]) (sl' := [.s (.slice (some ⟨b18, 0, none⟩) v207.length u16.length) 41 1 v207.length cs209, .g (packG 3 1 es208)]) (Fs' := G202 :: Fs) rfl rfl rfl ?_
    obtain ⟨m220, rfl⟩ : ∃ m, n200 = m + 1 := by cases n200 with | zero => exact absurd (show (none : Option _) = some _ from r215) (by simp) | succ m => exact ⟨m, rfl⟩
    have r219 : cuckoo_Layout_B2 x1 x0_1 (cuckoo_Layout_L2 x1 x0_1 m220) v206 v207 v214 = some r := r215; clear r215; unfold cuckoo_Layout_B2 at r219; try dsimp only at r219
    refine Cov.seq ?_;refine Cov.region rfl ?_;refine Cov.q .ro (.lss rfl rfl) rfl ?_;refine Cov.region_end ?_;refine Cov.seq ?_
    refine Cov.cond_dec rfl (fun c221 => ?_) (fun c221 => ?_)
    ·have r222 := ifT r219 c221; clear r219
     refine Cov.skip ?_;refine Cov.seq ?_;refine Cov.block ?_;refine Cov.seq ?_;refine Cov.region rfl ?_;refine Cov.q .ro (.move rfl) rfl ?_;refine Cov.q .ro (.assign rfl) rfl ?_;refine Cov.region_end ?_;refine Cov.seq ?_
     refine Cov.region rfl ?_;refine Cov.q .ro (.load_own_a 0 [_, _] rfl rfl ty73 rfl) rfl ?_;refine Cov.q .ro (.move rfl) rfl ?_
     obtain ⟨u223, hu223, r224⟩ := bind_some r222; clear r222
     refine Cov.callS (b1 := []) (b2 := [_]) (s1 := []) [_, _] [] .ro rfl rfl Tryz.call104 rfl rfl (cuckoo_homes_c (G := G202) List.mem_cons_self (SlR.mono e203 s0_1) hu223) rfl (fun v226 bo so h225 => ?_)
     obtain ⟨a228, k229, cs230, rfl, rfl, rfl, o231⟩ := h225
     refine Cov.same (bl' := [_]) (sl' := [_, _, _]) rfl rfl rfl ?_;refine Cov.q .ro (.len_sl rfl rfl sl41) rfl ?_;refine Cov.q .ro (.move rfl) rfl ?_;refine Cov.region_end ?_;refine Cov.block ?_;refine Cov.pullS 2 rfl [_, _, _] rfl ?_;refine Cov.pullS 2 rfl [_, _, _] rfl ?_
     refine Cov.loop2 (α := Nat × List Int × Hp × List (List Int) × List NE × List Value) (fun y => [(7, .slice (some ⟨b18, 0, none⟩) y.2.2.2.1.length u16.length), (34, .int .i64 (y.1 : Int))]) [(27, _), (2, _), (26, _), (8, _), (32, _), (33, _)] (fun y => [y.2.2.1]) (fun y => []) [_] (fun y => [.s (.slice (some ⟨b18, 0, none⟩) y.2.2.2.1.length u16.length) 41 1 y.2.2.2.1.length y.2.2.2.2.2, .g (packG 3 1 y.2.2.2.2.1)]) [_] (fun y => HpLe G202 y.2.2.1 ∧ Bd w0 S0 Fs y.2.2.1 ∧ NL (Rep.int .i64) y.2.2.1 y.2.2.2.2.1 y.2.2.2.2.2 y.2.2.2.1 ∧ y.2.2.2.1.length = u16.length ∧ List.drop y.1 u223 = y.2.1 ∧ cuckoo_Layout_L1 (cuckoo_Layout_L2 x1 x0_1 m220) v206 v214 y.2.1 y.2.2.2.1 = some r) (fun y => y.2.1.length) (0, u223, G202, v207, es208, cs209) ⟨(HpLe.refl _), B204, o210, hl211, rfl, r224⟩ ⟨rfl, rfl, rfl, rfl, rfl, rfl, rfl, rfl, trivial⟩ rfl rfl rfl (fun y hI hb317 => ?_)
     obtain ⟨i302, w303, G305, v309, es310, cs311⟩ := y
     obtain ⟨e306, B307, o312, hl313, g304, r316⟩ := hI
     try dsimp only at e306 B307 o312 hl313 g304 r316
     refine Cov.prune [(7, .slice (some ⟨b18, 0, none⟩) v309.length u16.length), (34, .int .i64 (i302 : Int)), (27, _), (2, _), (26, _), (8, _), (32, _), (33, _)] ⟨rfl, rfl, rfl, rfl, rfl, rfl, rfl, rfl, trivial⟩ ?_;refine Cov.same (bl' := [_]) (sl' := [.s (.slice (some ⟨b18, 0, none⟩) v309.length u16.length) 41 1 v309.length cs311, .g (packG 3 1 es310), _]) (Fs' := G305 :: Fs) rfl rfl rfl ?_
     cases w303 with
     | nil =>
      rw [cuckoo_Layout_L1] at r316; try dsimp only at r316
      refine Cov.seq ?_;refine Cov.region rfl ?_;refine Cov.q .ro (.lss rfl rfl) rfl ?_;refine Cov.region_end ?_;refine Cov.seq ?_
      refine Cov.cond_dec rfl (fun c => absurd c (drop_nil g304)) (fun _ => ?_)
      refine Cov.exit rfl ?_;refine Cov.inBlock ?_;refine Cov.region rfl ?_;refine Cov.q .ro (.addw rfl rfl) rfl ?_;refine Cov.q .ro (.move rfl) rfl ?_;refine Cov.region_end ?_;refine Cov.pullS 1 rfl [_, _, _] rfl ?_;refine Cov.pullS 1 rfl [_, _, _] rfl ?_;refine Cov.pullS 2 rfl [_, _, _] rfl ?_
      refine Cov.drop 0 1 _ [_, _] rfl rfl ?_
      refine Cov.prune _ ?_ (Cov.same rfl rfl rfl (hb216 (m220, G305, (w64 (v206 + 1)), v309, es310, cs311, v214) ⟨(HpLe.trans e203 e306), B307, o312, hl313, r316⟩ (Nat.lt_succ_self _)))
      exact ⟨rfl, rfl, rfl, rfl, trivial⟩
     | cons x325 xs326 =>
      have r324 : cuckoo_Layout_B1 (cuckoo_Layout_L2 x1 x0_1 m220) v206 v214 (cuckoo_Layout_L1 (cuckoo_Layout_L2 x1 x0_1 m220) v206 v214 xs326) x325 v309 = some r := r316; clear r316; unfold cuckoo_Layout_B1 at r324; try dsimp only at r324
      refine Cov.seq ?_;refine Cov.region rfl ?_;refine Cov.q .ro (.lss rfl rfl) rfl ?_;refine Cov.region_end ?_;refine Cov.seq ?_
      refine Cov.cond_dec rfl (fun _ => ?_) (fun c => absurd (drop_lt g304) c)
      refine Cov.skip ?_;refine Cov.seq ?_;refine Cov.block ?_;refine Cov.seq ?_;refine Cov.region rfl ?_
      obtain ⟨c327, p328, h329⟩ := OL.get (OL.mono e306 o231) (drop_idx g304)
      obtain rfl := h329
      refine Cov.q .ro (.idxO 2 rfl rfl rfl (drop_idx g304) sl41 ty3.sz) rfl ?_;refine Cov.q .ro (.loadO 2 0 rfl (drop_idx g304) p328 rfl (.inl ⟨rfl, rfl⟩) ty3 rfl) rfl ?_;refine Cov.q .ro (.assign rfl) rfl ?_;refine Cov.region_end ?_;refine Cov.seq ?_;refine Cov.region rfl ?_;refine Cov.q .ro (.move rfl) rfl ?_;refine Cov.q .ro (.move rfl) rfl ?_
      obtain ⟨u330, hu330, r331⟩ := bind_some r324; clear r324
      obtain ⟨e332, he333, hn334, ho335, p336⟩ := NL.get o312 hu330
      refine Cov.q .ro (.idxO 0 rfl rfl rfl hu330 sl50 ty41.sz) rfl ?_;refine Cov.q .ro (.loadO 0 0 rfl hu330 p336 rfl (.inl ⟨rfl, rfl⟩) ty41 rfl) rfl ?_;refine Cov.q .ro (.assign rfl) rfl ?_;refine Cov.region_end ?_;refine Cov.seq ?_;refine Cov.region rfl ?_;refine Cov.q .ro (.move rfl) rfl ?_;refine Cov.q .ro (.len_sl rfl rfl sl41) rfl ?_;refine Cov.q .ro (.eql rfl rfl) rfl ?_
      refine Cov.q .ro (.move rfl) rfl ?_
      obtain ⟨u344, h345, r346⟩ := bind_some r331; clear r331
      refine Cov.cutR 9 (β := Unit) (fun y => [(54, .bool u344)]) [(7, _), (34, _), (27, _), (2, _), (26, _), (8, _), (32, _), (33, _), (10, _), (11, _)] (fun y => G305 :: Fs) (fun y => []) [_] (fun y => []) [_, _, _] (fun y => True) ⟨rfl, rfl, rfl, rfl, rfl, rfl, rfl, rfl, rfl, rfl, trivial⟩ [0] rfl [0, 1, 2] rfl ?_ ?_
      ·rintro _ _
       refine Cov.prune [(54, .bool u344), (7, _), (34, _), (27, _), (2, _), (26, _), (8, _), (32, _), (33, _), (10, _), (11, _)] ⟨rfl, rfl, rfl, rfl, rfl, rfl, rfl, rfl, rfl, rfl, rfl, trivial⟩ ?_;refine Cov.same (bl' := [_]) (sl' := [_, _, _]) (Fs' := G305 :: Fs) rfl rfl rfl ?_;refine Cov.region_end ?_
       refine Cov.cond rfl (fun c349 => ?_) (fun c349 => ?_)
       ·have r350 := ifT r346 c349; clear r346
        refine Cov.region rfl ?_;refine Cov.q .ro (.move rfl) rfl ?_;refine Cov.q .ro (.move rfl) rfl ?_;refine Cov.q .ro (.move rfl) rfl ?_;refine Cov.q .ro (.move rfl) rfl ?_
        refine Cov.lit [_] [(0, _)] .ro sl41 ty3 rfl rfl rfl rfl rfl rfl (fun b351 hb351 => ?_)
        have o352 : OL (Rep.int .i64) G305 [.int .i64 v206] ([v206] : List Int) := ((OL.cons rfl (Rep.intI .i64 v206) (OL.nil (Rp' := (Rep.int .i64)))) :)
        refine Cov.reval 59 (n' := ([v206] : List Int).length) rfl rfl ?_
        refine Cov.freezeR 0 rfl rfl o352 [_, _, _] rfl B307 (fun G354 e355 B356 s357 => ?_)
        refine Cov.takeN 1 rfl he333 hn334 ?_
        obtain ⟨u364, hu364, r365⟩ := bind_some r350; clear r350
        refine Cov.appR (Q := (Rep.int .i64)) 0 .ro sl41 ty3 rfl rfl rfl rfl rfl (OL.mono e355 ho335) rfl rfl s357 rfl List.mem_cons_self hu364 rfl (fun a360 k361 cs362 o363 => ?_)
        obtain ⟨u367, hu367, r368⟩ := bind_some r365; clear r365
        obtain ⟨e369, he370, hn371, ho372, p373⟩ := NL.get (NL.mono e355 o312) hu367
        refine Cov.q .ro (.idxO 1 rfl rfl rfl hu367 sl50 ty41.sz) rfl ?_
        obtain ⟨u374, hu374, r375⟩ := bind_some r368; clear r368
        refine Cov.storeN 0 1 (Q := (Rep.int .i64)) .ro rfl rfl rfl (NL.mono e355 o312) he333 o363 hu374 rfl (.inl ⟨rfl, rfl⟩) rfl ty41 rfl (fun es376 cs377 hlcs377 o378 => ?_)
        refine Cov.reval 7 hlcs377 rfl ?_;refine Cov.reval 55 hlcs377 rfl ?_;refine Cov.region_end ?_;refine Cov.inBlock ?_;refine Cov.region rfl ?_;refine Cov.q .ro (.addw rfl rfl) rfl ?_;refine Cov.q .ro (.move rfl) rfl ?_;refine Cov.region_end ?_
        refine Cov.prune _ ?_ (Cov.same rfl rfl rfl (hb317 ((i302 + 1), xs326, G354, u374, es376, cs377) ⟨(HpLe.trans e306 e355), B356, o378, (hlcs377.trans hl313), (drop_succ g304), r375⟩ (Nat.lt_succ_self _)))
        exact ⟨rfl, (congrArg (fun z => some (Value.int .i64 z)) (idx_wrap (OL.len' o231) g304)), rfl, rfl, rfl, rfl, rfl, rfl, trivial⟩
       ·have r380 := ifBF r346 c349; clear r346
        refine Cov.skip ?_;refine Cov.inBlock ?_;refine Cov.region rfl ?_;refine Cov.q .ro (.addw rfl rfl) rfl ?_;refine Cov.q .ro (.move rfl) rfl ?_;refine Cov.region_end ?_
        refine Cov.prune _ ?_ (Cov.same rfl rfl rfl (hb317 ((i302 + 1), xs326, G305, v309, es310, cs311) ⟨e306, B307, o312, hl313, (drop_succ g304), r380⟩ (Nat.lt_succ_self _)))
        exact ⟨rfl, (congrArg (fun z => some (Value.int .i64 z)) (idx_wrap (OL.len' o231) g304)), rfl, rfl, rfl, rfl, rfl, rfl, trivial⟩
      ·intro hb343
       refine Cov.split 45 rfl (fun c342 => ?_) (fun c342 => ?_)
       ·have r381 := ifT h345 c342
        refine Cov.g_off rfl rfl rfl ?_;refine Cov.g_off rfl rfl rfl ?_;refine Cov.g_off rfl rfl rfl ?_;refine Cov.g_off rfl rfl rfl ?_;refine Cov.g_off rfl rfl rfl ?_;refine Cov.g_off rfl rfl rfl ?_;refine Cov.g_off rfl rfl rfl ?_;refine Cov.g_off rfl rfl rfl ?_;refine Cov.q .ro (.pick_t rfl rfl) rfl ?_
        refine Cov.prune _ ?_ (Cov.same rfl rfl rfl (hb343 () trivial))
        exact ⟨sval r381, rfl, rfl, rfl, rfl, rfl, rfl, rfl, rfl, rfl, rfl, trivial⟩
       ·have r382 := ifF h345 c342
        refine Cov.g_on rfl ?_;refine Cov.q .ro (.move rfl) rfl ?_;refine Cov.g_on rfl ?_;refine Cov.q .ro (.move rfl) rfl ?_;refine Cov.g_on rfl ?_;refine Cov.q .ro (.len_sl rfl rfl sl41) rfl ?_;refine Cov.g_on rfl ?_;refine Cov.q .ro (.subw rfl rfl) rfl ?_;refine Cov.g_on rfl ?_
        obtain ⟨u383, hu383, r384⟩ := bind_some r382; clear r382
        obtain ⟨c385, p386, h387⟩ := OL.get ho335 hu383
        obtain rfl := h387
        refine Cov.q .ro (.inN 1 rfl he333 hn334 (.idxO (l := u330) 0 rfl rfl rfl hu383 sl41 ty3.sz)) rfl ?_;refine Cov.g_on rfl ?_;refine Cov.q .ro (.inN 1 rfl he333 hn334 (.loadO (l := u330) 0 0 rfl hu383 p386 rfl (.inl ⟨rfl, rfl⟩) ty3 rfl)) rfl ?_;refine Cov.g_on rfl ?_;refine Cov.q .ro (.move rfl) rfl ?_;refine Cov.g_on rfl ?_;refine Cov.q .ro (.neq rfl rfl) rfl ?_;refine Cov.q .ro (.pick_f rfl rfl) rfl ?_
        refine Cov.prune _ ?_ (Cov.same rfl rfl rfl (hb343 () trivial))
        exact ⟨sval r384, rfl, rfl, rfl, rfl, rfl, rfl, rfl, rfl, rfl, rfl, trivial⟩
    ·have r388 := ifF r219 c221; clear r219
     refine Cov.exit rfl ?_;refine Cov.seq ?_;refine Cov.region rfl ?_;refine Cov.q .ro (.move rfl) rfl ?_;refine Cov.q .ro (.assign rfl) rfl ?_;refine Cov.q .ro (.assign rfl) rfl ?_;refine Cov.region_end ?_;refine Cov.pullS 1 rfl [_, _] rfl ?_;refine Cov.pullS 1 rfl [_, _] rfl ?_
     refine Cov.freezeN (Q := (Rep.int .i64)) rfl o210 rfl B204 (fun G389 e390 B391 s392 => ?_)
     cases r388
     refine Cov.drop 1 0 [] _ rfl rfl ?_
     refine Cov.retW (c := ⟨52, none⟩) (.inr ⟨_, rfl⟩) [.tmp 4, .tmp 5] [_, _] rfl Tryz.func52 Tryz.results52 ⟨RV.tmp rfl, RV.tmp rfl, trivial⟩ (fun _ h => List.mem_cons_of_mem _ h) List.mem_cons_self B391 (by subst hS0; simp [blks]) (fun G' hg => ⟨(some ⟨b18, 0, none⟩), u16.length, rfl, rfl, rfl, (SlR.mono hg s392)⟩)
  ·intro hb10
   refine Cov.split 19 rfl (fun c9 => ?_) (fun c9 => ?_)
   ·refine Cov.g_off rfl rfl rfl ?_
    refine Cov.g_off rfl rfl rfl ?_;refine Cov.q .ro (.pick_t rfl rfl) rfl ?_
    refine Cov.prune _ ?_ (Cov.same rfl rfl rfl (hb10 () trivial))
    exact ⟨dor_t c9, rfl, rfl, trivial⟩
   ·refine Cov.g_on rfl ?_
    refine Cov.q .ro (.move rfl) rfl ?_;refine Cov.g_on rfl ?_;refine Cov.q .ro (.gtr rfl rfl) rfl ?_;refine Cov.q .ro (.pick_f rfl rfl) rfl ?_
    refine Cov.prune _ ?_ (Cov.same rfl rfl rfl (hb10 () trivial))
    exact ⟨dor_f c9, rfl, rfl, trivial⟩
end Go.Proofs.YtnfalgmfmiolbaaGreat
end
