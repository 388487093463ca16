/- The walks. Printed by wip/lift/drive.py. -/
import Derived.Test.YtbhmhindommaeaaW2
namespace Go.Proofs.Ytbhmhindommaeaa
open Go.RowKit
set_option linter.unusedSimpArgs false
set_option linter.unusedVariables false
set_option synthInstance.maxSize 2000
set_option synthInstance.maxHeartbeats 400000

set_option maxHeartbeats 4000000 in
set_option maxRecDepth 100000 in
theorem make_Order_c {Fs : List Hp} {G : Hp} {p0 : Nat} {a0_0 : Option Addr} {k0_0 : Nat} {x0_0 : List Int} {x0_1 : Int} {x1 : Int} {r : ((List Int) × ((List Int) × Int))} (hG : G ∈ Fs) (s0_0 : SlR (Rep.int .i64) G a0_0 k0_0 x0_0) (h : make_Order (x0_0, x0_1) x1 = some r) : RetW Try.prog 18 #[.pointer (some ⟨p0, 0, none⟩), .int .i64 x1] Fs [(p0, .cells #[.slice a0_0 x0_0.length k0_0, .int .i64 x0_1] 64 (0, 0))] [] (fun v bo so G => ∃ a0 : Option Addr, ∃ k0 : Nat, ∃ (oa0 : Option Addr) (ok0 : Nat) (oc0 : List Value), v = .slice oa0 r.1.length ok0 ∧ bo = [(p0, .cells #[.slice a0 r.2.1.length k0, .int .i64 r.2.2] 64 (0, 0))] ∧ so = [.s (.slice oa0 r.1.length ok0) 3 1 r.1.length oc0] ∧ SlR (Rep.int .i64) G a0 k0 r.2.1 ∧ OL (Rep.int .i64) G oc0 r.1) := by
  unfold make_Order at h
  try dsimp only at h
  refine RetW.of (vs := [_, _]) Try.func18 rfl Try.ntmps18 [(0, _), (1, _)] ⟨rfl, rfl, trivial⟩ rfl hG fun w0 S0 hS0 B0 => ?_
  refine Cov.seq ?_
  refine Cov.region rfl ?_
  refine Cov.q .ro (.assign rfl) rfl ?_
  refine Cov.region_end ?_
  refine Cov.seq ?_
  refine Cov.region rfl ?_
  refine Cov.q .ro (.assign rfl) rfl ?_
  refine Cov.q .ro (.assign rfl) rfl ?_
  refine Cov.region_end ?_
  refine Cov.seq ?_
  refine Cov.seq ?_
  refine Cov.region rfl ?_
  refine Cov.q .ro (.move rfl) rfl ?_
  refine Cov.q .ro (.move rfl) rfl ?_
  refine Cov.region_end ?_
  refine Cov.cutB (β := List Int × Option Addr × Nat × List Value × Int) (fun y => [(5, .slice y.2.1 y.1.length y.2.2.1)]) [(0, _), (6, _)] (fun y => G :: Fs) (fun y => [(p0, .cells #[.slice a0_0 x0_0.length k0_0, .int .i64 y.2.2.2.2] 64 (0, 0))]) [] (fun y => [.s (.slice y.2.1 y.1.length y.2.2.1) 3 1 y.1.length y.2.2.2.1]) [] (fun y => OL (Rep.int .i64) G y.2.2.2.1 y.1 ∧ (make_Order_J2 x0_0) y.1 y.2.2.2.2 = some r) ⟨rfl, rfl, trivial⟩ [] rfl [] rfl ?_ ?_
  · intro y hI
    obtain ⟨v67, a68, k69, cs70, v73⟩ := y
    obtain ⟨o71, r75⟩ := hI
    try dsimp only at o71 r75
    refine Cov.prune [(5, .slice a68 v67.length k69), (0, _), (6, _)] ⟨rfl, rfl, rfl, trivial⟩ ?_
    refine Cov.same (bl' := [(p0, .cells #[.slice a0_0 x0_0.length k0_0, .int .i64 v73] 64 (0, 0))]) (sl' := [.s (.slice a68 v67.length k69) 3 1 v67.length cs70]) (Fs' := G :: Fs) rfl rfl rfl ?_
    unfold make_Order_J2 at r75
    try dsimp only at r75
    refine Cov.seq ?_
    refine Cov.block ?_
    refine Cov.freezeR 0 rfl rfl o71 [] rfl B0 (fun G136 e137 B138 s139 => ?_)
    refine Cov.own_nil 3 1 ?_
    refine Cov.loop2 (α := Nat × Hp × List Int × Option Addr × Nat × List Int × Option Addr × Nat × List Value × List Int × Option Addr × Nat × Int) (fun y => [(5, .slice y.2.2.2.1 y.2.2.1.length y.2.2.2.2.1), (6, .slice y.2.2.2.2.2.2.1 y.2.2.2.2.2.1.length y.2.2.2.2.2.2.2.1)]) [(0, _)] (fun y => [y.2.1]) (fun y => [(p0, .cells #[.slice y.2.2.2.2.2.2.2.2.2.2.1 y.2.2.2.2.2.2.2.2.2.1.length y.2.2.2.2.2.2.2.2.2.2.2.1, .int .i64 y.2.2.2.2.2.2.2.2.2.2.2.2] 64 (0, 0))]) [] (fun y => [.s (.slice y.2.2.2.2.2.2.1 y.2.2.2.2.2.1.length y.2.2.2.2.2.2.2.1) 3 1 y.2.2.2.2.2.1.length y.2.2.2.2.2.2.2.2.1]) [] (fun y => HpLe G136 y.2.1 ∧ Bd w0 S0 Fs y.2.1 ∧ SlR (Rep.int .i64) y.2.1 y.2.2.2.1 y.2.2.2.2.1 y.2.2.1 ∧ OL (Rep.int .i64) y.2.1 y.2.2.2.2.2.2.2.2.1 y.2.2.2.2.2.1 ∧ SlR (Rep.int .i64) y.2.1 y.2.2.2.2.2.2.2.2.2.2.1 y.2.2.2.2.2.2.2.2.2.2.2.1 y.2.2.2.2.2.2.2.2.2.1 ∧ make_Order_L1 y.1 y.2.2.1 y.2.2.2.2.2.1 y.2.2.2.2.2.2.2.2.2.1 y.2.2.2.2.2.2.2.2.2.2.2.2 = some r) (fun y => y.1) (big, G136, v67, a68, k69, ([] : List Int), none, 0, [], x0_0, a0_0, k0_0, v73) ⟨(HpLe.refl _), B138, s139, (OL.nil (Rp' := (Rep.int .i64))), (SlR.mono e137 s0_0), r75⟩ ⟨rfl, rfl, rfl, trivial⟩ rfl rfl rfl (fun y hI hb218 => ?_)
    obtain ⟨n196, G198, v202, a203, k204, v206, a207, k208, cs209, v212, a213, k214, v216⟩ := y
    obtain ⟨e199, B200, s205, o210, s215, r217⟩ := hI
    try dsimp only at e199 B200 s205 o210 s215 r217
    refine Cov.prune [(5, .slice a203 v202.length k204), (6, .slice a207 v206.length k208), (0, _)] ⟨rfl, rfl, rfl, trivial⟩ ?_
    refine Cov.same (bl' := [(p0, .cells #[.slice a213 v212.length k214, .int .i64 v216] 64 (0, 0))]) (sl' := [.s (.slice a207 v206.length k208) 3 1 v206.length cs209]) (Fs' := G198 :: Fs) rfl rfl rfl ?_
    obtain ⟨m220, rfl⟩ : ∃ m, n196 = m + 1 := by cases n196 with | zero => exact absurd (show (none : Option _) = some _ from r217) (by simp) | succ m => exact ⟨m, rfl⟩
    have r219 : make_Order_B1 (make_Order_L1 m220) v202 v206 v212 v216 = some r := r217; clear r217; unfold make_Order_B1 at r219; try dsimp only at r219
    refine Cov.seq ?_
    refine Cov.seq ?_
    refine Cov.region rfl ?_
    refine Cov.q .ro (.move rfl) rfl ?_
    refine Cov.q .ro (.len_sl rfl rfl sl22) rfl ?_
    refine Cov.q .ro (.gtr rfl rfl) rfl ?_
    refine Cov.region_end ?_
    refine Cov.cond_dec rfl (fun c221 => ?_) (fun c221 => ?_)
    · have r222 := ifT r219 c221; clear r219
      refine Cov.skip ?_
      refine Cov.block ?_
      refine Cov.seq ?_
      refine Cov.region rfl ?_
      refine Cov.q .ro (.move rfl) rfl ?_
      refine Cov.q .ro (.move rfl) rfl ?_
      refine Cov.q .ro (.len_sl rfl rfl sl22) rfl ?_
      obtain ⟨u223, hu223, r224⟩ := bind_some r222; clear r222
      refine Cov.callS (b1 := [_]) (b2 := []) (s1 := []) [_, _] [] .ro rfl rfl Try.call31 rfl rfl (make_Deck_Next_c (G := G198) List.mem_cons_self s215 hu223) rfl (fun v226 bo so h225 => ?_)
      obtain ⟨a227, k228, rfl, rfl, rfl, s229⟩ := h225
      refine Cov.same (bl' := [_]) (sl' := [_]) rfl rfl rfl ?_
      refine Cov.q .ro (.assign rfl) rfl ?_
      refine Cov.region_end ?_
      refine Cov.seq ?_
      refine Cov.region rfl ?_
      refine Cov.q .ro (.move rfl) rfl ?_
      refine Cov.q .ro (.move rfl) rfl ?_
      refine Cov.q .ro (.move rfl) rfl ?_
      obtain ⟨u230, hu230, r231⟩ := bind_some r224; clear r224
      obtain ⟨c232, p233, h234⟩ := SlR.get s205 hu230
      obtain rfl := h234
      refine Cov.q .ro (.idxR s205 rfl rfl hu230 sl22 ty3.sz) rfl ?_
      refine Cov.q .ro (.load_rp p233 List.mem_cons_self rfl ty3 rfl) rfl ?_
      refine Cov.lit [_] [(0, _)] .ro sl22 ty3 rfl rfl rfl rfl rfl rfl (fun b235 hb235 => ?_)
      have o236 : OL (Rep.int .i64) G198 [.int .i64 u230] ([u230] : List Int) := ((OL.cons rfl (Rep.intI .i64 u230) (OL.nil (Rp' := (Rep.int .i64)))) :)
      refine Cov.reval 30 (n' := ([u230] : List Int).length) rfl rfl ?_
      obtain ⟨u242, hu242, r243⟩ := bind_some r231; clear r231
      refine Cov.appO (Q := (Rep.int .i64)) 0 .ro sl22 ty3 rfl rfl rfl rfl rfl rfl o210 o236 rfl rfl rfl B200 hu242 rfl (fun a238 k239 cs240 o241 => ?_)
      refine Cov.q .ro (.assign rfl) rfl ?_
      refine Cov.region_end ?_
      refine Cov.prune [(5, _), (6, _), (0, _), (8, _)] ⟨rfl, rfl, rfl, rfl, trivial⟩ ?_
      refine Cov.drawL (.q 0 (.q 1 (.q 2 (.q 3 (.q 4 (.q 5 (.q 6 (.q 7 (.e 8 1 (.q 9 .nil)))))))))) [_] (by kernel_rfl) (by kernel_rfl) (pick_mem [0] rfl) ?_
      refine Cov.dq (.move rfl) rfl ?_
      refine Cov.dq (.move rfl) rfl ?_
      refine Cov.dq (.move rfl) rfl ?_
      obtain ⟨u245, hu245, r246⟩ := bind_some r243; clear r243
      obtain ⟨a247, k248, h249, s250⟩ := SlR.sub3 s205 hu245
      refine Cov.dq (.sliceR3n s205 rfl hu245 sl22 ty3.sz rfl rfl h249) rfl ?_
      refine Cov.dq (.move rfl) rfl ?_
      refine Cov.dq (.move rfl) rfl ?_
      refine Cov.dq (.addw rfl rfl) rfl ?_
      obtain ⟨u251, hu251, r252⟩ := bind_some r246; clear r246
      obtain ⟨a253, k254, h255, s256⟩ := SlR.sub s205 hu251
      refine Cov.dq (.sliceR s205 rfl hu251 sl22 ty3.sz (fun h => .yes' rfl h) (fun _ => .no) h255) rfl ?_
      obtain ⟨u257, hu257, r258⟩ := bind_some r252; clear r252
      refine Cov.appF (Q := (Rep.int .i64)) .d1 sl22 ty3 rfl rfl rfl rfl rfl s250 (sub3_full h249) rfl s256 rfl hu257 rfl B200 (fun a259 k260 G261 e262 B263 s264 => ?_)
      refine Cov.clsL e262 (pick_mem [0] rfl) ?_
      refine Cov.dq (.assign rfl) rfl ?_
      refine Cov.draw_end ?_
      refine Cov.inBlock ?_
      refine Cov.prune _ ?_ (Cov.same rfl rfl rfl (hb218 (m220, G261, u257, a259, k260, u242, a238, k239, cs240, u223.2.1, a227, k228, u223.2.2) ⟨(HpLe.trans e199 e262), B263, s264, (OL.mono e262 o241), (SlR.mono e262 s229), r258⟩ (Nat.lt_succ_self _)))
      exact ⟨rfl, rfl, rfl, trivial⟩
    · have r266 := ifF r219 c221; clear r219
      refine Cov.exit rfl ?_
      refine Cov.seq ?_
      refine Cov.region rfl ?_
      refine Cov.q .ro (.move rfl) rfl ?_
      refine Cov.q .ro (.assign rfl) rfl ?_
      refine Cov.region_end ?_
      cases r266
      refine Cov.retW (c := ⟨18, none⟩) (.inr ⟨_, rfl⟩) [.tmp 4] [_] rfl Try.func18 Try.results18 ⟨RV.tmp rfl, trivial⟩ (fun _ h => List.mem_cons_of_mem _ h) List.mem_cons_self B200 (by subst hS0; simp [blks]) (fun G' hg => ⟨a213, k214, a207, k208, cs209, rfl, rfl, rfl, (SlR.mono hg s215), (OL.mono hg o210)⟩)
  · intro hb267
    refine Cov.block ?_
    refine Cov.own_nil 3 1 ?_
    refine Cov.loop2 (α := Nat × List Int × Option Addr × Nat × List Value × Int) (fun y => [(5, .slice y.2.2.1 y.2.1.length y.2.2.2.1), (10, .int .i64 y.2.2.2.2.2)]) [(0, _), (6, _), (9, _)] (fun y => []) (fun y => []) [_] (fun y => [.s (.slice y.2.2.1 y.2.1.length y.2.2.2.1) 3 1 y.2.1.length y.2.2.2.2.1]) [] (fun y => OL (Rep.int .i64) G y.2.2.2.2.1 y.2.1 ∧ make_Order_L3 (make_Order_J2 x0_0) x1 x0_1 y.1 y.2.1 y.2.2.2.2.2 = some r) (fun y => y.1) (big, ([] : List Int), none, 0, [], 0) ⟨(OL.nil (Rp' := (Rep.int .i64))), h⟩ ⟨rfl, rfl, rfl, rfl, rfl, trivial⟩ rfl rfl rfl (fun y hI hb316 => ?_)
    obtain ⟨n306, v308, a309, k310, cs311, v314⟩ := y
    obtain ⟨o312, r315⟩ := hI
    try dsimp only at o312 r315
    refine Cov.prune [(5, .slice a309 v308.length k310), (10, .int .i64 v314), (0, _), (6, _), (9, _)] ⟨rfl, rfl, rfl, rfl, rfl, trivial⟩ ?_
    refine Cov.same (bl' := [_]) (sl' := [.s (.slice a309 v308.length k310) 3 1 v308.length cs311]) (Fs' := G :: Fs) rfl rfl rfl ?_
    obtain ⟨m321, rfl⟩ : ∃ m, n306 = m + 1 := by cases n306 with | zero => exact absurd (show (none : Option _) = some _ from r315) (by simp) | succ m => exact ⟨m, rfl⟩
    have r320 : make_Order_B3 (make_Order_J2 x0_0) x1 x0_1 (make_Order_L3 (make_Order_J2 x0_0) x1 x0_1 m321) v308 v314 = some r := r315; clear r315; unfold make_Order_B3 at r320; try dsimp only at r320
    refine Cov.seq ?_
    refine Cov.region rfl ?_
    refine Cov.q .ro (.lss rfl rfl) rfl ?_
    refine Cov.region_end ?_
    refine Cov.seq ?_
    refine Cov.cond_dec rfl (fun c322 => ?_) (fun c322 => ?_)
    · have r323 := ifT r320 c322; clear r320
      refine Cov.skip ?_
      refine Cov.seq ?_
      refine Cov.block ?_
      refine Cov.seq ?_
      refine Cov.region rfl ?_
      refine Cov.q .ro (.move rfl) rfl ?_
      refine Cov.q .ro (.assign rfl) rfl ?_
      refine Cov.region_end ?_
      refine Cov.region rfl ?_
      refine Cov.q .ro (.move rfl) rfl ?_
      refine Cov.q .ro (.move rfl) rfl ?_
      refine Cov.lit [_] [(0, _)] .ro sl22 ty3 rfl rfl rfl rfl rfl rfl (fun b324 hb324 => ?_)
      have o325 : OL (Rep.int .i64) G [.int .i64 v314] ([v314] : List Int) := ((OL.cons rfl (Rep.intI .i64 v314) (OL.nil (Rp' := (Rep.int .i64)))) :)
      refine Cov.reval 15 (n' := ([v314] : List Int).length) rfl rfl ?_
      obtain ⟨u331, hu331, r332⟩ := bind_some r323; clear r323
      refine Cov.appO (Q := (Rep.int .i64)) 0 .ro sl22 ty3 rfl rfl rfl rfl rfl rfl o312 o325 rfl rfl rfl B0 hu331 rfl (fun a327 k328 cs329 o330 => ?_)
      refine Cov.q .ro (.assign rfl) rfl ?_
      refine Cov.region_end ?_
      refine Cov.inBlock ?_
      refine Cov.region rfl ?_
      refine Cov.q .ro (.addw rfl rfl) rfl ?_
      refine Cov.q .ro (.move rfl) rfl ?_
      refine Cov.region_end ?_
      refine Cov.prune _ ?_ (Cov.same rfl rfl rfl (hb316 (m321, u331, a327, k328, cs329, (w64 (v314 + 1))) ⟨o330, r332⟩ (Nat.lt_succ_self _)))
      exact ⟨rfl, rfl, rfl, rfl, rfl, trivial⟩
    · have r334 := ifF r320 c322; clear r320
      refine Cov.exit rfl ?_
      refine Cov.prune _ ?_ (Cov.same rfl rfl rfl (hb267 (v308, a309, k310, cs311, x0_1) ⟨o312, r334⟩))
      exact ⟨rfl, rfl, rfl, trivial⟩

set_option maxHeartbeats 4000000 in
set_option maxRecDepth 100000 in
theorem slices_Index_Lintint_c {Fs : List Hp} {G : Hp} {a0 : Option Addr} {k0 : Nat} {x0 : List Int} {x1 : Int} {r : Int} (hG : G ∈ Fs) (s0 : SlR (Rep.int .i64) G a0 k0 x0) (h : slices_Index_Lintint x0 x1 = some r) : RetS Try.prog 49 #[.slice a0 x0.length k0, .int .i64 x1] Fs [] [] (fun v bo so => v = .int .i64 r ∧ bo = [] ∧ so = []) := by
  unfold slices_Index_Lintint at h
  try dsimp only at h
  refine RetS.of (vs := [_, _]) Try.func49 rfl Try.ntmps49 [(0, _), (1, _)] ⟨rfl, rfl, trivial⟩ rfl hG fun w0 S0 hS0 B0 => ?_
  refine Cov.seq ?_
  refine Cov.region rfl ?_
  refine Cov.q .ro (.assign rfl) rfl ?_
  refine Cov.region_end ?_
  refine Cov.seq ?_
  refine Cov.seq ?_
  refine Cov.region rfl ?_
  refine Cov.q .ro (.move rfl) rfl ?_
  refine Cov.q .ro (.len_sl rfl rfl sl22) rfl ?_
  refine Cov.q .ro (.move rfl) rfl ?_
  refine Cov.region_end ?_
  refine Cov.block ?_
  refine Cov.loop2 (α := Nat × List Int) (fun y => [(8, .int .i64 (y.1 : Int))]) [(0, _), (1, _), (7, _)] (fun y => []) (fun y => []) [] (fun y => []) [] (fun y => List.drop y.1 x0 = y.2 ∧ slices_Index_Lintint_L1 x1 y.2 y.1  = some r) (fun y => y.2.length) (0, x0) ⟨rfl, h⟩ ⟨rfl, rfl, rfl, rfl, trivial⟩ rfl rfl rfl (fun y hI hb19 => ?_)
  obtain ⟨i15, w16⟩ := y
  obtain ⟨g17, r18⟩ := hI
  try dsimp only at g17 r18
  refine Cov.prune [(8, .int .i64 (i15 : Int)), (0, _), (1, _), (7, _)] ⟨rfl, rfl, rfl, rfl, trivial⟩ ?_
  refine Cov.same (bl' := []) (sl' := []) (Fs' := G :: Fs) rfl rfl rfl ?_
  cases w16 with
  | nil =>
    rw [slices_Index_Lintint_L1] at r18; try dsimp only at r18
    refine Cov.seq ?_
    refine Cov.region rfl ?_
    refine Cov.q .ro (.lss rfl rfl) rfl ?_
    refine Cov.region_end ?_
    refine Cov.seq ?_
    refine Cov.cond_dec rfl (fun c => absurd c (drop_nil g17)) (fun _ => ?_)
    refine Cov.exit rfl ?_
    refine Cov.seq ?_
    refine Cov.region rfl ?_
    refine Cov.q .ro (.assign rfl) rfl ?_
    refine Cov.region_end ?_
    cases r18
    refine Cov.retS (c := ⟨49, none⟩) (.inr ⟨_, rfl⟩) [.tmp 4] [_] rfl Try.func49 Try.results49 ⟨RV.tmp rfl, trivial⟩ (fun _ h => List.mem_cons_of_mem _ h) ⟨rfl, rfl, rfl⟩
  | cons x24 xs25 =>
    have r23 : slices_Index_Lintint_B1 x1 (slices_Index_Lintint_L1 x1 xs25 (i15 + 1)) x24 i15  = some r := r18; clear r18; unfold slices_Index_Lintint_B1 at r23; try dsimp only at r23
    refine Cov.seq ?_
    refine Cov.region rfl ?_
    refine Cov.q .ro (.lss rfl rfl) rfl ?_
    refine Cov.region_end ?_
    refine Cov.seq ?_
    refine Cov.cond_dec rfl (fun _ => ?_) (fun c => absurd (drop_lt g17) c)
    refine Cov.skip ?_
    refine Cov.seq ?_
    refine Cov.block ?_
    refine Cov.seq ?_
    refine Cov.region rfl ?_
    refine Cov.q .ro (.move rfl) rfl ?_
    refine Cov.q .ro (.assign rfl) rfl ?_
    refine Cov.region_end ?_
    refine Cov.seq ?_
    refine Cov.region rfl ?_
    refine Cov.q .ro (.move rfl) rfl ?_
    refine Cov.q .ro (.move rfl) rfl ?_
    refine Cov.q .ro (.move rfl) rfl ?_
    obtain ⟨c26, p27, h28⟩ := SlR.get s0 (drop_idx g17)
    obtain rfl := h28
    refine Cov.q .ro (.idxR s0 rfl rfl (drop_idx g17) sl22 ty3.sz) rfl ?_
    refine Cov.q .ro (.load_rp p27 List.mem_cons_self rfl ty3 rfl) rfl ?_
    refine Cov.q .ro (.eql rfl rfl) rfl ?_
    refine Cov.region_end ?_
    refine Cov.cond_dec rfl (fun c29 => ?_) (fun c29 => ?_)
    · have r30 := ifT r23 c29; clear r23
      refine Cov.seq ?_
      refine Cov.region rfl ?_
      refine Cov.q .ro (.move rfl) rfl ?_
      refine Cov.q .ro (.assign rfl) rfl ?_
      refine Cov.region_end ?_
      refine Cov.prune [(4, _)] ⟨rfl, trivial⟩ ?_
      cases r30
      refine Cov.retS (c := ⟨49, none⟩) (.inr ⟨_, rfl⟩) [.tmp 4] [_] rfl Try.func49 Try.results49 ⟨RV.tmp rfl, trivial⟩ (fun _ h => List.mem_cons_of_mem _ h) ⟨rfl, rfl, rfl⟩
    · have r31 := ifF r23 c29; clear r23
      refine Cov.skip ?_
      refine Cov.inBlock ?_
      refine Cov.region rfl ?_
      refine Cov.q .ro (.addw rfl rfl) rfl ?_
      refine Cov.q .ro (.move rfl) rfl ?_
      refine Cov.region_end ?_
      refine Cov.prune _ ?_ (Cov.same rfl rfl rfl (hb19 ((i15 + 1), xs25) ⟨(drop_succ g17), r31⟩ (Nat.lt_succ_self _)))
      exact ⟨(congrArg (fun z => some (Value.int .i64 z)) (idx_wrap (SlR.len s0) g17)), rfl, rfl, rfl, trivial⟩

set_option maxHeartbeats 4000000 in
set_option maxRecDepth 100000 in
theorem slices_Contains_Lintint_c {Fs : List Hp} {G : Hp} {a0 : Option Addr} {k0 : Nat} {x0 : List Int} {x1 : Int} {r : Bool} (hG : G ∈ Fs) (s0 : SlR (Rep.int .i64) G a0 k0 x0) (h : slices_Contains_Lintint x0 x1 = some r) : RetS Try.prog 42 #[.slice a0 x0.length k0, .int .i64 x1] Fs [] [] (fun v bo so => v = .bool r ∧ bo = [] ∧ so = []) := by
  unfold slices_Contains_Lintint at h
  try dsimp only at h
  refine RetS.of (vs := [_, _]) Try.func42 rfl Try.ntmps42 [(0, _), (1, _)] ⟨rfl, rfl, trivial⟩ rfl hG fun w0 S0 hS0 B0 => ?_
  refine Cov.seq ?_
  refine Cov.region rfl ?_
  refine Cov.q .ro (.assign rfl) rfl ?_
  refine Cov.region_end ?_
  refine Cov.seq ?_
  refine Cov.region rfl ?_
  refine Cov.q .ro (.move rfl) rfl ?_
  refine Cov.q .ro (.move rfl) rfl ?_
  obtain ⟨u1, hu1, r2⟩ := bind_some h; clear h
  refine Cov.callS (b1 := []) (b2 := []) (s1 := []) [_, _] [] .ro rfl rfl Try.call49 rfl rfl (slices_Index_Lintint_c (G := G) List.mem_cons_self s0 hu1) rfl (fun v4 bo so h3 => ?_)
  obtain ⟨rfl, rfl, rfl⟩ := h3
  refine Cov.same (bl' := []) (sl' := []) rfl rfl rfl ?_
  refine Cov.q .ro (.geq rfl rfl) rfl ?_
  refine Cov.q .ro (.assign rfl) rfl ?_
  refine Cov.region_end ?_
  cases r2
  refine Cov.retS (c := ⟨42, none⟩) (.inr ⟨_, rfl⟩) [.tmp 4] [_] rfl Try.func42 Try.results42 ⟨RV.tmp rfl, trivial⟩ (fun _ h => List.mem_cons_of_mem _ h) ⟨rfl, rfl, rfl⟩

set_option maxHeartbeats 4000000 in
set_option maxRecDepth 100000 in
theorem slices_Index_Lboolbool_c {Fs : List Hp} {G : Hp} {a0 : Option Addr} {k0 : Nat} {x0 : List Bool} {x1 : Bool} {r : Int} (hG : G ∈ Fs) (s0 : SlR Rep.bool G a0 k0 x0) (h : slices_Index_Lboolbool x0 x1 = some r) : RetS Try.prog 54 #[.slice a0 x0.length k0, .bool x1] Fs [] [] (fun v bo so => v = .int .i64 r ∧ bo = [] ∧ so = []) := by
  unfold slices_Index_Lboolbool at h
  try dsimp only at h
  refine RetS.of (vs := [_, _]) Try.func54 rfl Try.ntmps54 [(0, _), (1, _)] ⟨rfl, rfl, trivial⟩ rfl hG fun w0 S0 hS0 B0 => ?_
  refine Cov.seq ?_
  refine Cov.region rfl ?_
  refine Cov.q .ro (.assign rfl) rfl ?_
  refine Cov.region_end ?_
  refine Cov.seq ?_
  refine Cov.seq ?_
  refine Cov.region rfl ?_
  refine Cov.q .ro (.move rfl) rfl ?_
  refine Cov.q .ro (.len_sl rfl rfl sl49) rfl ?_
  refine Cov.q .ro (.move rfl) rfl ?_
  refine Cov.region_end ?_
  refine Cov.block ?_
  refine Cov.loop2 (α := Nat × List Bool) (fun y => [(8, .int .i64 (y.1 : Int))]) [(0, _), (1, _), (7, _)] (fun y => []) (fun y => []) [] (fun y => []) [] (fun y => List.drop y.1 x0 = y.2 ∧ slices_Index_Lboolbool_L1 x1 y.2 y.1  = some r) (fun y => y.2.length) (0, x0) ⟨rfl, h⟩ ⟨rfl, rfl, rfl, rfl, trivial⟩ rfl rfl rfl (fun y hI hb19 => ?_)
  obtain ⟨i15, w16⟩ := y
  obtain ⟨g17, r18⟩ := hI
  try dsimp only at g17 r18
  refine Cov.prune [(8, .int .i64 (i15 : Int)), (0, _), (1, _), (7, _)] ⟨rfl, rfl, rfl, rfl, trivial⟩ ?_
  refine Cov.same (bl' := []) (sl' := []) (Fs' := G :: Fs) rfl rfl rfl ?_
  cases w16 with
  | nil =>
    rw [slices_Index_Lboolbool_L1] at r18; try dsimp only at r18
    refine Cov.seq ?_
    refine Cov.region rfl ?_
    refine Cov.q .ro (.lss rfl rfl) rfl ?_
    refine Cov.region_end ?_
    refine Cov.seq ?_
    refine Cov.cond_dec rfl (fun c => absurd c (drop_nil g17)) (fun _ => ?_)
    refine Cov.exit rfl ?_
    refine Cov.seq ?_
    refine Cov.region rfl ?_
    refine Cov.q .ro (.assign rfl) rfl ?_
    refine Cov.region_end ?_
    cases r18
    refine Cov.retS (c := ⟨54, none⟩) (.inr ⟨_, rfl⟩) [.tmp 4] [_] rfl Try.func54 Try.results54 ⟨RV.tmp rfl, trivial⟩ (fun _ h => List.mem_cons_of_mem _ h) ⟨rfl, rfl, rfl⟩
  | cons x24 xs25 =>
    have r23 : slices_Index_Lboolbool_B1 x1 (slices_Index_Lboolbool_L1 x1 xs25 (i15 + 1)) x24 i15  = some r := r18; clear r18; unfold slices_Index_Lboolbool_B1 at r23; try dsimp only at r23
    refine Cov.seq ?_
    refine Cov.region rfl ?_
    refine Cov.q .ro (.lss rfl rfl) rfl ?_
    refine Cov.region_end ?_
    refine Cov.seq ?_
    refine Cov.cond_dec rfl (fun _ => ?_) (fun c => absurd (drop_lt g17) c)
    refine Cov.skip ?_
    refine Cov.seq ?_
    refine Cov.block ?_
    refine Cov.seq ?_
    refine Cov.region rfl ?_
    refine Cov.q .ro (.move rfl) rfl ?_
    refine Cov.q .ro (.assign rfl) rfl ?_
    refine Cov.region_end ?_
    refine Cov.seq ?_
    refine Cov.region rfl ?_
    refine Cov.q .ro (.move rfl) rfl ?_
    refine Cov.q .ro (.move rfl) rfl ?_
    refine Cov.q .ro (.move rfl) rfl ?_
    obtain ⟨c26, p27, h28⟩ := SlR.get s0 (drop_idx g17)
    obtain rfl := h28
    refine Cov.q .ro (.idxR s0 rfl rfl (drop_idx g17) sl49 ty4.sz) rfl ?_
    refine Cov.q .ro (.load_rp p27 List.mem_cons_self rfl ty4 rfl) rfl ?_
    refine Cov.q .ro (.eql_b Try.underlying4 rfl rfl) rfl ?_
    refine Cov.region_end ?_
    refine Cov.cond_dec rfl (fun c29 => ?_) (fun c29 => ?_)
    · have r30 := ifT r23 c29; clear r23
      refine Cov.seq ?_
      refine Cov.region rfl ?_
      refine Cov.q .ro (.move rfl) rfl ?_
      refine Cov.q .ro (.assign rfl) rfl ?_
      refine Cov.region_end ?_
      refine Cov.prune [(4, _)] ⟨rfl, trivial⟩ ?_
      cases r30
      refine Cov.retS (c := ⟨54, none⟩) (.inr ⟨_, rfl⟩) [.tmp 4] [_] rfl Try.func54 Try.results54 ⟨RV.tmp rfl, trivial⟩ (fun _ h => List.mem_cons_of_mem _ h) ⟨rfl, rfl, rfl⟩
    · have r31 := ifF r23 c29; clear r23
      refine Cov.skip ?_
      refine Cov.inBlock ?_
      refine Cov.region rfl ?_
      refine Cov.q .ro (.addw rfl rfl) rfl ?_
      refine Cov.q .ro (.move rfl) rfl ?_
      refine Cov.region_end ?_
      refine Cov.prune _ ?_ (Cov.same rfl rfl rfl (hb19 ((i15 + 1), xs25) ⟨(drop_succ g17), r31⟩ (Nat.lt_succ_self _)))
      exact ⟨(congrArg (fun z => some (Value.int .i64 z)) (idx_wrap (SlR.len s0) g17)), rfl, rfl, rfl, trivial⟩

set_option maxHeartbeats 4000000 in
set_option maxRecDepth 100000 in
theorem slices_Contains_Lboolbool_c {Fs : List Hp} {G : Hp} {a0 : Option Addr} {k0 : Nat} {x0 : List Bool} {x1 : Bool} {r : Bool} (hG : G ∈ Fs) (s0 : SlR Rep.bool G a0 k0 x0) (h : slices_Contains_Lboolbool x0 x1 = some r) : RetS Try.prog 44 #[.slice a0 x0.length k0, .bool x1] Fs [] [] (fun v bo so => v = .bool r ∧ bo = [] ∧ so = []) := by
  unfold slices_Contains_Lboolbool at h
  try dsimp only at h
  refine RetS.of (vs := [_, _]) Try.func44 rfl Try.ntmps44 [(0, _), (1, _)] ⟨rfl, rfl, trivial⟩ rfl hG fun w0 S0 hS0 B0 => ?_
  refine Cov.seq ?_
  refine Cov.region rfl ?_
  refine Cov.q .ro (.assign rfl) rfl ?_
  refine Cov.region_end ?_
  refine Cov.seq ?_
  refine Cov.region rfl ?_
  refine Cov.q .ro (.move rfl) rfl ?_
  refine Cov.q .ro (.move rfl) rfl ?_
  obtain ⟨u1, hu1, r2⟩ := bind_some h; clear h
  refine Cov.callS (b1 := []) (b2 := []) (s1 := []) [_, _] [] .ro rfl rfl Try.call54 rfl rfl (slices_Index_Lboolbool_c (G := G) List.mem_cons_self s0 hu1) rfl (fun v4 bo so h3 => ?_)
  obtain ⟨rfl, rfl, rfl⟩ := h3
  refine Cov.same (bl' := []) (sl' := []) rfl rfl rfl ?_
  refine Cov.q .ro (.geq rfl rfl) rfl ?_
  refine Cov.q .ro (.assign rfl) rfl ?_
  refine Cov.region_end ?_
  cases r2
  refine Cov.retS (c := ⟨44, none⟩) (.inr ⟨_, rfl⟩) [.tmp 4] [_] rfl Try.func44 Try.results44 ⟨RV.tmp rfl, trivial⟩ (fun _ h => List.mem_cons_of_mem _ h) ⟨rfl, rfl, rfl⟩

set_option maxHeartbeats 4000000 in
set_option maxRecDepth 100000 in
theorem cuckoo_Fits_c {Fs : List Hp} {G : Hp} {x0_0 : Int} {a0_1 : Option Addr} {k0_1 : Nat} {x0_1 : List (Int × Int)} {a1 : Option Addr} {k1 : Nat} {x1 : List Int} {a2_0 : Option Addr} {k2_0 : Nat} {x2_0 : List Int} {r : Bool} (hG : G ∈ Fs) (s0_1 : SlR (Rep.pair (Rep.int .i64) (Rep.int .i64)) G a0_1 k0_1 x0_1) (s1 : SlR (Rep.int .i64) G a1 k1 x1) (s2_0 : SlR (Rep.int .i64) G a2_0 k2_0 x2_0) (h : cuckoo_Fits (x0_0, x0_1) x1 x2_0 = some r) : RetS Try.prog 19 #[.agg #[.int .i64 x0_0, .slice a0_1 x0_1.length k0_1], .slice a1 x1.length k1, .agg #[.slice a2_0 x2_0.length k2_0]] Fs [] [] (fun v bo so => v = .bool r ∧ bo = [] ∧ so = []) := by
  unfold cuckoo_Fits at h
  try dsimp only at h
  refine RetS.of (vs := [_, _, _]) Try.func19 rfl Try.ntmps19 [(0, _), (1, _), (2, _)] ⟨rfl, rfl, rfl, trivial⟩ rfl hG fun w0 S0 hS0 B0 => ?_
  refine Cov.seq ?_
  refine Cov.region rfl ?_
  refine Cov.box [_, _] .ro rfl rfl rfl (fun b1 hb1 => ?_)
  refine Cov.box [_] .ro rfl rfl rfl (fun b2 hb2 => ?_)
  refine Cov.q .ro (.assign rfl) rfl ?_
  refine Cov.region_end ?_
  refine Cov.seq ?_
  refine Cov.seq ?_
  refine Cov.region rfl ?_
  refine Cov.q .ro (.load_own_a 1 [_, _] rfl rfl ty25 rfl) rfl ?_
  refine Cov.q .ro (.move rfl) rfl ?_
  obtain ⟨u3, hu3, r4⟩ := bind_some h; clear h
  refine Cov.callS (b1 := []) (b2 := [_, _]) (s1 := []) [_, _] [] .ro rfl rfl Try.call40 rfl rfl (cuckoo_asked_c (G := G) List.mem_cons_self s0_1 s1 hu3) rfl (fun v6 bo so h5 => ?_)
  obtain ⟨rfl, rfl, rfl⟩ := h5
  refine Cov.same (bl' := [_, _]) (sl' := []) rfl rfl rfl ?_
  refine Cov.q .ro (.neq rfl rfl) rfl ?_
  refine Cov.q .ro (.move rfl) rfl ?_
  refine Cov.cutR 7 (β := Unit) (fun y => [(21, .bool (decide ((u3 ≠ 0) ∨ ((x2_0.length : Int) ≠ x0_0))))]) [(1, _), (3, _), (5, _)] (fun y => G :: Fs) (fun y => []) [_, _] (fun y => []) [] (fun y => True) ⟨rfl, rfl, rfl, trivial⟩ [0, 1] rfl [] rfl ?_ ?_
  · rintro _ _
    refine Cov.prune [(21, .bool (decide ((u3 ≠ 0) ∨ ((x2_0.length : Int) ≠ x0_0)))), (1, _), (3, _), (5, _)] ⟨rfl, rfl, rfl, rfl, trivial⟩ ?_
    refine Cov.same (bl' := [_, _]) (sl' := []) (Fs' := G :: Fs) rfl rfl rfl ?_
    refine Cov.region_end ?_
    refine Cov.cond_dec rfl (fun c11 => ?_) (fun c11 => ?_)
    · have r12 := ifT r4 c11; clear r4
      refine Cov.seq ?_
      refine Cov.region rfl ?_
      refine Cov.q .ro (.assign rfl) rfl ?_
      refine Cov.region_end ?_
      cases r12
      refine Cov.drop 2 0 [] _ rfl rfl ?_
      refine Cov.retS (c := ⟨19, none⟩) (.inr ⟨_, rfl⟩) [.tmp 6] [_] rfl Try.func19 Try.results19 ⟨RV.tmp rfl, trivial⟩ (fun _ h => List.mem_cons_of_mem _ h) ⟨rfl, rfl, rfl⟩
    · have r13 := ifF r4 c11; clear r4
      refine Cov.skip ?_
      refine Cov.seq ?_
      refine Cov.region rfl ?_
      refine Cov.q .ro (.move rfl) rfl ?_
      refine Cov.q .ro (.len_sl rfl rfl sl22) rfl ?_
      obtain ⟨u14, hu14, r15⟩ := bind_some r13; clear r13
      refine Cov.makeR (G := G) (Q := Rep.bool) .ro sl49 ty4 rfl rfl rfl ((Rep.boolI false) :) rfl rfl hu14 rfl rfl (fun b16 cs17 hb16 o18 => ?_)
      refine Cov.q .ro (.assign rfl) rfl ?_
      refine Cov.region_end ?_
      refine Cov.seq ?_
      refine Cov.seq ?_
      refine Cov.region rfl ?_
      refine Cov.q .ro (.fieldAddr 0 rfl fl43_0 ty22.sz rfl) rfl ?_
      refine Cov.q .ro (.load_own 0 rfl rfl ty22 rfl) rfl ?_
      refine Cov.q .ro (.len_sl rfl rfl sl22) rfl ?_
      refine Cov.q .ro (.move rfl) rfl ?_
      refine Cov.region_end ?_
      refine Cov.cutB (β := Hp × List Bool × Option Addr × Nat × List Value × Int) (fun y => [(7, .slice y.2.2.1 y.2.1.length y.2.2.2.1)]) [] (fun y => y.1 :: Fs) (fun y => [(b1, .cells #[.int .i64 y.2.2.2.2.2, .slice a0_1 x0_1.length k0_1] 25 (0, 0))]) [_] (fun y => [.s (.slice y.2.2.1 y.2.1.length y.2.2.2.1) 4 1 y.2.1.length y.2.2.2.2.1]) [] (fun y => HpLe G y.1 ∧ Bd w0 S0 Fs y.1 ∧ OL Rep.bool y.1 y.2.2.2.2.1 y.2.1 ∧ cuckoo_Fits_J1 y.2.1 y.2.2.2.2.2 = some r) trivial [0] rfl [] rfl ?_ ?_
      · intro y hI
        obtain ⟨G250, v254, a255, k256, cs257, v260⟩ := y
        obtain ⟨e251, B252, o258, r262⟩ := hI
        try dsimp only at e251 B252 o258 r262
        refine Cov.prune [(7, .slice a255 v254.length k256)] ⟨rfl, trivial⟩ ?_
        refine Cov.same (bl' := [(b1, .cells #[.int .i64 v260, .slice a0_1 x0_1.length k0_1] 25 (0, 0)), _]) (sl' := [.s (.slice a255 v254.length k256) 4 1 v254.length cs257]) (Fs' := G250 :: Fs) rfl rfl rfl ?_
        unfold cuckoo_Fits_J1 at r262
        try dsimp only at r262
        refine Cov.seq ?_
        refine Cov.region rfl ?_
        refine Cov.q .ro (.move rfl) rfl ?_
        refine Cov.freezeR 0 rfl rfl o258 [] rfl B252 (fun G265 e266 B267 s268 => ?_)
        obtain ⟨u270, hu270, r271⟩ := bind_some r262; clear r262
        refine Cov.callS (b1 := []) (b2 := [_, _]) (s1 := []) [_, _] [] .ro rfl rfl Try.call44 rfl rfl (slices_Contains_Lboolbool_c (G := G265) List.mem_cons_self s268 hu270) rfl (fun v273 bo so h272 => ?_)
        obtain ⟨rfl, rfl, rfl⟩ := h272
        refine Cov.same (bl' := [_, _]) (sl' := []) rfl rfl rfl ?_
        refine Cov.q .ro (.not rfl) rfl ?_
        refine Cov.q .ro (.assign rfl) rfl ?_
        refine Cov.region_end ?_
        cases r271
        refine Cov.drop 2 0 [] _ rfl rfl ?_
        refine Cov.retS (c := ⟨19, none⟩) (.inr ⟨_, rfl⟩) [.tmp 6] [_] rfl Try.func19 Try.results19 ⟨RV.tmp rfl, trivial⟩ (fun _ h => List.mem_cons_of_mem _ h) ⟨rfl, rfl, rfl⟩
      · intro hb274
        refine Cov.block ?_
        refine Cov.loop2 (α := Nat × List Int × Hp × List Bool × Option Addr × Nat × List Value) (fun y => [(7, .slice y.2.2.2.2.1 y.2.2.2.1.length y.2.2.2.2.2.1), (28, .int .i64 (y.1 : Int))]) [(1, _), (3, _), (26, _), (27, _)] (fun y => [y.2.2.1]) (fun y => []) [_, _] (fun y => [.s (.slice y.2.2.2.2.1 y.2.2.2.1.length y.2.2.2.2.2.1) 4 1 y.2.2.2.1.length y.2.2.2.2.2.2]) [] (fun y => HpLe G y.2.2.1 ∧ Bd w0 S0 Fs y.2.2.1 ∧ OL Rep.bool y.2.2.1 y.2.2.2.2.2.2 y.2.2.2.1 ∧ List.drop y.1 x2_0 = y.2.1 ∧ cuckoo_Fits_L2 cuckoo_Fits_J1 x1 x0_0 x0_1 y.2.1 y.1 y.2.2.2.1 = some r) (fun y => y.2.1.length) (0, x2_0, G, u14, (some ⟨b16, 0, none⟩), u14.length, cs17) ⟨(HpLe.refl _), B0, o18, rfl, r15⟩ ⟨rfl, rfl, rfl, rfl, rfl, rfl, trivial⟩ rfl rfl rfl (fun y hI hb397 => ?_)
        obtain ⟨i383, w384, G386, v390, a391, k392, cs393⟩ := y
        obtain ⟨e387, B388, o394, g385, r396⟩ := hI
        try dsimp only at e387 B388 o394 g385 r396
        refine Cov.prune [(7, .slice a391 v390.length k392), (28, .int .i64 (i383 : Int)), (1, _), (3, _), (26, _), (27, _)] ⟨rfl, rfl, rfl, rfl, rfl, rfl, trivial⟩ ?_
        refine Cov.same (bl' := [_, _]) (sl' := [.s (.slice a391 v390.length k392) 4 1 v390.length cs393]) (Fs' := G386 :: Fs) rfl rfl rfl ?_
        cases w384 with
        | nil =>
          rw [cuckoo_Fits_L2] at r396; try dsimp only at r396
          refine Cov.seq ?_
          refine Cov.region rfl ?_
          refine Cov.q .ro (.lss rfl rfl) rfl ?_
          refine Cov.region_end ?_
          refine Cov.seq ?_
          refine Cov.cond_dec rfl (fun c => absurd c (drop_nil g385)) (fun _ => ?_)
          refine Cov.exit rfl ?_
          refine Cov.pull 1 rfl [_, _] rfl ?_
          refine Cov.prune _ ?_ (Cov.same rfl rfl rfl (hb274 (G386, v390, a391, k392, cs393, x0_0) ⟨e387, B388, o394, r396⟩))
          exact ⟨rfl, trivial⟩
        | cons x404 xs405 =>
          have r403 : cuckoo_Fits_B2 cuckoo_Fits_J1 x1 x0_0 x0_1 (cuckoo_Fits_L2 cuckoo_Fits_J1 x1 x0_0 x0_1 xs405 (i383 + 1)) x404 i383 v390 = some r := r396; clear r396; unfold cuckoo_Fits_B2 at r403; try dsimp only at r403
          refine Cov.seq ?_
          refine Cov.region rfl ?_
          refine Cov.q .ro (.lss rfl rfl) rfl ?_
          refine Cov.region_end ?_
          refine Cov.seq ?_
          refine Cov.cond_dec rfl (fun _ => ?_) (fun c => absurd (drop_lt g385) c)
          refine Cov.skip ?_
          refine Cov.seq ?_
          refine Cov.block ?_
          refine Cov.seq ?_
          refine Cov.region rfl ?_
          refine Cov.q .ro (.move rfl) rfl ?_
          obtain ⟨c406, p407, h408⟩ := SlR.get (SlR.mono e387 s2_0) (drop_idx g385)
          obtain rfl := h408
          refine Cov.q .ro (.idxR (SlR.mono e387 s2_0) rfl rfl (drop_idx g385) sl22 ty3.sz) rfl ?_
          refine Cov.q .ro (.load_rp p407 List.mem_cons_self rfl ty3 rfl) rfl ?_
          refine Cov.q .ro (.assign rfl) rfl ?_
          refine Cov.q .ro (.assign rfl) rfl ?_
          refine Cov.region_end ?_
          refine Cov.seq ?_
          refine Cov.seq ?_
          refine Cov.region rfl ?_
          refine Cov.q .ro (.move rfl) rfl ?_
          refine Cov.q .ro (.eql rfl rfl) rfl ?_
          refine Cov.region_end ?_
          refine Cov.cond_dec rfl (fun c409 => ?_) (fun c409 => ?_)
          · have r410 := ifT r403 c409; clear r403
            refine Cov.exit rfl ?_
            refine Cov.region rfl ?_
            refine Cov.q .ro (.addw rfl rfl) rfl ?_
            refine Cov.q .ro (.move rfl) rfl ?_
            refine Cov.region_end ?_
            refine Cov.prune _ ?_ (Cov.same rfl rfl rfl (hb397 ((i383 + 1), xs405, G386, v390, a391, k392, cs393) ⟨e387, B388, o394, (drop_succ g385), r410⟩ (Nat.lt_succ_self _)))
            exact ⟨rfl, (congrArg (fun z => some (Value.int .i64 z)) (idx_wrap (SlR.len s2_0) g385)), rfl, rfl, rfl, rfl, trivial⟩
          · have r411 := ifF r403 c409; clear r403
            refine Cov.skip ?_
            refine Cov.seq ?_
            refine Cov.seq ?_
            refine Cov.drawL (.q 0 (.q 1 (.q 2 (.q 3 (.q 4 (.q 5 (.q 6 (.q 7 (.q 8 (.q 9 (.q 10 (.e 11 1 (.e 12 1 (.q 13 (.q 14 (.q 15 (.q 16 (.q 17 (.q 18 (.q 19 (.q 21 (.e 20 1 (.e 22 1 (.q 23 (.q 24 .nil))))))))))))))))))))))))) [_, _] (by kernel_rfl) (by kernel_rfl) (pick_mem [0, 1] rfl) ?_
            refine Cov.dq (.move rfl) rfl ?_
            refine Cov.dq (.lss rfl rfl) rfl ?_
            refine Cov.dq (.move rfl) rfl ?_
            refine Cov.cutD 5 (β := Unit) (fun y => [(42, .bool (decide ((x404 < 0) ∨ ((x1.length : Int) ≤ x404))))]) [(7, _), (28, _), (1, _), (3, _), (26, _), (27, _), (8, _), (9, _)] (fun y => G386 :: Fs) (fun y => []) [_, _] (fun y => []) [_] (fun y => True) ⟨rfl, rfl, rfl, rfl, rfl, rfl, rfl, rfl, trivial⟩ [0, 1] rfl [0] rfl ?_ ?_
            · rintro _ _
              refine Cov.prune [(42, .bool (decide ((x404 < 0) ∨ ((x1.length : Int) ≤ x404)))), (7, _), (28, _), (1, _), (3, _), (26, _), (27, _), (8, _), (9, _)] ⟨rfl, rfl, rfl, rfl, rfl, rfl, rfl, rfl, rfl, trivial⟩ ?_
              refine Cov.same (bl' := [_, _]) (sl' := [_]) (Fs' := G386 :: Fs) rfl rfl rfl ?_
              refine Cov.dq (.move rfl) rfl ?_
              obtain ⟨u423, h424, r425⟩ := bind_some r411; clear r411
              refine Cov.cutD 5 (β := Unit) (fun y => [(48, .bool u423)]) [(7, _), (28, _), (1, _), (3, _), (26, _), (27, _), (8, _), (9, _)] (fun y => G386 :: Fs) (fun y => []) [_, _] (fun y => []) [_] (fun y => True) ⟨rfl, rfl, rfl, rfl, rfl, rfl, rfl, rfl, trivial⟩ [0, 1] rfl [0] rfl ?_ ?_
              · rintro _ _
                refine Cov.prune [(48, .bool u423), (7, _), (28, _), (1, _), (3, _), (26, _), (27, _), (8, _), (9, _)] ⟨rfl, rfl, rfl, rfl, rfl, rfl, rfl, rfl, rfl, trivial⟩ ?_
                refine Cov.same (bl' := [_, _]) (sl' := [_]) (Fs' := G386 :: Fs) rfl rfl rfl ?_
                refine Cov.dq (.move rfl) rfl ?_
                obtain ⟨u453, h454, r455⟩ := bind_some r425; clear r425
                refine Cov.cutD 10 (β := Hp) (fun y => [(59, .bool u453)]) [(7, _), (28, _), (1, _), (3, _), (26, _), (27, _), (9, _)] (fun y => y :: Fs) (fun y => []) [_, _] (fun y => []) [_] (fun y => HpLe G386 y ∧ Bd w0 S0 Fs y) ⟨rfl, rfl, rfl, rfl, rfl, rfl, rfl, trivial⟩ [0, 1] rfl [0] rfl ?_ ?_
                · rintro G456 ⟨e457, B458⟩
                  refine Cov.prune [(59, .bool u453), (7, _), (28, _), (1, _), (3, _), (26, _), (27, _), (9, _)] ⟨rfl, rfl, rfl, rfl, rfl, rfl, rfl, rfl, trivial⟩ ?_
                  refine Cov.same (bl' := [_, _]) (sl' := [_]) (Fs' := G456 :: Fs) rfl rfl rfl ?_
                  refine Cov.draw_end ?_
                  refine Cov.cond rfl (fun c460 => ?_) (fun c460 => ?_)
                  · have r461 := ifT r455 c460; clear r455
                    refine Cov.seq ?_
                    refine Cov.region rfl ?_
                    refine Cov.q .ro (.assign rfl) rfl ?_
                    refine Cov.region_end ?_
                    cases r461
                    refine Cov.drop 2 0 [] _ rfl rfl ?_
                    refine Cov.drop 0 1 _ [] rfl rfl ?_
                    refine Cov.retS (c := ⟨19, none⟩) (.inr ⟨_, rfl⟩) [.tmp 6] [_] rfl Try.func19 Try.results19 ⟨RV.tmp rfl, trivial⟩ (fun _ h => List.mem_cons_of_mem _ h) ⟨rfl, rfl, rfl⟩
                  · have r462 := ifBF r455 c460; clear r455
                    refine Cov.skip ?_
                    refine Cov.region rfl ?_
                    refine Cov.q .ro (.move rfl) rfl ?_
                    refine Cov.q .ro (.move rfl) rfl ?_
                    obtain ⟨u463, hu463, r464⟩ := bind_some r462; clear r462
                    obtain ⟨c465, p466, h467⟩ := OL.get (OL.mono e457 o394) hu463
                    obtain rfl := h467
                    refine Cov.q .ro (.idxO 0 rfl rfl rfl hu463 sl49 ty4.sz) rfl ?_
                    obtain ⟨u468, hu468, r469⟩ := bind_some r464; clear r464
                    refine Cov.storeR 0 0 (Q := Rep.bool) .ro rfl rfl (OL.mono e457 o394) hu468 rfl (.inl ⟨rfl, rfl⟩) rfl ty4 p466 ((Rep.boolI true) :) rfl rfl (fun cs470 hlcs470 o471 => ?_)
                    refine Cov.reval 7 hlcs470 rfl ?_
                    refine Cov.reval 60 hlcs470 rfl ?_
                    refine Cov.region_end ?_
                    refine Cov.inBlock ?_
                    refine Cov.region rfl ?_
                    refine Cov.q .ro (.addw rfl rfl) rfl ?_
                    refine Cov.q .ro (.move rfl) rfl ?_
                    refine Cov.region_end ?_
                    refine Cov.prune _ ?_ (Cov.same rfl rfl rfl (hb397 ((i383 + 1), xs405, G456, u468, a391, k392, cs470) ⟨(HpLe.trans e387 e457), B458, o471, (drop_succ g385), r469⟩ (Nat.lt_succ_self _)))
                    exact ⟨rfl, (congrArg (fun z => some (Value.int .i64 z)) (idx_wrap (SlR.len s2_0) g385)), rfl, rfl, rfl, rfl, trivial⟩
                · intro hb452
                  refine Cov.split_b 49 rfl (fun c451 => ?_) (fun c451 => ?_)
                  · have r473 := ifT h454 c451
                    refine Cov.dgq_off rfl rfl rfl ?_
                    refine Cov.dgq_off rfl rfl rfl ?_
                    refine Cov.dgq_off rfl rfl rfl ?_
                    refine Cov.dgq_off rfl rfl rfl ?_
                    refine Cov.dgq_off rfl rfl rfl ?_
                    refine Cov.dgq_off rfl rfl rfl ?_
                    refine Cov.dge_offL rfl rfl rfl (HpLe.refl _) (pick_mem [0, 1] rfl) ?_
                    refine Cov.dge_offL rfl rfl rfl (HpLe.refl _) (pick_mem [0, 1] rfl) ?_
                    refine Cov.dgq_off rfl rfl rfl ?_
                    refine Cov.dq (.pick_t rfl rfl) rfl ?_
                    refine Cov.prune _ ?_ (Cov.same rfl rfl rfl (hb452 G386 ⟨(HpLe.refl _), B388⟩))
                    exact ⟨sval r473, rfl, rfl, rfl, rfl, rfl, rfl, rfl, trivial⟩
                  · have r474 := ifBF h454 c451
                    refine Cov.dgq_on rfl ?_
                    refine Cov.dq (.load_own_a 1 [_, _] rfl rfl ty25 rfl) rfl ?_
                    refine Cov.dgq_on rfl ?_
                    refine Cov.dq (.move rfl) rfl ?_
                    refine Cov.dgq_on rfl ?_
                    refine Cov.dq (.move rfl) rfl ?_
                    refine Cov.dgq_on rfl ?_
                    obtain ⟨u475, hu475, r476⟩ := bind_some r474; clear r474
                    obtain ⟨c477, p478, h479⟩ := SlR.get (SlR.mono e387 s1) hu475
                    obtain rfl := h479
                    refine Cov.dq (.idxR (SlR.mono e387 s1) rfl rfl hu475 sl22 ty3.sz) rfl ?_
                    refine Cov.dgq_on rfl ?_
                    refine Cov.dq (.load_rp p478 List.mem_cons_self rfl ty3 rfl) rfl ?_
                    refine Cov.dgq_on rfl ?_
                    refine Cov.dq (.move rfl) rfl ?_
                    refine Cov.dge_on rfl ?_
                    obtain ⟨u480, hu480, r481⟩ := bind_some r476; clear r476
                    refine Cov.callS (b1 := []) (b2 := [_, _]) (s1 := []) [_, _] [] .d1 rfl rfl Try.call43 rfl rfl (cuckoo_homes_c (G := G386) List.mem_cons_self (SlR.mono e387 s0_1) hu480) rfl (fun v483 bo so h482 => ?_)
                    obtain ⟨a485, k486, cs487, rfl, rfl, rfl, o488⟩ := h482
                    refine Cov.same (bl' := [_, _]) (sl' := [_, _]) rfl rfl rfl ?_
                    refine Cov.clsL (HpLe.refl _) (pick_mem [0, 1] rfl) ?_
                    refine Cov.dge_on rfl ?_
                    refine Cov.freezeR 0 rfl rfl o488 [_] rfl B388 (fun G489 e490 B491 s492 => ?_)
                    obtain ⟨u494, hu494, r495⟩ := bind_some r481; clear r481
                    refine Cov.callS (b1 := []) (b2 := [_, _]) (s1 := []) [_, _] [] .d1 rfl rfl Try.call42 rfl rfl (slices_Contains_Lintint_c (G := G489) List.mem_cons_self s492 hu494) rfl (fun v497 bo so h496 => ?_)
                    obtain ⟨rfl, rfl, rfl⟩ := h496
                    refine Cov.same (bl' := [_, _]) (sl' := [_]) rfl rfl rfl ?_
                    refine Cov.clsL e490 (pick_mem [0, 1] rfl) ?_
                    refine Cov.dgq_on rfl ?_
                    refine Cov.dq (.not rfl) rfl ?_
                    refine Cov.dq (.pick_f rfl rfl) rfl ?_
                    refine Cov.prune _ ?_ (Cov.same rfl rfl rfl (hb452 G489 ⟨e490, B491⟩))
                    exact ⟨sval r495, rfl, rfl, rfl, rfl, rfl, rfl, rfl, trivial⟩
              · intro hb422
                refine Cov.split 43 rfl (fun c421 => ?_) (fun c421 => ?_)
                · have r498 := ifT h424 c421
                  refine Cov.dgq_off rfl rfl rfl ?_
                  refine Cov.dgq_off rfl rfl rfl ?_
                  refine Cov.dge_offL rfl rfl rfl (HpLe.refl _) (pick_mem [0, 1] rfl) ?_
                  refine Cov.dge_offL rfl rfl rfl (HpLe.refl _) (pick_mem [0, 1] rfl) ?_
                  refine Cov.dq (.pick_t rfl rfl) rfl ?_
                  refine Cov.prune _ ?_ (Cov.same rfl rfl rfl (hb422 () trivial))
                  exact ⟨sval r498, rfl, rfl, rfl, rfl, rfl, rfl, rfl, rfl, trivial⟩
                · have r499 := ifF h424 c421
                  refine Cov.dgq_on rfl ?_
                  refine Cov.dq (.move rfl) rfl ?_
                  refine Cov.dgq_on rfl ?_
                  refine Cov.dq (.move rfl) rfl ?_
                  refine Cov.dge_on rfl ?_
                  obtain ⟨u500, hu500, r501⟩ := bind_some r499; clear r499
                  obtain ⟨c502, p503, h504⟩ := OL.get o394 hu500
                  obtain rfl := h504
                  refine Cov.q .d1 (.idxO 0 rfl rfl rfl hu500 sl49 ty4.sz) rfl ?_
                  refine Cov.clsL (HpLe.refl _) (pick_mem [0, 1] rfl) ?_
                  refine Cov.dge_on rfl ?_
                  refine Cov.q .d1 (.loadO 0 0 rfl hu500 p503 rfl (.inl ⟨rfl, rfl⟩) ty4 rfl) rfl ?_
                  refine Cov.clsL (HpLe.refl _) (pick_mem [0, 1] rfl) ?_
                  refine Cov.dq (.pick_f rfl rfl) rfl ?_
                  refine Cov.prune _ ?_ (Cov.same rfl rfl rfl (hb422 () trivial))
                  exact ⟨sval r501, rfl, rfl, rfl, rfl, rfl, rfl, rfl, rfl, trivial⟩
            · intro hb413
              refine Cov.split 37 rfl (fun c412 => ?_) (fun c412 => ?_)
              · refine Cov.dgq_off rfl rfl rfl ?_
                refine Cov.dgq_off rfl rfl rfl ?_
                refine Cov.dgq_off rfl rfl rfl ?_
                refine Cov.dgq_off rfl rfl rfl ?_
                refine Cov.dq (.pick_t rfl rfl) rfl ?_
                refine Cov.prune _ ?_ (Cov.same rfl rfl rfl (hb413 () trivial))
                exact ⟨dor_t c412, rfl, rfl, rfl, rfl, rfl, rfl, rfl, rfl, trivial⟩
              · refine Cov.dgq_on rfl ?_
                refine Cov.dq (.move rfl) rfl ?_
                refine Cov.dgq_on rfl ?_
                refine Cov.dq (.move rfl) rfl ?_
                refine Cov.dgq_on rfl ?_
                refine Cov.dq (.len_sl rfl rfl sl22) rfl ?_
                refine Cov.dgq_on rfl ?_
                refine Cov.dq (.geq rfl rfl) rfl ?_
                refine Cov.dq (.pick_f rfl rfl) rfl ?_
                refine Cov.prune _ ?_ (Cov.same rfl rfl rfl (hb413 () trivial))
                exact ⟨dor_f c412, rfl, rfl, rfl, rfl, rfl, rfl, rfl, rfl, trivial⟩
  · intro hb8
    refine Cov.split 14 rfl (fun c7 => ?_) (fun c7 => ?_)
    · refine Cov.g_off rfl rfl rfl ?_
      refine Cov.g_off rfl rfl rfl ?_
      refine Cov.g_off rfl rfl rfl ?_
      refine Cov.g_off rfl rfl rfl ?_
      refine Cov.g_off rfl rfl rfl ?_
      refine Cov.g_off rfl rfl rfl ?_
      refine Cov.q .ro (.pick_t rfl rfl) rfl ?_
      refine Cov.prune _ ?_ (Cov.same rfl rfl rfl (hb8 () trivial))
      exact ⟨dor_t c7, rfl, rfl, rfl, trivial⟩
    · refine Cov.g_on rfl ?_
      refine Cov.q .ro (.fieldAddr 0 rfl fl43_0 ty22.sz rfl) rfl ?_
      refine Cov.g_on rfl ?_
      refine Cov.q .ro (.load_own 0 rfl rfl ty22 rfl) rfl ?_
      refine Cov.g_on rfl ?_
      refine Cov.q .ro (.len_sl rfl rfl sl22) rfl ?_
      refine Cov.g_on rfl ?_
      refine Cov.q .ro (.fieldAddr 0 rfl fl25_0 ty3.sz rfl) rfl ?_
      refine Cov.g_on rfl ?_
      refine Cov.q .ro (.load_own 1 rfl rfl ty3 rfl) rfl ?_
      refine Cov.g_on rfl ?_
      refine Cov.q .ro (.neq rfl rfl) rfl ?_
      refine Cov.q .ro (.pick_f rfl rfl) rfl ?_
      refine Cov.prune _ ?_ (Cov.same rfl rfl rfl (hb8 () trivial))
      exact ⟨dor_f c7, rfl, rfl, rfl, trivial⟩

set_option maxHeartbeats 4000000 in
set_option maxRecDepth 100000 in
theorem law19_possible_R_c (n : Nat) : ∀ {Fs : List Hp} {G : Hp} {x0_0 : Int} {a0_1 : Option Addr} {k0_1 : Nat} {x0_1 : List (Int × Int)} {a1 : Option Addr} {k1 : Nat} {x1 : List Int} {a2 : Option Addr} {k2 : Nat} {x2 : List Bool} {cc2 : List Value} {bb2 : Option Nat} {pre2 post2 : List Value} {r : (Bool × (List Bool))} (hG : G ∈ Fs) (s0_1 : SlR (Rep.pair (Rep.int .i64) (Rep.int .i64)) G a0_1 k0_1 x0_1) (s1 : SlR (Rep.int .i64) G a1 k1 x1) (vva2 : VA a2 bb2 x2.length k2 pre2 cc2) (oo2 : OL Rep.bool G cc2 x2) (h : law19_possible_R n (x0_0, x0_1) x1 x2 = some r), RetS Try.prog 20 #[.agg #[.int .i64 x0_0, .slice a0_1 x0_1.length k0_1], .slice a1 x1.length k1, .slice a2 x2.length k2] Fs [] [.g (viewG bb2 4 pre2 cc2 post2)] (fun v bo so => ∃ lc0 : List Value, v = .bool r.1 ∧ bo = [] ∧ so = [.g (viewG bb2 4 pre2 lc0 post2)] ∧ OL Rep.bool G lc0 r.2 ∧ r.2.length = x2.length) := by
  induction n with
  | zero => intro Fs G x0_0 a0_1 k0_1 x0_1 a1 k1 x1 a2 k2 x2 cc2 bb2 pre2 post2 r hG s0_1 s1 vva2 oo2 h; exact absurd h (by unfold law19_possible_R; simp)
  | succ n ih =>
    intro Fs G x0_0 a0_1 k0_1 x0_1 a1 k1 x1 a2 k2 x2 cc2 bb2 pre2 post2 r hG s0_1 s1 vva2 oo2 h
    unfold law19_possible_R at h
    unfold law19_possible_B2 at h
    try dsimp only at h
    refine RetS.of (vs := [_, _, _]) Try.func20 rfl Try.ntmps20 [(0, _), (1, _), (2, _)] ⟨rfl, rfl, rfl, trivial⟩ rfl hG fun w0 S0 hS0 B0 => ?_
    refine Cov.seq ?_
    refine Cov.region rfl ?_
    refine Cov.box [_, _] .ro rfl rfl rfl (fun b2 hb2 => ?_)
    refine Cov.q .ro (.assign rfl) rfl ?_
    refine Cov.region_end ?_
    refine Cov.seq ?_
    refine Cov.seq ?_
    refine Cov.region rfl ?_
    refine Cov.q .ro (.move rfl) rfl ?_
    refine Cov.q .ro (.len_sl rfl rfl sl22) rfl ?_
    refine Cov.q .ro (.eql rfl rfl) rfl ?_
    refine Cov.region_end ?_
    refine Cov.cond_dec rfl (fun c3 => ?_) (fun c3 => ?_)
    · have r4 := ifT h c3; clear h
      refine Cov.seq ?_
      refine Cov.region rfl ?_
      refine Cov.q .ro (.assign rfl) rfl ?_
      refine Cov.region_end ?_
      cases r4
      refine Cov.drop 1 0 [] _ rfl rfl ?_
      refine Cov.retS (c := ⟨20, none⟩) (.inr ⟨_, rfl⟩) [.tmp 6] [_] rfl Try.func20 Try.results20 ⟨RV.tmp rfl, trivial⟩ (fun _ h => List.mem_cons_of_mem _ h) ⟨cc2, rfl, rfl, rfl, oo2, rfl⟩
    · have r5 := ifF h c3; clear h
      refine Cov.skip ?_
      refine Cov.seq ?_
      refine Cov.drawL (.q 0 (.q 1 (.q 2 (.q 3 (.e 4 1 (.q 5 (.q 6 (.q 7 (.q 8 (.q 9 .nil)))))))))) [_] (by kernel_rfl) (by kernel_rfl) (pick_mem [0] rfl) ?_
      refine Cov.dq (.load_own_a 0 [_, _] rfl rfl ty25 rfl) rfl ?_
      refine Cov.dq (.move rfl) rfl ?_
      obtain ⟨u6, hu6, r7⟩ := bind_some r5; clear r5
      obtain ⟨c8, p9, h10⟩ := SlR.get s1 hu6
      obtain rfl := h10
      refine Cov.dq (.idxR s1 rfl rfl hu6 sl22 ty3.sz) rfl ?_
      refine Cov.dq (.load_rp p9 List.mem_cons_self rfl ty3 rfl) rfl ?_
      obtain ⟨u11, hu11, r12⟩ := bind_some r7; clear r7
      refine Cov.callS (b1 := []) (b2 := [_]) (s1 := []) [_, _] [] .d1 rfl rfl Try.call24 rfl rfl (ref19_Homes_c (G := G) List.mem_cons_self s0_1 hu11) rfl (fun v14 bo so h13 => ?_)
      obtain ⟨a16, k17, cs18, rfl, rfl, rfl, o19⟩ := h13
      refine Cov.same (bl' := [_]) (sl' := [_, _]) rfl rfl rfl ?_
      refine Cov.clsL (HpLe.refl _) (pick_mem [0] rfl) ?_
      refine Cov.dq (.move rfl) rfl ?_
      refine Cov.dq (.extract rfl rfl) rfl ?_
      refine Cov.dq (.extract rfl rfl) rfl ?_
      refine Cov.dq (.assign rfl) rfl ?_
      refine Cov.dq (.assign rfl) rfl ?_
      refine Cov.draw_end ?_
      refine Cov.prune [(1, _), (2, _), (3, _), (7, _)] ⟨rfl, rfl, rfl, rfl, trivial⟩ ?_
      refine Cov.seq ?_
      refine Cov.seq ?_
      refine Cov.region rfl ?_
      refine Cov.q .ro (.move rfl) rfl ?_
      refine Cov.q .ro (.len_sl rfl rfl sl22) rfl ?_
      refine Cov.q .ro (.move rfl) rfl ?_
      refine Cov.region_end ?_
      refine Cov.block ?_
      refine Cov.pullS 1 rfl [_, _] rfl ?_
      refine Cov.loop2 (α := Nat × List Int × List Bool × List Value) (fun y => [(2, .slice a2 y.2.2.1.length k2), (24, .int .i64 (y.1 : Int))]) [(1, _), (3, _), (22, _), (23, _)] (fun y => []) (fun y => []) [_] (fun y => [.g (viewG bb2 4 pre2 y.2.2.2 post2)]) [_] (fun y => OL Rep.bool G y.2.2.2 y.2.2.1 ∧ VA a2 bb2 y.2.2.1.length k2 pre2 y.2.2.2 ∧ y.2.2.1.length = x2.length ∧ List.drop y.1 u11.1 = y.2.1 ∧ law19_possible_L1 (law19_possible_R n) x1 x0_0 x0_1 y.2.1 y.2.2.1 = some r) (fun y => y.2.1.length) (0, u11.1, x2, cc2) ⟨oo2, vva2, rfl, rfl, r12⟩ ⟨rfl, rfl, rfl, rfl, rfl, rfl, trivial⟩ rfl rfl rfl (fun y hI hb90 => ?_)
      obtain ⟨i80, w81, v83, cs84⟩ := y
      obtain ⟨o85, va86, hl87, g82, r89⟩ := hI
      try dsimp only at o85 va86 hl87 g82 r89
      refine Cov.prune [(2, .slice a2 v83.length k2), (24, .int .i64 (i80 : Int)), (1, _), (3, _), (22, _), (23, _)] ⟨rfl, rfl, rfl, rfl, rfl, rfl, trivial⟩ ?_
      refine Cov.same (bl' := [_]) (sl' := [.g (viewG bb2 4 pre2 cs84 post2), _]) (Fs' := G :: Fs) rfl rfl rfl ?_
      cases w81 with
      | nil =>
        rw [law19_possible_L1] at r89; try dsimp only at r89
        refine Cov.seq ?_
        refine Cov.region rfl ?_
        refine Cov.q .ro (.lss rfl rfl) rfl ?_
        refine Cov.region_end ?_
        refine Cov.seq ?_
        refine Cov.cond_dec rfl (fun c => absurd c (drop_nil g82)) (fun _ => ?_)
        refine Cov.exit rfl ?_
        refine Cov.seq ?_
        refine Cov.region rfl ?_
        refine Cov.q .ro (.assign rfl) rfl ?_
        refine Cov.region_end ?_
        cases r89
        refine Cov.drop 1 0 [] _ rfl rfl ?_
        refine Cov.pullS 1 rfl [_, _] rfl ?_
        refine Cov.drop 0 1 _ [_] rfl rfl ?_
        refine Cov.retS (c := ⟨20, none⟩) (.inr ⟨_, rfl⟩) [.tmp 6] [_] rfl Try.func20 Try.results20 ⟨RV.tmp rfl, trivial⟩ (fun _ h => List.mem_cons_of_mem _ h) ⟨cs84, rfl, rfl, rfl, o85, hl87⟩
      | cons x97 xs98 =>
        have r96 : law19_possible_B1 (law19_possible_R n) x1 x0_0 x0_1 (law19_possible_L1 (law19_possible_R n) x1 x0_0 x0_1 xs98) x97 v83 = some r := r89; clear r89; unfold law19_possible_B1 at r96; try dsimp only at r96
        refine Cov.seq ?_
        refine Cov.region rfl ?_
        refine Cov.q .ro (.lss rfl rfl) rfl ?_
        refine Cov.region_end ?_
        refine Cov.seq ?_
        refine Cov.cond_dec rfl (fun _ => ?_) (fun c => absurd (drop_lt g82) c)
        refine Cov.skip ?_
        refine Cov.seq ?_
        refine Cov.block ?_
        refine Cov.seq ?_
        refine Cov.region rfl ?_
        obtain ⟨c99, p100, h101⟩ := OL.get o19 (drop_idx g82)
        obtain rfl := h101
        refine Cov.q .ro (.idxO 1 rfl rfl rfl (drop_idx g82) sl22 ty3.sz) rfl ?_
        refine Cov.q .ro (.loadO 1 0 rfl (drop_idx g82) p100 rfl (.inl ⟨rfl, rfl⟩) ty3 rfl) rfl ?_
        refine Cov.q .ro (.assign rfl) rfl ?_
        refine Cov.region_end ?_
        refine Cov.seq ?_
        refine Cov.seq ?_
        refine Cov.region rfl ?_
        refine Cov.q .ro (.move rfl) rfl ?_
        refine Cov.q .ro (.move rfl) rfl ?_
        obtain ⟨u102, hu102, r103⟩ := bind_some r96; clear r96
        obtain ⟨c104, p105, h106⟩ := OL.get o85 hu102
        obtain rfl := h106
        refine Cov.q .ro (.idxV 0 rfl va86 o85 rfl rfl hu102 sl49 ty4.sz rfl rfl) rfl ?_
        refine Cov.q .ro (.loadV 0 0 rfl va86 o85 rfl rfl hu102 p105 rfl (.inl ⟨rfl, rfl⟩) ty4 rfl) rfl ?_
        refine Cov.region_end ?_
        refine Cov.cond rfl (fun c107 => ?_) (fun c107 => ?_)
        · have r108 := ifT r103 c107; clear r103
          refine Cov.exit rfl ?_
          refine Cov.region rfl ?_
          refine Cov.q .ro (.addw rfl rfl) rfl ?_
          refine Cov.q .ro (.move rfl) rfl ?_
          refine Cov.region_end ?_
          refine Cov.prune _ ?_ (Cov.same rfl rfl rfl (hb90 ((i80 + 1), xs98, v83, cs84) ⟨o85, va86, hl87, (drop_succ g82), r108⟩ (Nat.lt_succ_self _)))
          exact ⟨rfl, (congrArg (fun z => some (Value.int .i64 z)) (idx_wrap (OL.len' o19) g82)), rfl, rfl, rfl, rfl, trivial⟩
        · have r109 := ifBF r103 c107; clear r103
          refine Cov.skip ?_
          refine Cov.seq ?_
          refine Cov.region rfl ?_
          refine Cov.q .ro (.move rfl) rfl ?_
          refine Cov.q .ro (.move rfl) rfl ?_
          obtain ⟨u110, hu110, r111⟩ := bind_some r109; clear r109
          obtain ⟨c112, p113, h114⟩ := OL.get o85 hu110
          obtain rfl := h114
          refine Cov.q .ro (.idxV 0 rfl va86 o85 rfl rfl hu110 sl49 ty4.sz rfl rfl) rfl ?_
          obtain ⟨u115, hu115, r116⟩ := bind_some r111; clear r111
          refine Cov.storeV 0 0 (Q := Rep.bool) .ro rfl va86 rfl rfl o85 hu115 rfl (.inl ⟨rfl, rfl⟩) rfl ty4 p113 ((Rep.boolI true) :) rfl rfl (fun cs117 hlcs117 o118 va119 => ?_)
          refine Cov.reval 2 hlcs117 rfl ?_
          refine Cov.reval 28 hlcs117 rfl ?_
          refine Cov.reval 32 hlcs117 rfl ?_
          refine Cov.region_end ?_
          refine Cov.seq ?_
          refine Cov.seq ?_
          refine Cov.drawL (.q 0 (.q 1 (.q 2 (.q 3 (.e 4 2 .nil))))) [_] (by kernel_rfl) (by kernel_rfl) (pick_mem [0] rfl) ?_
          refine Cov.dq (.load_own_a 0 [_, _] rfl rfl ty25 rfl) rfl ?_
          refine Cov.dq (.move rfl) rfl ?_
          obtain ⟨u121, hu121, r122⟩ := bind_some r116; clear r116
          obtain ⟨a123, k124, h125, s126⟩ := SlR.sub s1 hu121
          refine Cov.dq (.sliceR s1 rfl hu121 sl22 ty3.sz (fun h => .yes' rfl h) (fun _ => .no) h125) rfl ?_
          refine Cov.dq (.move rfl) rfl ?_
          obtain ⟨u127, hu127, r128⟩ := bind_some r122; clear r122
          refine Cov.callS (b1 := []) (b2 := [_]) (s1 := [_]) [_, _, _] [] .d2 rfl rfl Try.call20 rfl rfl (ih (G := G) List.mem_cons_self s0_1 s126 va119 o118 hu127) rfl (fun v130 bo so h129 => ?_)
          obtain ⟨cs131, rfl, rfl, rfl, o132, hl133⟩ := h129
          refine Cov.same (bl' := [_]) (sl' := [_, _]) rfl rfl rfl ?_
          have va135 := VA.call va119 o118 o132 hl133
          refine Cov.reval 2 hl133 rfl ?_
          refine Cov.reval 28 hl133 rfl ?_
          refine Cov.reval 32 hl133 rfl ?_
          refine Cov.reval 38 hl133 rfl ?_
          refine Cov.draw_end ?_
          refine Cov.prune [(2, _), (24, _), (1, _), (3, _), (22, _), (23, _), (10, _), (39, _)] ⟨rfl, rfl, rfl, rfl, rfl, rfl, rfl, rfl, trivial⟩ ?_
          refine Cov.cond rfl (fun c136 => ?_) (fun c136 => ?_)
          · have r137 := ifT r128 c136; clear r128
            refine Cov.seq ?_
            refine Cov.region rfl ?_
            refine Cov.q .ro (.assign rfl) rfl ?_
            refine Cov.region_end ?_
            cases r137
            refine Cov.drop 1 0 [] _ rfl rfl ?_
            refine Cov.pullS 1 rfl [_, _] rfl ?_
            refine Cov.drop 0 1 _ [_] rfl rfl ?_
            refine Cov.retS (c := ⟨20, none⟩) (.inr ⟨_, rfl⟩) [.tmp 6] [_] rfl Try.func20 Try.results20 ⟨RV.tmp rfl, trivial⟩ (fun _ h => List.mem_cons_of_mem _ h) ⟨cs131, rfl, rfl, rfl, o132, (hl133.trans (hlcs117.trans hl87))⟩
          · have r138 := ifBF r128 c136; clear r128
            refine Cov.skip ?_
            refine Cov.region rfl ?_
            refine Cov.q .ro (.move rfl) rfl ?_
            refine Cov.q .ro (.move rfl) rfl ?_
            obtain ⟨u139, hu139, r140⟩ := bind_some r138; clear r138
            obtain ⟨c141, p142, h143⟩ := OL.get o132 hu139
            obtain rfl := h143
            refine Cov.q .ro (.idxV 0 rfl va135 o132 rfl rfl hu139 sl49 ty4.sz rfl rfl) rfl ?_
            obtain ⟨u144, hu144, r145⟩ := bind_some r140; clear r140
            refine Cov.storeV 0 0 (Q := Rep.bool) .ro rfl va135 rfl rfl o132 hu144 rfl (.inl ⟨rfl, rfl⟩) rfl ty4 p142 ((Rep.boolI false) :) rfl rfl (fun cs146 hlcs146 o147 va148 => ?_)
            refine Cov.reval 2 hlcs146 rfl ?_
            refine Cov.reval 40 hlcs146 rfl ?_
            refine Cov.region_end ?_
            refine Cov.inBlock ?_
            refine Cov.region rfl ?_
            refine Cov.q .ro (.addw rfl rfl) rfl ?_
            refine Cov.q .ro (.move rfl) rfl ?_
            refine Cov.region_end ?_
            refine Cov.prune _ ?_ (Cov.same rfl rfl rfl (hb90 ((i80 + 1), xs98, u144, cs146) ⟨o147, va148, (hlcs146.trans (hl133.trans (hlcs117.trans hl87))), (drop_succ g82), r145⟩ (Nat.lt_succ_self _)))
            exact ⟨rfl, (congrArg (fun z => some (Value.int .i64 z)) (idx_wrap (OL.len' o19) g82)), rfl, rfl, rfl, rfl, trivial⟩
theorem law19_possible_c {Fs : List Hp} {G : Hp} {x0_0 : Int} {a0_1 : Option Addr} {k0_1 : Nat} {x0_1 : List (Int × Int)} {a1 : Option Addr} {k1 : Nat} {x1 : List Int} {a2 : Option Addr} {k2 : Nat} {x2 : List Bool} {cc2 : List Value} {bb2 : Option Nat} {pre2 post2 : List Value} {r : (Bool × (List Bool))} (hG : G ∈ Fs) (s0_1 : SlR (Rep.pair (Rep.int .i64) (Rep.int .i64)) G a0_1 k0_1 x0_1) (s1 : SlR (Rep.int .i64) G a1 k1 x1) (vva2 : VA a2 bb2 x2.length k2 pre2 cc2) (oo2 : OL Rep.bool G cc2 x2) (h : law19_possible (x0_0, x0_1) x1 x2 = some r) : RetS Try.prog 20 #[.agg #[.int .i64 x0_0, .slice a0_1 x0_1.length k0_1], .slice a1 x1.length k1, .slice a2 x2.length k2] Fs [] [.g (viewG bb2 4 pre2 cc2 post2)] (fun v bo so => ∃ lc0 : List Value, v = .bool r.1 ∧ bo = [] ∧ so = [.g (viewG bb2 4 pre2 lc0 post2)] ∧ OL Rep.bool G lc0 r.2 ∧ r.2.length = x2.length) := by
  unfold law19_possible at h
  exact law19_possible_R_c big hG s0_1 s1 vva2 oo2 h

set_option maxHeartbeats 4000000 in
set_option maxRecDepth 100000 in
theorem cuckoo_Homes_c {Fs : List Hp} {G : Hp} {x0_0 : Int} {a0_1 : Option Addr} {k0_1 : Nat} {x0_1 : List (Int × Int)} {x1 : Int} {r : ((List Int) × Int)} (hG : G ∈ Fs) (s0_1 : SlR (Rep.pair (Rep.int .i64) (Rep.int .i64)) G a0_1 k0_1 x0_1) (h : cuckoo_Homes (x0_0, x0_1) x1 = some r) : RetS Try.prog 21 #[.agg #[.int .i64 x0_0, .slice a0_1 x0_1.length k0_1], .int .i64 x1] Fs [] [] (fun v bo so => ∃ (oa0 : Option Addr) (ok0 : Nat) (oc0 : List Value), v = .tuple #[.slice oa0 r.1.length ok0, .int .i64 r.2] ∧ bo = [] ∧ so = [.s (.slice oa0 r.1.length ok0) 3 1 r.1.length oc0] ∧ OL (Rep.int .i64) G oc0 r.1) := by
  unfold cuckoo_Homes at h
  try dsimp only at h
  refine RetS.of (vs := [_, _]) Try.func21 rfl Try.ntmps21 [(0, _), (1, _)] ⟨rfl, rfl, trivial⟩ rfl hG fun w0 S0 hS0 B0 => ?_
  refine Cov.seq ?_
  refine Cov.region rfl ?_
  refine Cov.box [_, _] .ro rfl rfl rfl (fun b1 hb1 => ?_)
  refine Cov.q .ro (.assign rfl) rfl ?_
  refine Cov.q .ro (.assign rfl) rfl ?_
  refine Cov.region_end ?_
  refine Cov.seq ?_
  refine Cov.seq ?_
  refine Cov.region rfl ?_
  refine Cov.q .ro (.load_own_a 0 [_, _] rfl rfl ty25 rfl) rfl ?_
  obtain ⟨u2, hu2, r3⟩ := bind_some h; clear h
  refine Cov.callS (b1 := []) (b2 := [_]) (s1 := []) [_] [] .ro rfl rfl Try.call22 rfl rfl (cuckoo_Check_c (G := G) List.mem_cons_self s0_1 hu2) rfl (fun v5 bo so h4 => ?_)
  obtain ⟨rfl, rfl, rfl⟩ := h4
  refine Cov.same (bl' := [_]) (sl' := []) rfl rfl rfl ?_
  refine Cov.q .ro (.assign rfl) rfl ?_
  refine Cov.region_end ?_
  refine Cov.seq ?_
  refine Cov.region rfl ?_
  refine Cov.q .ro (.move rfl) rfl ?_
  refine Cov.q .ro (.neq rfl rfl) rfl ?_
  refine Cov.region_end ?_
  refine Cov.cond_dec rfl (fun c6 => ?_) (fun c6 => ?_)
  · have r7 := ifT r3 c6; clear r3
    refine Cov.seq ?_
    refine Cov.region rfl ?_
    refine Cov.q .ro (.move rfl) rfl ?_
    refine Cov.q .ro (.assign rfl) rfl ?_
    refine Cov.q .ro (.assign rfl) rfl ?_
    refine Cov.region_end ?_
    refine Cov.own_nil 3 1 ?_
    cases r7
    refine Cov.drop 1 0 [] _ rfl rfl ?_
    refine Cov.retS (c := ⟨21, none⟩) (.inr ⟨_, rfl⟩) [.tmp 4, .tmp 5] [_, _] rfl Try.func21 Try.results21 ⟨RV.tmp rfl, RV.tmp rfl, trivial⟩ (fun _ h => List.mem_cons_of_mem _ h) ⟨none, 0, [], rfl, rfl, rfl, (OL.nil (Rp' := (Rep.int .i64)))⟩
  · have r9 := ifF r3 c6; clear r3
    refine Cov.skip ?_
    refine Cov.seq ?_
    refine Cov.seq ?_
    refine Cov.region rfl ?_
    refine Cov.q .ro (.move rfl) rfl ?_
    obtain ⟨u10, hu10, r11⟩ := bind_some r9; clear r9
    refine Cov.callS (b1 := []) (b2 := [_]) (s1 := []) [_] [] .ro rfl rfl Try.call45 rfl rfl (cuckoo_item_c (G := G) List.mem_cons_self  hu10) rfl (fun v13 bo so h12 => ?_)
    obtain ⟨rfl, rfl, rfl⟩ := h12
    refine Cov.same (bl' := [_]) (sl' := []) rfl rfl rfl ?_
    refine Cov.q .ro (.not rfl) rfl ?_
    refine Cov.region_end ?_
    refine Cov.cond rfl (fun c14 => ?_) (fun c14 => ?_)
    · have r15 := ifT r11 c14; clear r11
      refine Cov.seq ?_
      refine Cov.region rfl ?_
      refine Cov.q .ro (.assign rfl) rfl ?_
      refine Cov.q .ro (.assign rfl) rfl ?_
      refine Cov.region_end ?_
      refine Cov.own_nil 3 1 ?_
      cases r15
      refine Cov.drop 1 0 [] _ rfl rfl ?_
      refine Cov.retS (c := ⟨21, none⟩) (.inr ⟨_, rfl⟩) [.tmp 4, .tmp 5] [_, _] rfl Try.func21 Try.results21 ⟨RV.tmp rfl, RV.tmp rfl, trivial⟩ (fun _ h => List.mem_cons_of_mem _ h) ⟨none, 0, [], rfl, rfl, rfl, (OL.nil (Rp' := (Rep.int .i64)))⟩
    · have r17 := ifBF r11 c14; clear r11
      refine Cov.skip ?_
      refine Cov.seq ?_
      refine Cov.region rfl ?_
      refine Cov.q .ro (.load_own_a 0 [_, _] rfl rfl ty25 rfl) rfl ?_
      refine Cov.q .ro (.move rfl) rfl ?_
      obtain ⟨u18, hu18, r19⟩ := bind_some r17; clear r17
      refine Cov.callS (b1 := []) (b2 := [_]) (s1 := []) [_, _] [] .ro rfl rfl Try.call43 rfl rfl (cuckoo_homes_c (G := G) List.mem_cons_self s0_1 hu18) rfl (fun v21 bo so h20 => ?_)
      obtain ⟨a23, k24, cs25, rfl, rfl, rfl, o26⟩ := h20
      refine Cov.same (bl' := [_]) (sl' := [_]) rfl rfl rfl ?_
      refine Cov.q .ro (.assign rfl) rfl ?_
      refine Cov.q .ro (.assign rfl) rfl ?_
      refine Cov.region_end ?_
      refine Cov.prune [(4, _), (5, _)] ⟨rfl, rfl, trivial⟩ ?_
      cases r19
      refine Cov.drop 1 0 [] _ rfl rfl ?_
      refine Cov.retS (c := ⟨21, none⟩) (.inr ⟨_, rfl⟩) [.tmp 4, .tmp 5] [_, _] rfl Try.func21 Try.results21 ⟨RV.tmp rfl, RV.tmp rfl, trivial⟩ (fun _ h => List.mem_cons_of_mem _ h) ⟨a23, k24, cs25, rfl, rfl, rfl, o26⟩

set_option maxHeartbeats 4000000 in
set_option maxRecDepth 100000 in
theorem ref19_has_c {Fs : List Hp} {G : Hp} {a0 : Option Addr} {k0 : Nat} {x0 : List Int} {x1 : Int} {r : Bool} (hG : G ∈ Fs) (s0 : SlR (Rep.int .i64) G a0 k0 x0) (h : ref19_has x0 x1 = some r) : RetS Try.prog 46 #[.slice a0 x0.length k0, .int .i64 x1] Fs [] [] (fun v bo so => v = .bool r ∧ bo = [] ∧ so = []) := by
  unfold ref19_has at h
  try dsimp only at h
  refine RetS.of (vs := [_, _]) Try.func46 rfl Try.ntmps46 [(0, _), (1, _)] ⟨rfl, rfl, trivial⟩ rfl hG fun w0 S0 hS0 B0 => ?_
  refine Cov.seq ?_
  refine Cov.region rfl ?_
  refine Cov.q .ro (.assign rfl) rfl ?_
  refine Cov.region_end ?_
  refine Cov.seq ?_
  refine Cov.seq ?_
  refine Cov.region rfl ?_
  refine Cov.q .ro (.move rfl) rfl ?_
  refine Cov.q .ro (.len_sl rfl rfl sl22) rfl ?_
  refine Cov.q .ro (.move rfl) rfl ?_
  refine Cov.region_end ?_
  refine Cov.block ?_
  refine Cov.loop2 (α := Nat × List Int) (fun y => [(9, .int .i64 (y.1 : Int))]) [(1, _), (7, _), (8, _)] (fun y => []) (fun y => []) [] (fun y => []) [] (fun y => List.drop y.1 x0 = y.2 ∧ ref19_has_L1 x1 y.2  = some r) (fun y => y.2.length) (0, x0) ⟨rfl, h⟩ ⟨rfl, rfl, rfl, rfl, trivial⟩ rfl rfl rfl (fun y hI hb19 => ?_)
  obtain ⟨i15, w16⟩ := y
  obtain ⟨g17, r18⟩ := hI
  try dsimp only at g17 r18
  refine Cov.prune [(9, .int .i64 (i15 : Int)), (1, _), (7, _), (8, _)] ⟨rfl, rfl, rfl, rfl, trivial⟩ ?_
  refine Cov.same (bl' := []) (sl' := []) (Fs' := G :: Fs) rfl rfl rfl ?_
  cases w16 with
  | nil =>
    rw [ref19_has_L1] at r18; try dsimp only at r18
    refine Cov.seq ?_
    refine Cov.region rfl ?_
    refine Cov.q .ro (.lss rfl rfl) rfl ?_
    refine Cov.region_end ?_
    refine Cov.seq ?_
    refine Cov.cond_dec rfl (fun c => absurd c (drop_nil g17)) (fun _ => ?_)
    refine Cov.exit rfl ?_
    refine Cov.seq ?_
    refine Cov.region rfl ?_
    refine Cov.q .ro (.assign rfl) rfl ?_
    refine Cov.region_end ?_
    cases r18
    refine Cov.retS (c := ⟨46, none⟩) (.inr ⟨_, rfl⟩) [.tmp 4] [_] rfl Try.func46 Try.results46 ⟨RV.tmp rfl, trivial⟩ (fun _ h => List.mem_cons_of_mem _ h) ⟨rfl, rfl, rfl⟩
  | cons x24 xs25 =>
    have r23 : ref19_has_B1 x1 (ref19_has_L1 x1 xs25) x24  = some r := r18; clear r18; unfold ref19_has_B1 at r23; try dsimp only at r23
    refine Cov.seq ?_
    refine Cov.region rfl ?_
    refine Cov.q .ro (.lss rfl rfl) rfl ?_
    refine Cov.region_end ?_
    refine Cov.seq ?_
    refine Cov.cond_dec rfl (fun _ => ?_) (fun c => absurd (drop_lt g17) c)
    refine Cov.skip ?_
    refine Cov.seq ?_
    refine Cov.block ?_
    refine Cov.seq ?_
    refine Cov.region rfl ?_
    obtain ⟨c26, p27, h28⟩ := SlR.get s0 (drop_idx g17)
    obtain rfl := h28
    refine Cov.q .ro (.idxR s0 rfl rfl (drop_idx g17) sl22 ty3.sz) rfl ?_
    refine Cov.q .ro (.load_rp p27 List.mem_cons_self rfl ty3 rfl) rfl ?_
    refine Cov.q .ro (.assign rfl) rfl ?_
    refine Cov.region_end ?_
    refine Cov.seq ?_
    refine Cov.region rfl ?_
    refine Cov.q .ro (.move rfl) rfl ?_
    refine Cov.q .ro (.move rfl) rfl ?_
    refine Cov.q .ro (.eql rfl rfl) rfl ?_
    refine Cov.region_end ?_
    refine Cov.cond_dec rfl (fun c29 => ?_) (fun c29 => ?_)
    · have r30 := ifT r23 c29; clear r23
      refine Cov.seq ?_
      refine Cov.region rfl ?_
      refine Cov.q .ro (.assign rfl) rfl ?_
      refine Cov.region_end ?_
      cases r30
      refine Cov.retS (c := ⟨46, none⟩) (.inr ⟨_, rfl⟩) [.tmp 4] [_] rfl Try.func46 Try.results46 ⟨RV.tmp rfl, trivial⟩ (fun _ h => List.mem_cons_of_mem _ h) ⟨rfl, rfl, rfl⟩
    · have r31 := ifF r23 c29; clear r23
      refine Cov.skip ?_
      refine Cov.inBlock ?_
      refine Cov.region rfl ?_
      refine Cov.q .ro (.addw rfl rfl) rfl ?_
      refine Cov.q .ro (.move rfl) rfl ?_
      refine Cov.region_end ?_
      refine Cov.prune _ ?_ (Cov.same rfl rfl rfl (hb19 ((i15 + 1), xs25) ⟨(drop_succ g17), r31⟩ (Nat.lt_succ_self _)))
      exact ⟨(congrArg (fun z => some (Value.int .i64 z)) (idx_wrap (SlR.len s0) g17)), rfl, rfl, rfl, trivial⟩

set_option maxHeartbeats 4000000 in
set_option maxRecDepth 100000 in
theorem ref19_Layout_c {Fs : List Hp} {G : Hp} {x0_0 : Int} {a0_1 : Option Addr} {k0_1 : Nat} {x0_1 : List (Int × Int)} {x1 : Int} {r : ((List (List Int)) × Int)} (hG : G ∈ Fs) (s0_1 : SlR (Rep.pair (Rep.int .i64) (Rep.int .i64)) G a0_1 k0_1 x0_1) (h : ref19_Layout (x0_0, x0_1) x1 = some r) : RetW Try.prog 27 #[.agg #[.int .i64 x0_0, .slice a0_1 x0_1.length k0_1], .int .i64 x1] Fs [] [] (fun v bo so G => ∃ a0 : Option Addr, ∃ k0 : Nat, v = .tuple #[.slice a0 r.1.length k0, .int .i64 r.2] ∧ bo = [] ∧ so = [] ∧ SlR (Rep.sl (Rep.int .i64)) G a0 k0 r.1) := by
  unfold ref19_Layout at h
  try dsimp only at h
  refine RetW.of (vs := [_, _]) Try.func27 rfl Try.ntmps27 [(0, _), (1, _)] ⟨rfl, rfl, trivial⟩ rfl hG fun w0 S0 hS0 B0 => ?_
  refine Cov.seq ?_
  refine Cov.region rfl ?_
  refine Cov.box [_, _] .ro rfl rfl rfl (fun b1 hb1 => ?_)
  refine Cov.q .ro (.assign rfl) rfl ?_
  refine Cov.q .ro (.assign rfl) rfl ?_
  refine Cov.region_end ?_
  refine Cov.seq ?_
  refine Cov.seq ?_
  refine Cov.region rfl ?_
  refine Cov.q .ro (.load_own_a 0 [_, _] rfl rfl ty25 rfl) rfl ?_
  obtain ⟨u2, hu2, r3⟩ := bind_some h; clear h
  refine Cov.callS (b1 := []) (b2 := [_]) (s1 := []) [_] [] .ro rfl rfl Try.call23 rfl rfl (ref19_Check_c (G := G) List.mem_cons_self s0_1 hu2) rfl (fun v5 bo so h4 => ?_)
  obtain ⟨rfl, rfl, rfl⟩ := h4
  refine Cov.same (bl' := [_]) (sl' := []) rfl rfl rfl ?_
  refine Cov.q .ro (.assign rfl) rfl ?_
  refine Cov.region_end ?_
  refine Cov.seq ?_
  refine Cov.region rfl ?_
  refine Cov.q .ro (.move rfl) rfl ?_
  refine Cov.q .ro (.neq rfl rfl) rfl ?_
  refine Cov.region_end ?_
  refine Cov.cond_dec rfl (fun c6 => ?_) (fun c6 => ?_)
  · have r7 := ifT r3 c6; clear r3
    refine Cov.seq ?_
    refine Cov.region rfl ?_
    refine Cov.q .ro (.move rfl) rfl ?_
    refine Cov.q .ro (.assign rfl) rfl ?_
    refine Cov.q .ro (.assign rfl) rfl ?_
    refine Cov.region_end ?_
    cases r7
    refine Cov.drop 1 0 [] _ rfl rfl ?_
    refine Cov.retW (c := ⟨27, none⟩) (.inr ⟨_, rfl⟩) [.tmp 4, .tmp 5] [_, _] rfl Try.func27 Try.results27 ⟨RV.tmp rfl, RV.tmp rfl, trivial⟩ (fun _ h => List.mem_cons_of_mem _ h) List.mem_cons_self B0 (by subst hS0; simp [blks]) (fun G' hg => ⟨none, 0, rfl, rfl, rfl, (SlR.mono hg (SlR.nil (Rp' := (Rep.sl (Rep.int .i64)))))⟩)
  · have r8 := ifF r3 c6; clear r3
    refine Cov.skip ?_
    refine Cov.seq ?_
    refine Cov.seq ?_
    refine Cov.region rfl ?_
    refine Cov.q .ro (.move rfl) rfl ?_
    refine Cov.q .ro (.lss rfl rfl) rfl ?_
    refine Cov.q .ro (.move rfl) rfl ?_
    refine Cov.cutR 3 (β := Unit) (fun y => [(23, .bool (decide ((x1 < 0) ∨ (1024 < x1))))]) [(1, _), (2, _)] (fun y => G :: Fs) (fun y => []) [_] (fun y => []) [] (fun y => True) ⟨rfl, rfl, trivial⟩ [0] rfl [] rfl ?_ ?_
    · rintro _ _
      refine Cov.prune [(23, .bool (decide ((x1 < 0) ∨ (1024 < x1)))), (1, _), (2, _)] ⟨rfl, rfl, rfl, trivial⟩ ?_
      refine Cov.same (bl' := [_]) (sl' := []) (Fs' := G :: Fs) rfl rfl rfl ?_
      refine Cov.region_end ?_
      refine Cov.cond_dec rfl (fun c13 => ?_) (fun c13 => ?_)
      · have r14 := ifT r8 c13; clear r8
        refine Cov.seq ?_
        refine Cov.region rfl ?_
        refine Cov.q .ro (.assign rfl) rfl ?_
        refine Cov.q .ro (.assign rfl) rfl ?_
        refine Cov.region_end ?_
        cases r14
        refine Cov.drop 1 0 [] _ rfl rfl ?_
        refine Cov.retW (c := ⟨27, none⟩) (.inr ⟨_, rfl⟩) [.tmp 4, .tmp 5] [_, _] rfl Try.func27 Try.results27 ⟨RV.tmp rfl, RV.tmp rfl, trivial⟩ (fun _ h => List.mem_cons_of_mem _ h) List.mem_cons_self B0 (by subst hS0; simp [blks]) (fun G' hg => ⟨none, 0, rfl, rfl, rfl, (SlR.mono hg (SlR.nil (Rp' := (Rep.sl (Rep.int .i64)))))⟩)
      · have r15 := ifF r8 c13; clear r8
        refine Cov.skip ?_
        refine Cov.seq ?_
        refine Cov.region rfl ?_
        refine Cov.q .ro (.fieldAddr 0 rfl fl25_0 ty3.sz rfl) rfl ?_
        refine Cov.q .ro (.load_own 0 rfl rfl ty3 rfl) rfl ?_
        obtain ⟨u16, hu16, r17⟩ := bind_some r15; clear r15
        refine Cov.makeN (G := G) (Q := (Rep.int .i64)) 3 1 .ro sl54 ty22 rfl rfl hu16 rfl rfl (fun b18 es19 cs20 hb18 o21 => ?_)
        refine Cov.q .ro (.assign rfl) rfl ?_
        refine Cov.region_end ?_
        refine Cov.seq ?_
        refine Cov.seq ?_
        refine Cov.region rfl ?_
        refine Cov.q .ro (.assign rfl) rfl ?_
        refine Cov.region_end ?_
        refine Cov.block ?_
        refine Cov.pullS 1 rfl [_, _] rfl ?_
        refine Cov.pullS 1 rfl [_, _] rfl ?_
        refine Cov.loop2 (α := Nat × Hp × Int × List (List Int) × List NE × List Value × Int) (fun y => [(8, .int .i64 y.2.2.1), (7, .slice (some ⟨b18, 0, none⟩) y.2.2.2.1.length u16.length)]) [(1, _), (2, _)] (fun y => [y.2.1]) (fun y => [(b1, .cells #[.int .i64 y.2.2.2.2.2.2, .slice a0_1 x0_1.length k0_1] 25 (0, 0))]) [] (fun y => [.s (.slice (some ⟨b18, 0, none⟩) y.2.2.2.1.length u16.length) 22 1 y.2.2.2.1.length y.2.2.2.2.2.1, .g (packG 3 1 y.2.2.2.2.1)]) [] (fun y => HpLe G y.2.1 ∧ Bd w0 S0 Fs y.2.1 ∧ NL (Rep.int .i64) y.2.1 y.2.2.2.2.1 y.2.2.2.2.2.1 y.2.2.2.1 ∧ y.2.2.2.1.length = u16.length ∧ ref19_Layout_L2 x1 x0_1 y.1 y.2.2.1 y.2.2.2.1 y.2.2.2.2.2.2 = some r) (fun y => y.1) (big, G, 0, u16, es19, cs20, x0_0) ⟨(HpLe.refl _), B0, o21, rfl, r17⟩ ⟨rfl, rfl, rfl, rfl, trivial⟩ rfl rfl rfl (fun y hI hb266 => ?_)
        obtain ⟨n250, G252, v256, v257, es258, cs259, v264⟩ := y
        obtain ⟨e253, B254, o260, hl261, r265⟩ := hI
        try dsimp only at e253 B254 o260 hl261 r265
        refine Cov.prune [(8, .int .i64 v256), (7, .slice (some ⟨b18, 0, none⟩) v257.length u16.length), (1, _), (2, _)] ⟨rfl, rfl, rfl, rfl, trivial⟩ ?_
        refine Cov.same (bl' := [(b1, .cells #[.int .i64 v264, .slice a0_1 x0_1.length k0_1] 25 (0, 0))]) (sl' := [.s (.slice (some ⟨b18, 0, none⟩) v257.length u16.length) 22 1 v257.length cs259, .g (packG 3 1 es258)]) (Fs' := G252 :: Fs) rfl rfl rfl ?_
        obtain ⟨m270, rfl⟩ : ∃ m, n250 = m + 1 := by cases n250 with | zero => exact absurd (show (none : Option _) = some _ from r265) (by simp) | succ m => exact ⟨m, rfl⟩
        have r269 : ref19_Layout_B2 x1 x0_1 (ref19_Layout_L2 x1 x0_1 m270) v256 v257 v264 = some r := r265; clear r265; unfold ref19_Layout_B2 at r269; try dsimp only at r269
        refine Cov.seq ?_
        refine Cov.seq ?_
        refine Cov.region rfl ?_
        refine Cov.q .ro (.move rfl) rfl ?_
        refine Cov.q .ro (.move rfl) rfl ?_
        refine Cov.q .ro (.lss rfl rfl) rfl ?_
        refine Cov.region_end ?_
        refine Cov.cond_dec rfl (fun c271 => ?_) (fun c271 => ?_)
        · have r272 := ifT r269 c271; clear r269
          refine Cov.skip ?_
          refine Cov.seq ?_
          refine Cov.block ?_
          refine Cov.seq ?_
          refine Cov.region rfl ?_
          refine Cov.q .ro (.load_own_a 0 [_, _] rfl rfl ty25 rfl) rfl ?_
          refine Cov.q .ro (.move rfl) rfl ?_
          obtain ⟨u273, hu273, r274⟩ := bind_some r272; clear r272
          refine Cov.callS (b1 := []) (b2 := [_]) (s1 := []) [_, _] [] .ro rfl rfl Try.call24 rfl rfl (ref19_Homes_c (G := G252) List.mem_cons_self (SlR.mono e253 s0_1) hu273) rfl (fun v276 bo so h275 => ?_)
          obtain ⟨a278, k279, cs280, rfl, rfl, rfl, o281⟩ := h275
          refine Cov.same (bl' := [_]) (sl' := [_, _, _]) rfl rfl rfl ?_
          refine Cov.q .ro (.move rfl) rfl ?_
          refine Cov.q .ro (.extract rfl rfl) rfl ?_
          refine Cov.q .ro (.extract rfl rfl) rfl ?_
          refine Cov.q .ro (.assign rfl) rfl ?_
          refine Cov.q .ro (.assign rfl) rfl ?_
          refine Cov.region_end ?_
          refine Cov.seq ?_
          refine Cov.region rfl ?_
          refine Cov.q .ro (.move rfl) rfl ?_
          refine Cov.q .ro (.len_sl rfl rfl sl22) rfl ?_
          refine Cov.q .ro (.move rfl) rfl ?_
          refine Cov.region_end ?_
          refine Cov.block ?_
          refine Cov.freezeR 0 rfl rfl o281 [_, _] rfl B254 (fun G346 e347 B348 s349 => ?_)
          refine Cov.pullS 1 rfl [_, _] rfl ?_
          refine Cov.pullS 1 rfl [_, _] rfl ?_
          refine Cov.loop2 (α := Nat × List Int × Hp × List (List Int) × List NE × List Value) (fun y => [(7, .slice (some ⟨b18, 0, none⟩) y.2.2.2.1.length u16.length), (40, .int .i64 (y.1 : Int))]) [(8, _), (1, _), (2, _), (9, _), (38, _), (39, _)] (fun y => [y.2.2.1]) (fun y => []) [_] (fun y => [.s (.slice (some ⟨b18, 0, none⟩) y.2.2.2.1.length u16.length) 22 1 y.2.2.2.1.length y.2.2.2.2.2, .g (packG 3 1 y.2.2.2.2.1)]) [] (fun y => HpLe G346 y.2.2.1 ∧ Bd w0 S0 Fs y.2.2.1 ∧ NL (Rep.int .i64) y.2.2.1 y.2.2.2.2.1 y.2.2.2.2.2 y.2.2.2.1 ∧ y.2.2.2.1.length = u16.length ∧ List.drop y.1 u273.1 = y.2.1 ∧ ref19_Layout_L1 (ref19_Layout_L2 x1 x0_1 m270) v256 u273.1 v264 y.2.1 y.1 y.2.2.2.1 = some r) (fun y => y.2.1.length) (0, u273.1, G346, v257, es258, cs259) ⟨(HpLe.refl _), B348, (NL.mono e347 o260), hl261, rfl, r274⟩ ⟨rfl, rfl, rfl, rfl, rfl, rfl, rfl, rfl, trivial⟩ rfl rfl rfl (fun y hI hb426 => ?_)
          obtain ⟨i411, w412, G414, v418, es419, cs420⟩ := y
          obtain ⟨e415, B416, o421, hl422, g413, r425⟩ := hI
          try dsimp only at e415 B416 o421 hl422 g413 r425
          refine Cov.prune [(7, .slice (some ⟨b18, 0, none⟩) v418.length u16.length), (40, .int .i64 (i411 : Int)), (8, _), (1, _), (2, _), (9, _), (38, _), (39, _)] ⟨rfl, rfl, rfl, rfl, rfl, rfl, rfl, rfl, trivial⟩ ?_
          refine Cov.same (bl' := [_]) (sl' := [.s (.slice (some ⟨b18, 0, none⟩) v418.length u16.length) 22 1 v418.length cs420, .g (packG 3 1 es419)]) (Fs' := G414 :: Fs) rfl rfl rfl ?_
          cases w412 with
          | nil =>
            rw [ref19_Layout_L1] at r425; try dsimp only at r425
            refine Cov.seq ?_
            refine Cov.region rfl ?_
            refine Cov.q .ro (.lss rfl rfl) rfl ?_
            refine Cov.region_end ?_
            refine Cov.seq ?_
            refine Cov.cond_dec rfl (fun c => absurd c (drop_nil g413)) (fun _ => ?_)
            refine Cov.exit rfl ?_
            refine Cov.inBlock ?_
            refine Cov.region rfl ?_
            refine Cov.q .ro (.move rfl) rfl ?_
            refine Cov.q .ro (.addw rfl rfl) rfl ?_
            refine Cov.q .ro (.assign rfl) rfl ?_
            refine Cov.region_end ?_
            refine Cov.prune _ ?_ (Cov.same rfl rfl rfl (hb266 (m270, G414, (w64 (v256 + 1)), v418, es419, cs420, v264) ⟨(HpLe.trans (HpLe.trans e253 e347) e415), B416, o421, hl422, r425⟩ (Nat.lt_succ_self _)))
            exact ⟨rfl, rfl, rfl, rfl, trivial⟩
          | cons x434 xs435 =>
            have r433 : ref19_Layout_B1 (ref19_Layout_L2 x1 x0_1 m270) v256 u273.1 v264 (ref19_Layout_L1 (ref19_Layout_L2 x1 x0_1 m270) v256 u273.1 v264 xs435 (i411 + 1)) x434 i411 v418 = some r := r425; clear r425; unfold ref19_Layout_B1 at r433; try dsimp only at r433
            refine Cov.seq ?_
            refine Cov.region rfl ?_
            refine Cov.q .ro (.lss rfl rfl) rfl ?_
            refine Cov.region_end ?_
            refine Cov.seq ?_
            refine Cov.cond_dec rfl (fun _ => ?_) (fun c => absurd (drop_lt g413) c)
            refine Cov.skip ?_
            refine Cov.seq ?_
            refine Cov.block ?_
            refine Cov.seq ?_
            refine Cov.region rfl ?_
            refine Cov.q .ro (.move rfl) rfl ?_
            obtain ⟨c436, p437, h438⟩ := SlR.get (SlR.mono e415 s349) (drop_idx g413)
            obtain rfl := h438
            refine Cov.q .ro (.idxR (SlR.mono e415 s349) rfl rfl (drop_idx g413) sl22 ty3.sz) rfl ?_
            refine Cov.q .ro (.load_rp p437 List.mem_cons_self rfl ty3 rfl) rfl ?_
            refine Cov.q .ro (.assign rfl) rfl ?_
            refine Cov.q .ro (.assign rfl) rfl ?_
            refine Cov.region_end ?_
            refine Cov.seq ?_
            refine Cov.region rfl ?_
            refine Cov.q .ro (.move rfl) rfl ?_
            refine Cov.q .ro (.move rfl) rfl ?_
            obtain ⟨u439, hu439, r440⟩ := bind_some r433; clear r433
            obtain ⟨a441, k442, h443, s444⟩ := SlR.sub (SlR.mono e415 s349) hu439
            refine Cov.q .ro (.sliceR (SlR.mono e415 s349) rfl hu439 sl22 ty3.sz (fun _ => .no) (fun h => .yes' rfl h) h443) rfl ?_
            refine Cov.q .ro (.move rfl) rfl ?_
            obtain ⟨u445, hu445, r446⟩ := bind_some r440; clear r440
            refine Cov.callS (b1 := []) (b2 := [_]) (s1 := []) [_, _] [] .ro rfl rfl Try.call46 rfl rfl (ref19_has_c (G := G414) List.mem_cons_self s444 hu445) rfl (fun v448 bo so h447 => ?_)
            obtain ⟨rfl, rfl, rfl⟩ := h447
            refine Cov.same (bl' := [_]) (sl' := [_, _]) rfl rfl rfl ?_
            refine Cov.q .ro (.not rfl) rfl ?_
            refine Cov.region_end ?_
            refine Cov.cond rfl (fun c449 => ?_) (fun c449 => ?_)
            · have r450 := ifT r446 c449; clear r446
              refine Cov.region rfl ?_
              refine Cov.q .ro (.move rfl) rfl ?_
              refine Cov.q .ro (.move rfl) rfl ?_
              refine Cov.q .ro (.move rfl) rfl ?_
              refine Cov.q .ro (.move rfl) rfl ?_
              obtain ⟨u451, hu451, r452⟩ := bind_some r450; clear r450
              obtain ⟨e453, he454, hn455, ho456, p457⟩ := NL.get o421 hu451
              refine Cov.q .ro (.idxO 0 rfl rfl rfl hu451 sl54 ty22.sz) rfl ?_
              refine Cov.q .ro (.loadO 0 0 rfl hu451 p457 rfl (.inl ⟨rfl, rfl⟩) ty22 rfl) rfl ?_
              refine Cov.q .ro (.move rfl) rfl ?_
              refine Cov.lit [_] [(0, _)] .ro sl22 ty3 rfl rfl rfl rfl rfl rfl (fun b458 hb458 => ?_)
              have o459 : OL (Rep.int .i64) G414 [.int .i64 v256] ([v256] : List Int) := ((OL.cons rfl (Rep.intI .i64 v256) (OL.nil (Rp' := (Rep.int .i64)))) :)
              refine Cov.reval 58 (n' := ([v256] : List Int).length) rfl rfl ?_
              refine Cov.freezeR 0 rfl rfl o459 [_, _] rfl B416 (fun G461 e462 B463 s464 => ?_)
              refine Cov.takeN 1 rfl he454 hn455 ?_
              obtain ⟨u471, hu471, r472⟩ := bind_some r452; clear r452
              refine Cov.appR (Q := (Rep.int .i64)) 0 .ro sl22 ty3 rfl rfl rfl rfl rfl (OL.mono e462 ho456) rfl rfl s464 rfl List.mem_cons_self hu471 rfl (fun a467 k468 cs469 o470 => ?_)
              obtain ⟨u474, hu474, r475⟩ := bind_some r472; clear r472
              obtain ⟨e476, he477, hn478, ho479, p480⟩ := NL.get (NL.mono e462 o421) hu474
              refine Cov.q .ro (.idxO 1 rfl rfl rfl hu474 sl54 ty22.sz) rfl ?_
              obtain ⟨u481, hu481, r482⟩ := bind_some r475; clear r475
              refine Cov.storeN 0 1 (Q := (Rep.int .i64)) .ro rfl rfl rfl (NL.mono e462 o421) he454 o470 hu481 rfl (.inl ⟨rfl, rfl⟩) rfl ty22 rfl (fun es483 cs484 hlcs484 o485 => ?_)
              refine Cov.reval 7 hlcs484 rfl ?_
              refine Cov.reval 51 hlcs484 rfl ?_
              refine Cov.reval 53 hlcs484 rfl ?_
              refine Cov.region_end ?_
              refine Cov.prune [(7, _), (40, _), (8, _), (1, _), (2, _), (9, _), (38, _), (39, _)] ⟨rfl, rfl, rfl, rfl, rfl, rfl, rfl, rfl, trivial⟩ ?_
              refine Cov.inBlock ?_
              refine Cov.region rfl ?_
              refine Cov.q .ro (.addw rfl rfl) rfl ?_
              refine Cov.q .ro (.move rfl) rfl ?_
              refine Cov.region_end ?_
              refine Cov.prune _ ?_ (Cov.same rfl rfl rfl (hb426 ((i411 + 1), xs435, G461, u481, es483, cs484) ⟨(HpLe.trans e415 e462), B463, o485, (hlcs484.trans hl422), (drop_succ g413), r482⟩ (Nat.lt_succ_self _)))
              exact ⟨rfl, (congrArg (fun z => some (Value.int .i64 z)) (idx_wrap (OL.len' o281) g413)), rfl, rfl, rfl, rfl, rfl, rfl, trivial⟩
            · have r487 := ifBF r446 c449; clear r446
              refine Cov.skip ?_
              refine Cov.inBlock ?_
              refine Cov.region rfl ?_
              refine Cov.q .ro (.addw rfl rfl) rfl ?_
              refine Cov.q .ro (.move rfl) rfl ?_
              refine Cov.region_end ?_
              refine Cov.prune [(7, _), (40, _), (8, _), (1, _), (2, _), (9, _), (38, _), (39, _)] ⟨rfl, rfl, rfl, rfl, rfl, rfl, rfl, rfl, trivial⟩ ?_
              refine Cov.prune _ ?_ (Cov.same rfl rfl rfl (hb426 ((i411 + 1), xs435, G414, v418, es419, cs420) ⟨e415, B416, o421, hl422, (drop_succ g413), r487⟩ (Nat.lt_succ_self _)))
              exact ⟨rfl, (congrArg (fun z => some (Value.int .i64 z)) (idx_wrap (OL.len' o281) g413)), rfl, rfl, rfl, rfl, rfl, rfl, trivial⟩
        · have r488 := ifF r269 c271; clear r269
          refine Cov.exit rfl ?_
          refine Cov.seq ?_
          refine Cov.region rfl ?_
          refine Cov.q .ro (.move rfl) rfl ?_
          refine Cov.q .ro (.assign rfl) rfl ?_
          refine Cov.q .ro (.assign rfl) rfl ?_
          refine Cov.region_end ?_
          refine Cov.pullS 1 rfl [_, _] rfl ?_
          refine Cov.pullS 1 rfl [_, _] rfl ?_
          refine Cov.freezeN (Q := (Rep.int .i64)) rfl o260 rfl B254 (fun G489 e490 B491 s492 => ?_)
          cases r488
          refine Cov.drop 1 0 [] _ rfl rfl ?_
          refine Cov.retW (c := ⟨27, none⟩) (.inr ⟨_, rfl⟩) [.tmp 4, .tmp 5] [_, _] rfl Try.func27 Try.results27 ⟨RV.tmp rfl, RV.tmp rfl, trivial⟩ (fun _ h => List.mem_cons_of_mem _ h) List.mem_cons_self B491 (by subst hS0; simp [blks]) (fun G' hg => ⟨(some ⟨b18, 0, none⟩), u16.length, rfl, rfl, rfl, (SlR.mono hg s492)⟩)
    · intro hb10
      refine Cov.split 20 rfl (fun c9 => ?_) (fun c9 => ?_)
      · refine Cov.g_off rfl rfl rfl ?_
        refine Cov.g_off rfl rfl rfl ?_
        refine Cov.q .ro (.pick_t rfl rfl) rfl ?_
        refine Cov.prune _ ?_ (Cov.same rfl rfl rfl (hb10 () trivial))
        exact ⟨dor_t c9, rfl, rfl, trivial⟩
      · refine Cov.g_on rfl ?_
        refine Cov.q .ro (.move rfl) rfl ?_
        refine Cov.g_on rfl ?_
        refine Cov.q .ro (.gtr rfl rfl) rfl ?_
        refine Cov.q .ro (.pick_f rfl rfl) rfl ?_
        refine Cov.prune _ ?_ (Cov.same rfl rfl rfl (hb10 () trivial))
        exact ⟨dor_f c9, rfl, rfl, trivial⟩

set_option maxHeartbeats 4000000 in
set_option maxRecDepth 100000 in
theorem ref19_Same_c {Fs : List Hp} {G : Hp} {a0_0 : Option Addr} {k0_0 : Nat} {x0_0 : List Int} {a1_0 : Option Addr} {k1_0 : Nat} {x1_0 : List Int} {r : Bool} (hG : G ∈ Fs) (s0_0 : SlR (Rep.int .i64) G a0_0 k0_0 x0_0) (s1_0 : SlR (Rep.int .i64) G a1_0 k1_0 x1_0) (h : ref19_Same x0_0 x1_0 = some r) : RetS Try.prog 30 #[.agg #[.slice a0_0 x0_0.length k0_0], .agg #[.slice a1_0 x1_0.length k1_0]] Fs [] [] (fun v bo so => v = .bool r ∧ bo = [] ∧ so = []) := by
  unfold ref19_Same at h
  try dsimp only at h
  refine RetS.of (vs := [_, _]) Try.func30 rfl Try.ntmps30 [(0, _), (1, _)] ⟨rfl, rfl, trivial⟩ rfl hG fun w0 S0 hS0 B0 => ?_
  refine Cov.seq ?_
  refine Cov.region rfl ?_
  refine Cov.box [_] .ro rfl rfl rfl (fun b1 hb1 => ?_)
  refine Cov.box [_] .ro rfl rfl rfl (fun b2 hb2 => ?_)
  refine Cov.q .ro (.assign rfl) rfl ?_
  refine Cov.region_end ?_
  refine Cov.seq ?_
  refine Cov.seq ?_
  refine Cov.region rfl ?_
  refine Cov.q .ro (.fieldAddr 0 rfl fl43_0 ty22.sz rfl) rfl ?_
  refine Cov.q .ro (.load_own 1 rfl rfl ty22 rfl) rfl ?_
  refine Cov.q .ro (.len_sl rfl rfl sl22) rfl ?_
  refine Cov.q .ro (.fieldAddr 0 rfl fl43_0 ty22.sz rfl) rfl ?_
  refine Cov.q .ro (.load_own 0 rfl rfl ty22 rfl) rfl ?_
  refine Cov.q .ro (.len_sl rfl rfl sl22) rfl ?_
  refine Cov.q .ro (.neq rfl rfl) rfl ?_
  refine Cov.region_end ?_
  refine Cov.cond_dec rfl (fun c3 => ?_) (fun c3 => ?_)
  · have r4 := ifT h c3; clear h
    refine Cov.seq ?_
    refine Cov.region rfl ?_
    refine Cov.q .ro (.assign rfl) rfl ?_
    refine Cov.region_end ?_
    cases r4
    refine Cov.drop 2 0 [] _ rfl rfl ?_
    refine Cov.retS (c := ⟨30, none⟩) (.inr ⟨_, rfl⟩) [.tmp 4] [_] rfl Try.func30 Try.results30 ⟨RV.tmp rfl, trivial⟩ (fun _ h => List.mem_cons_of_mem _ h) ⟨rfl, rfl, rfl⟩
  · have r5 := ifF h c3; clear h
    refine Cov.skip ?_
    refine Cov.seq ?_
    refine Cov.seq ?_
    refine Cov.region rfl ?_
    refine Cov.q .ro (.fieldAddr 0 rfl fl43_0 ty22.sz rfl) rfl ?_
    refine Cov.q .ro (.load_own 1 rfl rfl ty22 rfl) rfl ?_
    refine Cov.q .ro (.len_sl rfl rfl sl22) rfl ?_
    refine Cov.q .ro (.move rfl) rfl ?_
    refine Cov.region_end ?_
    refine Cov.block ?_
    refine Cov.loop2 (α := Nat × List Int) (fun y => [(16, .int .i64 (y.1 : Int))]) [(2, _), (3, _), (15, _)] (fun y => []) (fun y => []) [_, _] (fun y => []) [] (fun y => List.drop y.1 x0_0 = y.2 ∧ ref19_Same_L1 x1_0 y.2 y.1  = some r) (fun y => y.2.length) (0, x0_0) ⟨rfl, r5⟩ ⟨rfl, rfl, rfl, rfl, trivial⟩ rfl rfl rfl (fun y hI hb29 => ?_)
    obtain ⟨i25, w26⟩ := y
    obtain ⟨g27, r28⟩ := hI
    try dsimp only at g27 r28
    refine Cov.prune [(16, .int .i64 (i25 : Int)), (2, _), (3, _), (15, _)] ⟨rfl, rfl, rfl, rfl, trivial⟩ ?_
    refine Cov.same (bl' := [_, _]) (sl' := []) (Fs' := G :: Fs) rfl rfl rfl ?_
    cases w26 with
    | nil =>
      rw [ref19_Same_L1] at r28; try dsimp only at r28
      refine Cov.seq ?_
      refine Cov.region rfl ?_
      refine Cov.q .ro (.lss rfl rfl) rfl ?_
      refine Cov.region_end ?_
      refine Cov.seq ?_
      refine Cov.cond_dec rfl (fun c => absurd c (drop_nil g27)) (fun _ => ?_)
      refine Cov.exit rfl ?_
      refine Cov.seq ?_
      refine Cov.region rfl ?_
      refine Cov.q .ro (.assign rfl) rfl ?_
      refine Cov.region_end ?_
      cases r28
      refine Cov.drop 2 0 [] _ rfl rfl ?_
      refine Cov.retS (c := ⟨30, none⟩) (.inr ⟨_, rfl⟩) [.tmp 4] [_] rfl Try.func30 Try.results30 ⟨RV.tmp rfl, trivial⟩ (fun _ h => List.mem_cons_of_mem _ h) ⟨rfl, rfl, rfl⟩
    | cons x34 xs35 =>
      have r33 : ref19_Same_B1 x1_0 (ref19_Same_L1 x1_0 xs35 (i25 + 1)) x34 i25  = some r := r28; clear r28; unfold ref19_Same_B1 at r33; try dsimp only at r33
      refine Cov.seq ?_
      refine Cov.region rfl ?_
      refine Cov.q .ro (.lss rfl rfl) rfl ?_
      refine Cov.region_end ?_
      refine Cov.seq ?_
      refine Cov.cond_dec rfl (fun _ => ?_) (fun c => absurd (drop_lt g27) c)
      refine Cov.skip ?_
      refine Cov.seq ?_
      refine Cov.block ?_
      refine Cov.seq ?_
      refine Cov.region rfl ?_
      refine Cov.q .ro (.move rfl) rfl ?_
      refine Cov.q .ro (.assign rfl) rfl ?_
      refine Cov.region_end ?_
      refine Cov.seq ?_
      refine Cov.drawL (.q 0 (.q 1 (.q 2 (.q 3 (.q 4 (.q 5 (.q 6 (.q 7 (.q 8 (.q 9 (.q 10 .nil))))))))))) [_, _] (by kernel_rfl) (by kernel_rfl) (pick_mem [0, 1] rfl) ?_
      refine Cov.dq (.fieldAddr 0 rfl fl43_0 ty22.sz rfl) rfl ?_
      refine Cov.dq (.load_own 1 rfl rfl ty22 rfl) rfl ?_
      refine Cov.dq (.move rfl) rfl ?_
      obtain ⟨c36, p37, h38⟩ := SlR.get s0_0 (drop_idx g27)
      obtain rfl := h38
      refine Cov.dq (.idxR s0_0 rfl rfl (drop_idx g27) sl22 ty3.sz) rfl ?_
      refine Cov.dq (.load_rp p37 List.mem_cons_self rfl ty3 rfl) rfl ?_
      refine Cov.dq (.fieldAddr 0 rfl fl43_0 ty22.sz rfl) rfl ?_
      refine Cov.dq (.load_own 0 rfl rfl ty22 rfl) rfl ?_
      refine Cov.dq (.move rfl) rfl ?_
      obtain ⟨u39, hu39, r40⟩ := bind_some r33; clear r33
      obtain ⟨c41, p42, h43⟩ := SlR.get s1_0 hu39
      obtain rfl := h43
      refine Cov.dq (.idxR s1_0 rfl rfl hu39 sl22 ty3.sz) rfl ?_
      refine Cov.dq (.load_rp p42 List.mem_cons_self rfl ty3 rfl) rfl ?_
      refine Cov.dq (.neq rfl rfl) rfl ?_
      refine Cov.draw_end ?_
      refine Cov.prune [(16, _), (2, _), (3, _), (15, _), (29, _)] ⟨rfl, rfl, rfl, rfl, rfl, trivial⟩ ?_
      refine Cov.cond_dec rfl (fun c44 => ?_) (fun c44 => ?_)
      · have r45 := ifT r40 c44; clear r40
        refine Cov.seq ?_
        refine Cov.region rfl ?_
        refine Cov.q .ro (.assign rfl) rfl ?_
        refine Cov.region_end ?_
        cases r45
        refine Cov.drop 2 0 [] _ rfl rfl ?_
        refine Cov.retS (c := ⟨30, none⟩) (.inr ⟨_, rfl⟩) [.tmp 4] [_] rfl Try.func30 Try.results30 ⟨RV.tmp rfl, trivial⟩ (fun _ h => List.mem_cons_of_mem _ h) ⟨rfl, rfl, rfl⟩
      · have r46 := ifF r40 c44; clear r40
        refine Cov.skip ?_
        refine Cov.inBlock ?_
        refine Cov.region rfl ?_
        refine Cov.q .ro (.addw rfl rfl) rfl ?_
        refine Cov.q .ro (.move rfl) rfl ?_
        refine Cov.region_end ?_
        refine Cov.prune _ ?_ (Cov.same rfl rfl rfl (hb29 ((i25 + 1), xs35) ⟨(drop_succ g27), r46⟩ (Nat.lt_succ_self _)))
        exact ⟨(congrArg (fun z => some (Value.int .i64 z)) (idx_wrap (SlR.len s0_0) g27)), rfl, rfl, rfl, trivial⟩

set_option maxHeartbeats 4000000 in
set_option maxRecDepth 100000 in
theorem ref19_Fits_c {Fs : List Hp} {G : Hp} {x0_0 : Int} {a0_1 : Option Addr} {k0_1 : Nat} {x0_1 : List (Int × Int)} {a1 : Option Addr} {k1 : Nat} {x1 : List Int} {a2_0 : Option Addr} {k2_0 : Nat} {x2_0 : List Int} {r : Bool} (hG : G ∈ Fs) (s0_1 : SlR (Rep.pair (Rep.int .i64) (Rep.int .i64)) G a0_1 k0_1 x0_1) (s1 : SlR (Rep.int .i64) G a1 k1 x1) (s2_0 : SlR (Rep.int .i64) G a2_0 k2_0 x2_0) (h : ref19_Fits (x0_0, x0_1) x1 x2_0 = some r) : RetS Try.prog 32 #[.agg #[.int .i64 x0_0, .slice a0_1 x0_1.length k0_1], .slice a1 x1.length k1, .agg #[.slice a2_0 x2_0.length k2_0]] Fs [] [] (fun v bo so => v = .bool r ∧ bo = [] ∧ so = []) := by
  unfold ref19_Fits at h
  try dsimp only at h
  refine RetS.of (vs := [_, _, _]) Try.func32 rfl Try.ntmps32 [(0, _), (1, _), (2, _)] ⟨rfl, rfl, rfl, trivial⟩ rfl hG fun w0 S0 hS0 B0 => ?_
  refine Cov.seq ?_
  refine Cov.region rfl ?_
  refine Cov.box [_, _] .ro rfl rfl rfl (fun b1 hb1 => ?_)
  refine Cov.box [_] .ro rfl rfl rfl (fun b2 hb2 => ?_)
  refine Cov.q .ro (.assign rfl) rfl ?_
  refine Cov.region_end ?_
  refine Cov.seq ?_
  refine Cov.region rfl ?_
  refine Cov.q .ro (.load_own_a 1 [_, _] rfl rfl ty25 rfl) rfl ?_
  refine Cov.q .ro (.move rfl) rfl ?_
  obtain ⟨u3, hu3, r4⟩ := bind_some h; clear h
  refine Cov.callW (b1 := []) (b2 := [_, _]) (s1 := []) [_, _] [] .ro rfl rfl Try.call47 rfl rfl (ref19_all_c (G := G) List.mem_cons_self s0_1 s1 hu3) rfl B0 (fun v6 bo so G7 e8 B9 h5 => ?_)
  obtain ⟨a12, k13, cs14, rfl, rfl, rfl, o15⟩ := h5
  refine Cov.same (bl' := [_, _]) (sl' := [_]) rfl rfl rfl ?_
  refine Cov.q .ro (.move rfl) rfl ?_
  refine Cov.q .ro (.extract rfl rfl) rfl ?_
  refine Cov.q .ro (.extract rfl rfl) rfl ?_
  refine Cov.q .ro (.assign rfl) rfl ?_
  refine Cov.q .ro (.assign rfl) rfl ?_
  refine Cov.region_end ?_
  refine Cov.seq ?_
  refine Cov.seq ?_
  refine Cov.region rfl ?_
  refine Cov.q .ro (.move rfl) rfl ?_
  refine Cov.q .ro (.neq rfl rfl) rfl ?_
  refine Cov.q .ro (.move rfl) rfl ?_
  refine Cov.cutR 7 (β := Unit) (fun y => [(28, .bool (decide ((u3.2 ≠ 0) ∨ ((x2_0.length : Int) ≠ x0_0))))]) [(1, _), (5, _), (7, _)] (fun y => G7 :: Fs) (fun y => []) [_, _] (fun y => []) [_] (fun y => True) ⟨rfl, rfl, rfl, trivial⟩ [0, 1] rfl [0] rfl ?_ ?_
  · rintro _ _
    refine Cov.prune [(28, .bool (decide ((u3.2 ≠ 0) ∨ ((x2_0.length : Int) ≠ x0_0)))), (1, _), (5, _), (7, _)] ⟨rfl, rfl, rfl, rfl, trivial⟩ ?_
    refine Cov.same (bl' := [_, _]) (sl' := [_]) (Fs' := G7 :: Fs) rfl rfl rfl ?_
    refine Cov.region_end ?_
    refine Cov.cond_dec rfl (fun c20 => ?_) (fun c20 => ?_)
    · have r21 := ifT r4 c20; clear r4
      refine Cov.seq ?_
      refine Cov.region rfl ?_
      refine Cov.q .ro (.assign rfl) rfl ?_
      refine Cov.region_end ?_
      cases r21
      refine Cov.drop 2 0 [] _ rfl rfl ?_
      refine Cov.drop 0 1 _ [] rfl rfl ?_
      refine Cov.retS (c := ⟨32, none⟩) (.inr ⟨_, rfl⟩) [.tmp 6] [_] rfl Try.func32 Try.results32 ⟨RV.tmp rfl, trivial⟩ (fun _ h => List.mem_cons_of_mem _ h) ⟨rfl, rfl, rfl⟩
    · have r22 := ifF r4 c20; clear r4
      refine Cov.skip ?_
      refine Cov.seq ?_
      refine Cov.region rfl ?_
      refine Cov.q .ro (.move rfl) rfl ?_
      refine Cov.q .ro (.len_sl rfl rfl sl22) rfl ?_
      obtain ⟨u23, hu23, r24⟩ := bind_some r22; clear r22
      refine Cov.makeR (G := G7) (Q := Rep.bool) .ro sl49 ty4 rfl rfl rfl ((Rep.boolI false) :) rfl rfl hu23 rfl rfl (fun b25 cs26 hb25 o27 => ?_)
      refine Cov.q .ro (.assign rfl) rfl ?_
      refine Cov.region_end ?_
      refine Cov.seq ?_
      refine Cov.region rfl ?_
      refine Cov.q .ro (.assign rfl) rfl ?_
      refine Cov.region_end ?_
      refine Cov.seq ?_
      refine Cov.seq ?_
      refine Cov.region rfl ?_
      refine Cov.q .ro (.fieldAddr 0 rfl fl43_0 ty22.sz rfl) rfl ?_
      refine Cov.q .ro (.load_own 0 rfl rfl ty22 rfl) rfl ?_
      refine Cov.q .ro (.len_sl rfl rfl sl22) rfl ?_
      refine Cov.q .ro (.move rfl) rfl ?_
      refine Cov.region_end ?_
      refine Cov.cutB (β := Int × Int) (fun y => [(10, .int .i64 y.1)]) [(1, _)] (fun y => G7 :: Fs) (fun y => [(b1, .cells #[.int .i64 y.2, .slice a0_1 x0_1.length k0_1] 25 (0, 0))]) [_] (fun y => []) [_] (fun y => (ref19_Fits_J1 x1) y.1 y.2 = some r) ⟨rfl, trivial⟩ [0] rfl [1] rfl ?_ ?_
      · intro y hI
        obtain ⟨v210, v211⟩ := y
        have r213 := hI; clear hI
        try dsimp only at r213
        refine Cov.prune [(10, .int .i64 v210), (1, _)] ⟨rfl, rfl, trivial⟩ ?_
        refine Cov.same (bl' := [(b1, .cells #[.int .i64 v211, .slice a0_1 x0_1.length k0_1] 25 (0, 0)), _]) (sl' := [_]) (Fs' := G7 :: Fs) rfl rfl rfl ?_
        unfold ref19_Fits_J1 at r213
        try dsimp only at r213
        refine Cov.seq ?_
        refine Cov.region rfl ?_
        refine Cov.q .ro (.move rfl) rfl ?_
        refine Cov.q .ro (.move rfl) rfl ?_
        refine Cov.q .ro (.len_sl rfl rfl sl22) rfl ?_
        refine Cov.q .ro (.eql rfl rfl) rfl ?_
        refine Cov.q .ro (.assign rfl) rfl ?_
        refine Cov.region_end ?_
        cases r213
        refine Cov.drop 2 0 [] _ rfl rfl ?_
        refine Cov.drop 0 1 _ [] rfl rfl ?_
        refine Cov.retS (c := ⟨32, none⟩) (.inr ⟨_, rfl⟩) [.tmp 6] [_] rfl Try.func32 Try.results32 ⟨RV.tmp rfl, trivial⟩ (fun _ h => List.mem_cons_of_mem _ h) ⟨rfl, rfl, rfl⟩
      · intro hb218
        refine Cov.block ?_
        refine Cov.loop2 (α := Nat × List Int × Int × List Bool × Option Addr × Nat × List Value) (fun y => [(10, .int .i64 y.2.2.1), (9, .slice y.2.2.2.2.1 y.2.2.2.1.length y.2.2.2.2.2.1), (35, .int .i64 (y.1 : Int))]) [(1, _), (7, _), (33, _), (34, _)] (fun y => []) (fun y => []) [_, _] (fun y => [.s (.slice y.2.2.2.2.1 y.2.2.2.1.length y.2.2.2.2.2.1) 4 1 y.2.2.2.1.length y.2.2.2.2.2.2]) [_] (fun y => OL Rep.bool G7 y.2.2.2.2.2.2 y.2.2.2.1 ∧ List.drop y.1 x2_0 = y.2.1 ∧ ref19_Fits_L2 (ref19_Fits_J1 x1) x1 x0_0 u3.1 y.2.1 y.1 y.2.2.1 y.2.2.2.1 = some r) (fun y => y.2.1.length) (0, x2_0, 0, u23, (some ⟨b25, 0, none⟩), u23.length, cs26) ⟨o27, rfl, r24⟩ ⟨rfl, rfl, rfl, rfl, rfl, rfl, rfl, trivial⟩ rfl rfl rfl (fun y hI hb315 => ?_)
        obtain ⟨i304, w305, v307, v308, a309, k310, cs311⟩ := y
        obtain ⟨o312, g306, r314⟩ := hI
        try dsimp only at o312 g306 r314
        refine Cov.prune [(10, .int .i64 v307), (9, .slice a309 v308.length k310), (35, .int .i64 (i304 : Int)), (1, _), (7, _), (33, _), (34, _)] ⟨rfl, rfl, rfl, rfl, rfl, rfl, rfl, trivial⟩ ?_
        refine Cov.same (bl' := [_, _]) (sl' := [.s (.slice a309 v308.length k310) 4 1 v308.length cs311, _]) (Fs' := G7 :: Fs) rfl rfl rfl ?_
        cases w305 with
        | nil =>
          rw [ref19_Fits_L2] at r314; try dsimp only at r314
          refine Cov.seq ?_
          refine Cov.region rfl ?_
          refine Cov.q .ro (.lss rfl rfl) rfl ?_
          refine Cov.region_end ?_
          refine Cov.seq ?_
          refine Cov.cond_dec rfl (fun c => absurd c (drop_nil g306)) (fun _ => ?_)
          refine Cov.exit rfl ?_
          refine Cov.pull 1 rfl [_, _] rfl ?_
          refine Cov.drop 0 1 _ [_] rfl rfl ?_
          refine Cov.prune _ ?_ (Cov.same rfl rfl rfl (hb218 (v307, x0_0) r314))
          exact ⟨rfl, rfl, trivial⟩
        | cons x323 xs324 =>
          have r322 : ref19_Fits_B2 (ref19_Fits_J1 x1) x1 x0_0 u3.1 (ref19_Fits_L2 (ref19_Fits_J1 x1) x1 x0_0 u3.1 xs324 (i304 + 1)) x323 i304 v307 v308 = some r := r314; clear r314; unfold ref19_Fits_B2 at r322; try dsimp only at r322
          refine Cov.seq ?_
          refine Cov.region rfl ?_
          refine Cov.q .ro (.lss rfl rfl) rfl ?_
          refine Cov.region_end ?_
          refine Cov.seq ?_
          refine Cov.cond_dec rfl (fun _ => ?_) (fun c => absurd (drop_lt g306) c)
          refine Cov.skip ?_
          refine Cov.seq ?_
          refine Cov.block ?_
          refine Cov.seq ?_
          refine Cov.region rfl ?_
          refine Cov.q .ro (.move rfl) rfl ?_
          obtain ⟨c325, p326, h327⟩ := SlR.get (SlR.mono e8 s2_0) (drop_idx g306)
          obtain rfl := h327
          refine Cov.q .ro (.idxR (SlR.mono e8 s2_0) rfl rfl (drop_idx g306) sl22 ty3.sz) rfl ?_
          refine Cov.q .ro (.load_rp p326 List.mem_cons_self rfl ty3 rfl) rfl ?_
          refine Cov.q .ro (.assign rfl) rfl ?_
          refine Cov.q .ro (.assign rfl) rfl ?_
          refine Cov.region_end ?_
          refine Cov.seq ?_
          refine Cov.seq ?_
          refine Cov.region rfl ?_
          refine Cov.q .ro (.move rfl) rfl ?_
          refine Cov.q .ro (.eql rfl rfl) rfl ?_
          refine Cov.region_end ?_
          refine Cov.cond_dec rfl (fun c328 => ?_) (fun c328 => ?_)
          · have r329 := ifT r322 c328; clear r322
            refine Cov.exit rfl ?_
            refine Cov.region rfl ?_
            refine Cov.q .ro (.addw rfl rfl) rfl ?_
            refine Cov.q .ro (.move rfl) rfl ?_
            refine Cov.region_end ?_
            refine Cov.prune _ ?_ (Cov.same rfl rfl rfl (hb315 ((i304 + 1), xs324, v307, v308, a309, k310, cs311) ⟨o312, (drop_succ g306), r329⟩ (Nat.lt_succ_self _)))
            exact ⟨rfl, rfl, (congrArg (fun z => some (Value.int .i64 z)) (idx_wrap (SlR.len (SlR.mono e8 s2_0)) g306)), rfl, rfl, rfl, rfl, trivial⟩
          · have r330 := ifF r322 c328; clear r322
            refine Cov.skip ?_
            refine Cov.seq ?_
            refine Cov.seq ?_
            refine Cov.region rfl ?_
            refine Cov.q .ro (.move rfl) rfl ?_
            refine Cov.q .ro (.lss rfl rfl) rfl ?_
            refine Cov.q .ro (.move rfl) rfl ?_
            refine Cov.cutR 5 (β := Unit) (fun y => [(49, .bool (decide ((x323 < 0) ∨ ((x1.length : Int) ≤ x323))))]) [(10, _), (9, _), (35, _), (1, _), (7, _), (33, _), (34, _), (11, _), (12, _)] (fun y => G7 :: Fs) (fun y => []) [_, _] (fun y => []) [_, _] (fun y => True) ⟨rfl, rfl, rfl, rfl, rfl, rfl, rfl, rfl, rfl, trivial⟩ [0, 1] rfl [0, 1] rfl ?_ ?_
            · rintro _ _
              refine Cov.prune [(49, .bool (decide ((x323 < 0) ∨ ((x1.length : Int) ≤ x323)))), (10, _), (9, _), (35, _), (1, _), (7, _), (33, _), (34, _), (11, _), (12, _)] ⟨rfl, rfl, rfl, rfl, rfl, rfl, rfl, rfl, rfl, rfl, trivial⟩ ?_
              refine Cov.same (bl' := [_, _]) (sl' := [_, _]) (Fs' := G7 :: Fs) rfl rfl rfl ?_
              refine Cov.q .ro (.move rfl) rfl ?_
              obtain ⟨u342, h343, r344⟩ := bind_some r330; clear r330
              refine Cov.cutR 5 (β := Unit) (fun y => [(55, .bool u342)]) [(10, _), (9, _), (35, _), (1, _), (7, _), (33, _), (34, _), (11, _), (12, _)] (fun y => G7 :: Fs) (fun y => []) [_, _] (fun y => []) [_, _] (fun y => True) ⟨rfl, rfl, rfl, rfl, rfl, rfl, rfl, rfl, rfl, trivial⟩ [0, 1] rfl [0, 1] rfl ?_ ?_
              · rintro _ _
                refine Cov.prune [(55, .bool u342), (10, _), (9, _), (35, _), (1, _), (7, _), (33, _), (34, _), (11, _), (12, _)] ⟨rfl, rfl, rfl, rfl, rfl, rfl, rfl, rfl, rfl, rfl, trivial⟩ ?_
                refine Cov.same (bl' := [_, _]) (sl' := [_, _]) (Fs' := G7 :: Fs) rfl rfl rfl ?_
                refine Cov.q .ro (.move rfl) rfl ?_
                obtain ⟨u361, h362, r363⟩ := bind_some r344; clear r344
                refine Cov.cutR 8 (β := Unit) (fun y => [(64, .bool u361)]) [(10, _), (9, _), (35, _), (1, _), (7, _), (33, _), (34, _), (12, _)] (fun y => G7 :: Fs) (fun y => []) [_, _] (fun y => []) [_, _] (fun y => True) ⟨rfl, rfl, rfl, rfl, rfl, rfl, rfl, rfl, trivial⟩ [0, 1] rfl [0, 1] rfl ?_ ?_
                · rintro _ _
                  refine Cov.prune [(64, .bool u361), (10, _), (9, _), (35, _), (1, _), (7, _), (33, _), (34, _), (12, _)] ⟨rfl, rfl, rfl, rfl, rfl, rfl, rfl, rfl, rfl, trivial⟩ ?_
                  refine Cov.same (bl' := [_, _]) (sl' := [_, _]) (Fs' := G7 :: Fs) rfl rfl rfl ?_
                  refine Cov.region_end ?_
                  refine Cov.cond rfl (fun c366 => ?_) (fun c366 => ?_)
                  · have r367 := ifT r363 c366; clear r363
                    refine Cov.seq ?_
                    refine Cov.region rfl ?_
                    refine Cov.q .ro (.assign rfl) rfl ?_
                    refine Cov.region_end ?_
                    cases r367
                    refine Cov.drop 2 0 [] _ rfl rfl ?_
                    refine Cov.drop 0 2 _ [] rfl rfl ?_
                    refine Cov.retS (c := ⟨32, none⟩) (.inr ⟨_, rfl⟩) [.tmp 6] [_] rfl Try.func32 Try.results32 ⟨RV.tmp rfl, trivial⟩ (fun _ h => List.mem_cons_of_mem _ h) ⟨rfl, rfl, rfl⟩
                  · have r368 := ifBF r363 c366; clear r363
                    refine Cov.skip ?_
                    refine Cov.seq ?_
                    refine Cov.region rfl ?_
                    refine Cov.q .ro (.move rfl) rfl ?_
                    refine Cov.q .ro (.move rfl) rfl ?_
                    obtain ⟨u369, hu369, r370⟩ := bind_some r368; clear r368
                    obtain ⟨c371, p372, h373⟩ := OL.get o312 hu369
                    obtain rfl := h373
                    refine Cov.q .ro (.idxO 0 rfl rfl rfl hu369 sl49 ty4.sz) rfl ?_
                    obtain ⟨u374, hu374, r375⟩ := bind_some r370; clear r370
                    refine Cov.storeR 0 0 (Q := Rep.bool) .ro rfl rfl o312 hu374 rfl (.inl ⟨rfl, rfl⟩) rfl ty4 p372 ((Rep.boolI true) :) rfl rfl (fun cs376 hlcs376 o377 => ?_)
                    refine Cov.reval 9 hlcs376 rfl ?_
                    refine Cov.reval 65 hlcs376 rfl ?_
                    refine Cov.region_end ?_
                    refine Cov.region rfl ?_
                    refine Cov.q .ro (.move rfl) rfl ?_
                    refine Cov.q .ro (.addw rfl rfl) rfl ?_
                    refine Cov.q .ro (.assign rfl) rfl ?_
                    refine Cov.region_end ?_
                    refine Cov.inBlock ?_
                    refine Cov.region rfl ?_
                    refine Cov.q .ro (.addw rfl rfl) rfl ?_
                    refine Cov.q .ro (.move rfl) rfl ?_
                    refine Cov.region_end ?_
                    refine Cov.prune _ ?_ (Cov.same rfl rfl rfl (hb315 ((i304 + 1), xs324, (w64 (v307 + 1)), u374, a309, k310, cs376) ⟨o377, (drop_succ g306), r375⟩ (Nat.lt_succ_self _)))
                    exact ⟨rfl, rfl, (congrArg (fun z => some (Value.int .i64 z)) (idx_wrap (SlR.len (SlR.mono e8 s2_0)) g306)), rfl, rfl, rfl, rfl, trivial⟩
                · intro hb360
                  refine Cov.split_b 56 rfl (fun c359 => ?_) (fun c359 => ?_)
                  · have r379 := ifT h362 c359
                    refine Cov.g_off rfl rfl rfl ?_
                    refine Cov.g_off rfl rfl rfl ?_
                    refine Cov.g_off rfl rfl rfl ?_
                    refine Cov.g_off rfl rfl rfl ?_
                    refine Cov.g_off rfl rfl rfl ?_
                    refine Cov.g_off rfl rfl rfl ?_
                    refine Cov.g_off rfl rfl rfl ?_
                    refine Cov.q .ro (.pick_t rfl rfl) rfl ?_
                    refine Cov.prune _ ?_ (Cov.same rfl rfl rfl (hb360 () trivial))
                    exact ⟨sval r379, rfl, rfl, rfl, rfl, rfl, rfl, rfl, rfl, trivial⟩
                  · have r380 := ifBF h362 c359
                    refine Cov.g_on rfl ?_
                    refine Cov.q .ro (.move rfl) rfl ?_
                    refine Cov.g_on rfl ?_
                    refine Cov.q .ro (.move rfl) rfl ?_
                    refine Cov.g_on rfl ?_
                    obtain ⟨u381, hu381, r382⟩ := bind_some r380; clear r380
                    obtain ⟨c383, p384, h385⟩ := OL.get o15 hu381
                    obtain ⟨a386, k387, rfl, s388⟩ := h385
                    refine Cov.q .ro (.idxO 1 rfl rfl rfl hu381 sl54 ty22.sz) rfl ?_
                    refine Cov.g_on rfl ?_
                    refine Cov.q .ro (.loadO 1 0 rfl hu381 p384 rfl (.inl ⟨rfl, rfl⟩) ty22 rfl) rfl ?_
                    refine Cov.g_on rfl ?_
                    refine Cov.q .ro (.move rfl) rfl ?_
                    refine Cov.g_on rfl ?_
                    obtain ⟨u389, hu389, r390⟩ := bind_some r382; clear r382
                    refine Cov.callS (b1 := []) (b2 := [_, _]) (s1 := []) [_, _] [] .ro rfl rfl Try.call46 rfl rfl (ref19_has_c (G := G7) List.mem_cons_self s388 hu389) rfl (fun v392 bo so h391 => ?_)
                    obtain ⟨rfl, rfl, rfl⟩ := h391
                    refine Cov.same (bl' := [_, _]) (sl' := [_, _]) rfl rfl rfl ?_
                    refine Cov.g_on rfl ?_
                    refine Cov.q .ro (.not rfl) rfl ?_
                    refine Cov.q .ro (.pick_f rfl rfl) rfl ?_
                    refine Cov.prune _ ?_ (Cov.same rfl rfl rfl (hb360 () trivial))
                    exact ⟨sval r390, rfl, rfl, rfl, rfl, rfl, rfl, rfl, rfl, trivial⟩
              · intro hb341
                refine Cov.split 50 rfl (fun c340 => ?_) (fun c340 => ?_)
                · have r393 := ifT h343 c340
                  refine Cov.g_off rfl rfl rfl ?_
                  refine Cov.g_off rfl rfl rfl ?_
                  refine Cov.g_off rfl rfl rfl ?_
                  refine Cov.g_off rfl rfl rfl ?_
                  refine Cov.q .ro (.pick_t rfl rfl) rfl ?_
                  refine Cov.prune _ ?_ (Cov.same rfl rfl rfl (hb341 () trivial))
                  exact ⟨sval r393, rfl, rfl, rfl, rfl, rfl, rfl, rfl, rfl, rfl, trivial⟩
                · have r394 := ifF h343 c340
                  refine Cov.g_on rfl ?_
                  refine Cov.q .ro (.move rfl) rfl ?_
                  refine Cov.g_on rfl ?_
                  refine Cov.q .ro (.move rfl) rfl ?_
                  refine Cov.g_on rfl ?_
                  obtain ⟨u395, hu395, r396⟩ := bind_some r394; clear r394
                  obtain ⟨c397, p398, h399⟩ := OL.get o312 hu395
                  obtain rfl := h399
                  refine Cov.q .ro (.idxO 0 rfl rfl rfl hu395 sl49 ty4.sz) rfl ?_
                  refine Cov.g_on rfl ?_
                  refine Cov.q .ro (.loadO 0 0 rfl hu395 p398 rfl (.inl ⟨rfl, rfl⟩) ty4 rfl) rfl ?_
                  refine Cov.q .ro (.pick_f rfl rfl) rfl ?_
                  refine Cov.prune _ ?_ (Cov.same rfl rfl rfl (hb341 () trivial))
                  exact ⟨sval r396, rfl, rfl, rfl, rfl, rfl, rfl, rfl, rfl, rfl, trivial⟩
            · intro hb332
              refine Cov.split 44 rfl (fun c331 => ?_) (fun c331 => ?_)
              · refine Cov.g_off rfl rfl rfl ?_
                refine Cov.g_off rfl rfl rfl ?_
                refine Cov.g_off rfl rfl rfl ?_
                refine Cov.g_off rfl rfl rfl ?_
                refine Cov.q .ro (.pick_t rfl rfl) rfl ?_
                refine Cov.prune _ ?_ (Cov.same rfl rfl rfl (hb332 () trivial))
                exact ⟨dor_t c331, rfl, rfl, rfl, rfl, rfl, rfl, rfl, rfl, rfl, trivial⟩
              · refine Cov.g_on rfl ?_
                refine Cov.q .ro (.move rfl) rfl ?_
                refine Cov.g_on rfl ?_
                refine Cov.q .ro (.move rfl) rfl ?_
                refine Cov.g_on rfl ?_
                refine Cov.q .ro (.len_sl rfl rfl sl22) rfl ?_
                refine Cov.g_on rfl ?_
                refine Cov.q .ro (.geq rfl rfl) rfl ?_
                refine Cov.q .ro (.pick_f rfl rfl) rfl ?_
                refine Cov.prune _ ?_ (Cov.same rfl rfl rfl (hb332 () trivial))
                exact ⟨dor_f c331, rfl, rfl, rfl, rfl, rfl, rfl, rfl, rfl, rfl, trivial⟩
  · intro hb17
    refine Cov.split 21 rfl (fun c16 => ?_) (fun c16 => ?_)
    · refine Cov.g_off rfl rfl rfl ?_
      refine Cov.g_off rfl rfl rfl ?_
      refine Cov.g_off rfl rfl rfl ?_
      refine Cov.g_off rfl rfl rfl ?_
      refine Cov.g_off rfl rfl rfl ?_
      refine Cov.g_off rfl rfl rfl ?_
      refine Cov.q .ro (.pick_t rfl rfl) rfl ?_
      refine Cov.prune _ ?_ (Cov.same rfl rfl rfl (hb17 () trivial))
      exact ⟨dor_t c16, rfl, rfl, rfl, trivial⟩
    · refine Cov.g_on rfl ?_
      refine Cov.q .ro (.fieldAddr 0 rfl fl43_0 ty22.sz rfl) rfl ?_
      refine Cov.g_on rfl ?_
      refine Cov.q .ro (.load_own 0 rfl rfl ty22 rfl) rfl ?_
      refine Cov.g_on rfl ?_
      refine Cov.q .ro (.len_sl rfl rfl sl22) rfl ?_
      refine Cov.g_on rfl ?_
      refine Cov.q .ro (.fieldAddr 0 rfl fl25_0 ty3.sz rfl) rfl ?_
      refine Cov.g_on rfl ?_
      refine Cov.q .ro (.load_own 1 rfl rfl ty3 rfl) rfl ?_
      refine Cov.g_on rfl ?_
      refine Cov.q .ro (.neq rfl rfl) rfl ?_
      refine Cov.q .ro (.pick_f rfl rfl) rfl ?_
      refine Cov.prune _ ?_ (Cov.same rfl rfl rfl (hb17 () trivial))
      exact ⟨dor_f c16, rfl, rfl, rfl, trivial⟩

set_option maxHeartbeats 4000000 in
set_option maxRecDepth 100000 in
theorem cuckoo_Spots_c {Fs : List Hp} {G : Hp} {x0_0 : Int} {a0_1 : Option Addr} {k0_1 : Nat} {x0_1 : List (Int × Int)} {a1 : Option Addr} {k1 : Nat} {x1 : List Int} {a2_0 : Option Addr} {k2_0 : Nat} {x2_0 : List Int} {r : ((List Int) × Int)} (hG : G ∈ Fs) (s0_1 : SlR (Rep.pair (Rep.int .i64) (Rep.int .i64)) G a0_1 k0_1 x0_1) (s1 : SlR (Rep.int .i64) G a1 k1 x1) (s2_0 : SlR (Rep.int .i64) G a2_0 k2_0 x2_0) (h : cuckoo_Spots (x0_0, x0_1) x1 x2_0 = some r) : RetS Try.prog 33 #[.agg #[.int .i64 x0_0, .slice a0_1 x0_1.length k0_1], .slice a1 x1.length k1, .agg #[.slice a2_0 x2_0.length k2_0]] Fs [] [] (fun v bo so => ∃ (oa0 : Option Addr) (ok0 : Nat) (oc0 : List Value), v = .tuple #[.slice oa0 r.1.length ok0, .int .i64 r.2] ∧ bo = [] ∧ so = [.s (.slice oa0 r.1.length ok0) 3 1 r.1.length oc0] ∧ OL (Rep.int .i64) G oc0 r.1) := by
  unfold cuckoo_Spots at h
  try dsimp only at h
  refine RetS.of (vs := [_, _, _]) Try.func33 rfl Try.ntmps33 [(0, _), (1, _), (2, _)] ⟨rfl, rfl, rfl, trivial⟩ rfl hG fun w0 S0 hS0 B0 => ?_
  refine Cov.seq ?_
  refine Cov.region rfl ?_
  refine Cov.box [_, _] .ro rfl rfl rfl (fun b1 hb1 => ?_)
  refine Cov.box [_] .ro rfl rfl rfl (fun b2 hb2 => ?_)
  refine Cov.q .ro (.assign rfl) rfl ?_
  refine Cov.q .ro (.assign rfl) rfl ?_
  refine Cov.region_end ?_
  refine Cov.seq ?_
  refine Cov.seq ?_
  refine Cov.region rfl ?_
  refine Cov.q .ro (.load_own_a 1 [_, _] rfl rfl ty25 rfl) rfl ?_
  obtain ⟨u3, hu3, r4⟩ := bind_some h; clear h
  refine Cov.callS (b1 := []) (b2 := [_, _]) (s1 := []) [_] [] .ro rfl rfl Try.call22 rfl rfl (cuckoo_Check_c (G := G) List.mem_cons_self s0_1 hu3) rfl (fun v6 bo so h5 => ?_)
  obtain ⟨rfl, rfl, rfl⟩ := h5
  refine Cov.same (bl' := [_, _]) (sl' := []) rfl rfl rfl ?_
  refine Cov.q .ro (.assign rfl) rfl ?_
  refine Cov.region_end ?_
  refine Cov.seq ?_
  refine Cov.region rfl ?_
  refine Cov.q .ro (.move rfl) rfl ?_
  refine Cov.q .ro (.neq rfl rfl) rfl ?_
  refine Cov.region_end ?_
  refine Cov.cond_dec rfl (fun c7 => ?_) (fun c7 => ?_)
  · have r8 := ifT r4 c7; clear r4
    refine Cov.seq ?_
    refine Cov.region rfl ?_
    refine Cov.q .ro (.move rfl) rfl ?_
    refine Cov.q .ro (.assign rfl) rfl ?_
    refine Cov.q .ro (.assign rfl) rfl ?_
    refine Cov.region_end ?_
    refine Cov.own_nil 3 1 ?_
    cases r8
    refine Cov.drop 2 0 [] _ rfl rfl ?_
    refine Cov.retS (c := ⟨33, none⟩) (.inr ⟨_, rfl⟩) [.tmp 6, .tmp 7] [_, _] rfl Try.func33 Try.results33 ⟨RV.tmp rfl, RV.tmp rfl, trivial⟩ (fun _ h => List.mem_cons_of_mem _ h) ⟨none, 0, [], rfl, rfl, rfl, (OL.nil (Rp' := (Rep.int .i64)))⟩
  · have r10 := ifF r4 c7; clear r4
    refine Cov.skip ?_
    refine Cov.seq ?_
    refine Cov.region rfl ?_
    refine Cov.q .ro (.assign rfl) rfl ?_
    refine Cov.region_end ?_
    refine Cov.seq ?_
    refine Cov.seq ?_
    refine Cov.region rfl ?_
    refine Cov.q .ro (.move rfl) rfl ?_
    refine Cov.q .ro (.len_sl rfl rfl sl22) rfl ?_
    refine Cov.q .ro (.move rfl) rfl ?_
    refine Cov.region_end ?_
    refine Cov.cutB (β := Int × Int) (fun y => [(9, .int .i64 y.1)]) [(1, _), (3, _), (5, _)] (fun y => G :: Fs) (fun y => [(b1, .cells #[.int .i64 y.2, .slice a0_1 x0_1.length k0_1] 25 (0, 0))]) [_] (fun y => []) [] (fun y => (cuckoo_Spots_J2 x1 x0_1 x2_0) y.1 y.2 = some r) ⟨rfl, rfl, rfl, trivial⟩ [0] rfl [] rfl ?_ ?_
    · intro y hI
      obtain ⟨v57, v58⟩ := y
      have r60 := hI; clear hI
      try dsimp only at r60
      refine Cov.prune [(9, .int .i64 v57), (1, _), (3, _), (5, _)] ⟨rfl, rfl, rfl, rfl, trivial⟩ ?_
      refine Cov.same (bl' := [(b1, .cells #[.int .i64 v58, .slice a0_1 x0_1.length k0_1] 25 (0, 0)), _]) (sl' := []) (Fs' := G :: Fs) rfl rfl rfl ?_
      unfold cuckoo_Spots_J2 at r60
      try dsimp only at r60
      refine Cov.seq ?_
      refine Cov.seq ?_
      refine Cov.region rfl ?_
      refine Cov.q .ro (.load_own_a 0 [_, _] rfl rfl ty25 rfl) rfl ?_
      refine Cov.q .ro (.move rfl) rfl ?_
      refine Cov.q .ro (.load_own_a 1 [_] rfl rfl ty43 rfl) rfl ?_
      obtain ⟨u64, hu64, r65⟩ := bind_some r60; clear r60
      refine Cov.callS (b1 := []) (b2 := [_, _]) (s1 := []) [_, _, _] [] .ro rfl rfl Try.call19 rfl rfl (cuckoo_Fits_c (G := G) List.mem_cons_self s0_1 s1 s2_0 hu64) rfl (fun v67 bo so h66 => ?_)
      obtain ⟨rfl, rfl, rfl⟩ := h66
      refine Cov.same (bl' := [_, _]) (sl' := []) rfl rfl rfl ?_
      refine Cov.q .ro (.not rfl) rfl ?_
      refine Cov.region_end ?_
      refine Cov.cond rfl (fun c68 => ?_) (fun c68 => ?_)
      · have r69 := ifT r65 c68; clear r65
        refine Cov.seq ?_
        refine Cov.region rfl ?_
        refine Cov.q .ro (.assign rfl) rfl ?_
        refine Cov.q .ro (.assign rfl) rfl ?_
        refine Cov.region_end ?_
        refine Cov.own_nil 3 1 ?_
        cases r69
        refine Cov.drop 2 0 [] _ rfl rfl ?_
        refine Cov.retS (c := ⟨33, none⟩) (.inr ⟨_, rfl⟩) [.tmp 6, .tmp 7] [_, _] rfl Try.func33 Try.results33 ⟨RV.tmp rfl, RV.tmp rfl, trivial⟩ (fun _ h => List.mem_cons_of_mem _ h) ⟨none, 0, [], rfl, rfl, rfl, (OL.nil (Rp' := (Rep.int .i64)))⟩
      · have r71 := ifBF r65 c68; clear r65
        refine Cov.skip ?_
        refine Cov.seq ?_
        refine Cov.region rfl ?_
        refine Cov.q .ro (.load_own_a 0 [_, _] rfl rfl ty25 rfl) rfl ?_
        refine Cov.q .ro (.move rfl) rfl ?_
        refine Cov.q .ro (.addw rfl rfl) rfl ?_
        obtain ⟨u72, hu72, r73⟩ := bind_some r71; clear r71
        refine Cov.callW (b1 := []) (b2 := [_, _]) (s1 := []) [_, _] [] .ro rfl rfl Try.call26 rfl rfl (cuckoo_Layout_c (G := G) List.mem_cons_self s0_1 hu72) rfl B0 (fun v75 bo so G76 e77 B78 h74 => ?_)
        obtain ⟨a80, k81, rfl, rfl, rfl, s82⟩ := h74
        refine Cov.same (bl' := [_, _]) (sl' := []) rfl rfl rfl ?_
        refine Cov.q .ro (.move rfl) rfl ?_
        refine Cov.q .ro (.extract rfl rfl) rfl ?_
        refine Cov.q .ro (.extract rfl rfl) rfl ?_
        refine Cov.q .ro (.assign rfl) rfl ?_
        refine Cov.q .ro (.assign rfl) rfl ?_
        refine Cov.region_end ?_
        refine Cov.prune [(1, _), (5, _), (12, _)] ⟨rfl, rfl, rfl, trivial⟩ ?_
        refine Cov.seq ?_
        refine Cov.region rfl ?_
        refine Cov.q .ro (.assign rfl) rfl ?_
        refine Cov.region_end ?_
        refine Cov.seq ?_
        refine Cov.seq ?_
        refine Cov.region rfl ?_
        refine Cov.q .ro (.move rfl) rfl ?_
        refine Cov.q .ro (.len_sl rfl rfl sl22) rfl ?_
        refine Cov.q .ro (.move rfl) rfl ?_
        refine Cov.region_end ?_
        refine Cov.block ?_
        refine Cov.own_nil 3 1 ?_
        refine Cov.loop2 (α := Nat × List Int × List Int × Option Addr × Nat × List Value) (fun y => [(14, .slice y.2.2.2.1 y.2.2.1.length y.2.2.2.2.1), (52, .int .i64 (y.1 : Int))]) [(5, _), (12, _), (50, _), (51, _)] (fun y => []) (fun y => []) [_, _] (fun y => [.s (.slice y.2.2.2.1 y.2.2.1.length y.2.2.2.2.1) 3 1 y.2.2.1.length y.2.2.2.2.2]) [] (fun y => OL (Rep.int .i64) G76 y.2.2.2.2.2 y.2.2.1 ∧ List.drop y.1 x1 = y.2.1 ∧ cuckoo_Spots_L1 u72.1 x2_0 y.2.1 y.1 y.2.2.1 = some r) (fun y => y.2.1.length) (0, x1, ([] : List Int), none, 0, []) ⟨(OL.nil (Rp' := (Rep.int .i64))), rfl, r73⟩ ⟨rfl, rfl, rfl, rfl, rfl, rfl, trivial⟩ rfl rfl rfl (fun y hI hb173 => ?_)
        obtain ⟨i163, w164, v166, a167, k168, cs169⟩ := y
        obtain ⟨o170, g165, r172⟩ := hI
        try dsimp only at o170 g165 r172
        refine Cov.prune [(14, .slice a167 v166.length k168), (52, .int .i64 (i163 : Int)), (5, _), (12, _), (50, _), (51, _)] ⟨rfl, rfl, rfl, rfl, rfl, rfl, trivial⟩ ?_
        refine Cov.same (bl' := [_, _]) (sl' := [.s (.slice a167 v166.length k168) 3 1 v166.length cs169]) (Fs' := G76 :: Fs) rfl rfl rfl ?_
        cases w164 with
        | nil =>
          rw [cuckoo_Spots_L1] at r172; try dsimp only at r172
          refine Cov.seq ?_
          refine Cov.region rfl ?_
          refine Cov.q .ro (.lss rfl rfl) rfl ?_
          refine Cov.region_end ?_
          refine Cov.seq ?_
          refine Cov.cond_dec rfl (fun c => absurd c (drop_nil g165)) (fun _ => ?_)
          refine Cov.exit rfl ?_
          refine Cov.seq ?_
          refine Cov.region rfl ?_
          refine Cov.q .ro (.move rfl) rfl ?_
          refine Cov.q .ro (.assign rfl) rfl ?_
          refine Cov.q .ro (.assign rfl) rfl ?_
          refine Cov.region_end ?_
          cases r172
          refine Cov.drop 2 0 [] _ rfl rfl ?_
          refine Cov.retS (c := ⟨33, none⟩) (.inr ⟨_, rfl⟩) [.tmp 6, .tmp 7] [_, _] rfl Try.func33 Try.results33 ⟨RV.tmp rfl, RV.tmp rfl, trivial⟩ (fun _ h => List.mem_cons_of_mem _ h) ⟨a167, k168, cs169, rfl, rfl, rfl, o170⟩
        | cons x181 xs182 =>
          have r180 : cuckoo_Spots_B1 u72.1 x2_0 (cuckoo_Spots_L1 u72.1 x2_0 xs182 (i163 + 1)) x181 i163 v166 = some r := r172; clear r172; unfold cuckoo_Spots_B1 at r180; try dsimp only at r180
          refine Cov.seq ?_
          refine Cov.region rfl ?_
          refine Cov.q .ro (.lss rfl rfl) rfl ?_
          refine Cov.region_end ?_
          refine Cov.seq ?_
          refine Cov.cond_dec rfl (fun _ => ?_) (fun c => absurd (drop_lt g165) c)
          refine Cov.skip ?_
          refine Cov.seq ?_
          refine Cov.block ?_
          refine Cov.seq ?_
          refine Cov.region rfl ?_
          refine Cov.q .ro (.move rfl) rfl ?_
          obtain ⟨c183, p184, h185⟩ := SlR.get (SlR.mono e77 s1) (drop_idx g165)
          obtain rfl := h185
          refine Cov.q .ro (.idxR (SlR.mono e77 s1) rfl rfl (drop_idx g165) sl22 ty3.sz) rfl ?_
          refine Cov.q .ro (.load_rp p184 List.mem_cons_self rfl ty3 rfl) rfl ?_
          refine Cov.q .ro (.assign rfl) rfl ?_
          refine Cov.q .ro (.assign rfl) rfl ?_
          refine Cov.region_end ?_
          refine Cov.region rfl ?_
          refine Cov.q .ro (.move rfl) rfl ?_
          refine Cov.q .ro (.move rfl) rfl ?_
          refine Cov.q .ro (.fieldAddr 0 rfl fl43_0 ty22.sz rfl) rfl ?_
          refine Cov.q .ro (.load_own 1 rfl rfl ty22 rfl) rfl ?_
          refine Cov.q .ro (.move rfl) rfl ?_
          obtain ⟨u186, hu186, r187⟩ := bind_some r180; clear r180
          refine Cov.callS (b1 := []) (b2 := [_, _]) (s1 := []) [_, _] [] .ro rfl rfl Try.call49 rfl rfl (slices_Index_Lintint_c (G := G76) List.mem_cons_self (SlR.mono e77 s2_0) hu186) rfl (fun v189 bo so h188 => ?_)
          obtain ⟨rfl, rfl, rfl⟩ := h188
          refine Cov.same (bl' := [_, _]) (sl' := [_]) rfl rfl rfl ?_
          obtain ⟨u190, hu190, r191⟩ := bind_some r187; clear r187
          obtain ⟨c192, p193, h194⟩ := SlR.get s82 hu190
          obtain ⟨a195, k196, rfl, s197⟩ := h194
          refine Cov.q .ro (.idxR s82 rfl rfl hu190 sl54 ty22.sz) rfl ?_
          refine Cov.q .ro (.load_rp p193 List.mem_cons_self rfl ty22 rfl) rfl ?_
          refine Cov.q .ro (.move rfl) rfl ?_
          obtain ⟨u198, hu198, r199⟩ := bind_some r191; clear r191
          refine Cov.callS (b1 := []) (b2 := [_, _]) (s1 := []) [_, _] [] .ro rfl rfl Try.call49 rfl rfl (slices_Index_Lintint_c (G := G76) List.mem_cons_self s197 hu198) rfl (fun v201 bo so h200 => ?_)
          obtain ⟨rfl, rfl, rfl⟩ := h200
          refine Cov.same (bl' := [_, _]) (sl' := [_]) rfl rfl rfl ?_
          refine Cov.lit [_] [(0, _)] .ro sl22 ty3 rfl rfl rfl rfl rfl rfl (fun b202 hb202 => ?_)
          have o203 : OL (Rep.int .i64) G76 [.int .i64 u198] ([u198] : List Int) := ((OL.cons rfl (Rep.intI .i64 u198) (OL.nil (Rp' := (Rep.int .i64)))) :)
          refine Cov.reval 67 (n' := ([u198] : List Int).length) rfl rfl ?_
          obtain ⟨u209, hu209, r210⟩ := bind_some r199; clear r199
          refine Cov.appO (Q := (Rep.int .i64)) 0 .ro sl22 ty3 rfl rfl rfl rfl rfl rfl o170 o203 rfl rfl rfl B78 hu209 rfl (fun a205 k206 cs207 o208 => ?_)
          refine Cov.q .ro (.assign rfl) rfl ?_
          refine Cov.region_end ?_
          refine Cov.prune [(14, _), (52, _), (5, _), (12, _), (50, _), (51, _)] ⟨rfl, rfl, rfl, rfl, rfl, rfl, trivial⟩ ?_
          refine Cov.inBlock ?_
          refine Cov.region rfl ?_
          refine Cov.q .ro (.addw rfl rfl) rfl ?_
          refine Cov.q .ro (.move rfl) rfl ?_
          refine Cov.region_end ?_
          refine Cov.prune _ ?_ (Cov.same rfl rfl rfl (hb173 ((i163 + 1), xs182, u209, a205, k206, cs207) ⟨o208, (drop_succ g165), r210⟩ (Nat.lt_succ_self _)))
          exact ⟨rfl, (congrArg (fun z => some (Value.int .i64 z)) (idx_wrap (SlR.len (SlR.mono e77 s1)) g165)), rfl, rfl, rfl, rfl, trivial⟩
    · intro hb212
      refine Cov.block ?_
      refine Cov.loop2 (α := Nat × List Int × Int) (fun y => [(9, .int .i64 y.2.2), (24, .int .i64 (y.1 : Int))]) [(1, _), (3, _), (5, _), (22, _), (23, _)] (fun y => []) (fun y => []) [_, _] (fun y => []) [] (fun y => List.drop y.1 x1 = y.2.1 ∧ cuckoo_Spots_L3 (cuckoo_Spots_J2 x1 x0_1 x2_0) x0_0 y.2.1 y.2.2 = some r) (fun y => y.2.1.length) (0, x1, (-1)) ⟨rfl, r10⟩ ⟨rfl, rfl, rfl, rfl, rfl, rfl, rfl, trivial⟩ rfl rfl rfl (fun y hI hb239 => ?_)
      obtain ⟨i234, w235, v237⟩ := y
      obtain ⟨g236, r238⟩ := hI
      try dsimp only at g236 r238
      refine Cov.prune [(9, .int .i64 v237), (24, .int .i64 (i234 : Int)), (1, _), (3, _), (5, _), (22, _), (23, _)] ⟨rfl, rfl, rfl, rfl, rfl, rfl, rfl, trivial⟩ ?_
      refine Cov.same (bl' := [_, _]) (sl' := []) (Fs' := G :: Fs) rfl rfl rfl ?_
      cases w235 with
      | nil =>
        rw [cuckoo_Spots_L3] at r238; try dsimp only at r238
        refine Cov.seq ?_
        refine Cov.region rfl ?_
        refine Cov.q .ro (.lss rfl rfl) rfl ?_
        refine Cov.region_end ?_
        refine Cov.seq ?_
        refine Cov.cond_dec rfl (fun c => absurd c (drop_nil g236)) (fun _ => ?_)
        refine Cov.exit rfl ?_
        refine Cov.pull 1 rfl [_, _] rfl ?_
        refine Cov.prune _ ?_ (Cov.same rfl rfl rfl (hb212 (v237, x0_0) r238))
        exact ⟨rfl, rfl, rfl, rfl, trivial⟩
      | cons x246 xs247 =>
        have r245 : cuckoo_Spots_B3 (cuckoo_Spots_J2 x1 x0_1 x2_0) x0_0 (cuckoo_Spots_L3 (cuckoo_Spots_J2 x1 x0_1 x2_0) x0_0 xs247) x246 v237 = some r := r238; clear r238; unfold cuckoo_Spots_B3 at r245; try dsimp only at r245
        refine Cov.seq ?_
        refine Cov.region rfl ?_
        refine Cov.q .ro (.lss rfl rfl) rfl ?_
        refine Cov.region_end ?_
        refine Cov.seq ?_
        refine Cov.cond_dec rfl (fun _ => ?_) (fun c => absurd (drop_lt g236) c)
        refine Cov.skip ?_
        refine Cov.seq ?_
        refine Cov.block ?_
        refine Cov.seq ?_
        refine Cov.region rfl ?_
        obtain ⟨c248, p249, h250⟩ := SlR.get s1 (drop_idx g236)
        obtain rfl := h250
        refine Cov.q .ro (.idxR s1 rfl rfl (drop_idx g236) sl22 ty3.sz) rfl ?_
        refine Cov.q .ro (.load_rp p249 List.mem_cons_self rfl ty3 rfl) rfl ?_
        refine Cov.q .ro (.assign rfl) rfl ?_
        refine Cov.region_end ?_
        refine Cov.seq ?_
        refine Cov.seq ?_
        refine Cov.region rfl ?_
        refine Cov.q .ro (.move rfl) rfl ?_
        refine Cov.q .ro (.lss rfl rfl) rfl ?_
        refine Cov.q .ro (.move rfl) rfl ?_
        refine Cov.cutR 3 (β := Unit) (fun y => [(33, .bool (decide ((x246 < 0) ∨ (1024 ≤ x246))))]) [(9, _), (24, _), (1, _), (3, _), (5, _), (22, _), (23, _), (11, _)] (fun y => G :: Fs) (fun y => []) [_, _] (fun y => []) [] (fun y => True) ⟨rfl, rfl, rfl, rfl, rfl, rfl, rfl, rfl, trivial⟩ [0, 1] rfl [] rfl ?_ ?_
        · rintro _ _
          refine Cov.prune [(33, .bool (decide ((x246 < 0) ∨ (1024 ≤ x246)))), (9, _), (24, _), (1, _), (3, _), (5, _), (22, _), (23, _), (11, _)] ⟨rfl, rfl, rfl, rfl, rfl, rfl, rfl, rfl, rfl, trivial⟩ ?_
          refine Cov.same (bl' := [_, _]) (sl' := []) (Fs' := G :: Fs) rfl rfl rfl ?_
          refine Cov.region_end ?_
          refine Cov.cond_dec rfl (fun c255 => ?_) (fun c255 => ?_)
          · have r256 := ifT r245 c255; clear r245
            refine Cov.seq ?_
            refine Cov.region rfl ?_
            refine Cov.q .ro (.assign rfl) rfl ?_
            refine Cov.q .ro (.assign rfl) rfl ?_
            refine Cov.region_end ?_
            refine Cov.own_nil 3 1 ?_
            cases r256
            refine Cov.drop 2 0 [] _ rfl rfl ?_
            refine Cov.retS (c := ⟨33, none⟩) (.inr ⟨_, rfl⟩) [.tmp 6, .tmp 7] [_, _] rfl Try.func33 Try.results33 ⟨RV.tmp rfl, RV.tmp rfl, trivial⟩ (fun _ h => List.mem_cons_of_mem _ h) ⟨none, 0, [], rfl, rfl, rfl, (OL.nil (Rp' := (Rep.int .i64)))⟩
          · have r258 := ifF r245 c255; clear r245
            refine Cov.skip ?_
            refine Cov.region rfl ?_
            refine Cov.q .ro (.move rfl) rfl ?_
            refine Cov.q .ro (.move rfl) rfl ?_
            refine Cov.q .ro (.max2 rfl rfl) rfl ?_
            refine Cov.q .ro (.assign rfl) rfl ?_
            refine Cov.region_end ?_
            refine Cov.inBlock ?_
            refine Cov.region rfl ?_
            refine Cov.q .ro (.addw rfl rfl) rfl ?_
            refine Cov.q .ro (.move rfl) rfl ?_
            refine Cov.region_end ?_
            refine Cov.prune _ ?_ (Cov.same rfl rfl rfl (hb239 ((i234 + 1), xs247, (max v237 x246)) ⟨(drop_succ g236), r258⟩ (Nat.lt_succ_self _)))
            exact ⟨rfl, (congrArg (fun z => some (Value.int .i64 z)) (idx_wrap (SlR.len s1) g236)), rfl, rfl, rfl, rfl, rfl, trivial⟩
        · intro hb252
          refine Cov.split 30 rfl (fun c251 => ?_) (fun c251 => ?_)
          · refine Cov.g_off rfl rfl rfl ?_
            refine Cov.g_off rfl rfl rfl ?_
            refine Cov.q .ro (.pick_t rfl rfl) rfl ?_
            refine Cov.prune _ ?_ (Cov.same rfl rfl rfl (hb252 () trivial))
            exact ⟨dor_t c251, rfl, rfl, rfl, rfl, rfl, rfl, rfl, rfl, trivial⟩
          · refine Cov.g_on rfl ?_
            refine Cov.q .ro (.move rfl) rfl ?_
            refine Cov.g_on rfl ?_
            refine Cov.q .ro (.geq rfl rfl) rfl ?_
            refine Cov.q .ro (.pick_f rfl rfl) rfl ?_
            refine Cov.prune _ ?_ (Cov.same rfl rfl rfl (hb252 () trivial))
            exact ⟨dor_f c251, rfl, rfl, rfl, rfl, rfl, rfl, rfl, rfl, trivial⟩

set_option maxHeartbeats 4000000 in
set_option maxRecDepth 100000 in
theorem ref19_Spots_c {Fs : List Hp} {G : Hp} {x0_0 : Int} {a0_1 : Option Addr} {k0_1 : Nat} {x0_1 : List (Int × Int)} {a1 : Option Addr} {k1 : Nat} {x1 : List Int} {a2_0 : Option Addr} {k2_0 : Nat} {x2_0 : List Int} {r : ((List Int) × Int)} (hG : G ∈ Fs) (s0_1 : SlR (Rep.pair (Rep.int .i64) (Rep.int .i64)) G a0_1 k0_1 x0_1) (s1 : SlR (Rep.int .i64) G a1 k1 x1) (s2_0 : SlR (Rep.int .i64) G a2_0 k2_0 x2_0) (h : ref19_Spots (x0_0, x0_1) x1 x2_0 = some r) : RetS Try.prog 34 #[.agg #[.int .i64 x0_0, .slice a0_1 x0_1.length k0_1], .slice a1 x1.length k1, .agg #[.slice a2_0 x2_0.length k2_0]] Fs [] [] (fun v bo so => ∃ (oa0 : Option Addr) (ok0 : Nat) (oc0 : List Value), v = .tuple #[.slice oa0 r.1.length ok0, .int .i64 r.2] ∧ bo = [] ∧ so = [.s (.slice oa0 r.1.length ok0) 3 1 r.1.length oc0] ∧ OL (Rep.int .i64) G oc0 r.1) := by
  unfold ref19_Spots at h
  try dsimp only at h
  refine RetS.of (vs := [_, _, _]) Try.func34 rfl Try.ntmps34 [(0, _), (1, _), (2, _)] ⟨rfl, rfl, rfl, trivial⟩ rfl hG fun w0 S0 hS0 B0 => ?_
  refine Cov.seq ?_
  refine Cov.region rfl ?_
  refine Cov.box [_, _] .ro rfl rfl rfl (fun b1 hb1 => ?_)
  refine Cov.box [_] .ro rfl rfl rfl (fun b2 hb2 => ?_)
  refine Cov.q .ro (.assign rfl) rfl ?_
  refine Cov.q .ro (.assign rfl) rfl ?_
  refine Cov.region_end ?_
  refine Cov.seq ?_
  refine Cov.seq ?_
  refine Cov.region rfl ?_
  refine Cov.q .ro (.load_own_a 1 [_, _] rfl rfl ty25 rfl) rfl ?_
  obtain ⟨u3, hu3, r4⟩ := bind_some h; clear h
  refine Cov.callS (b1 := []) (b2 := [_, _]) (s1 := []) [_] [] .ro rfl rfl Try.call23 rfl rfl (ref19_Check_c (G := G) List.mem_cons_self s0_1 hu3) rfl (fun v6 bo so h5 => ?_)
  obtain ⟨rfl, rfl, rfl⟩ := h5
  refine Cov.same (bl' := [_, _]) (sl' := []) rfl rfl rfl ?_
  refine Cov.q .ro (.assign rfl) rfl ?_
  refine Cov.region_end ?_
  refine Cov.seq ?_
  refine Cov.region rfl ?_
  refine Cov.q .ro (.move rfl) rfl ?_
  refine Cov.q .ro (.neq rfl rfl) rfl ?_
  refine Cov.region_end ?_
  refine Cov.cond_dec rfl (fun c7 => ?_) (fun c7 => ?_)
  · have r8 := ifT r4 c7; clear r4
    refine Cov.seq ?_
    refine Cov.region rfl ?_
    refine Cov.q .ro (.move rfl) rfl ?_
    refine Cov.q .ro (.assign rfl) rfl ?_
    refine Cov.q .ro (.assign rfl) rfl ?_
    refine Cov.region_end ?_
    refine Cov.own_nil 3 1 ?_
    cases r8
    refine Cov.drop 2 0 [] _ rfl rfl ?_
    refine Cov.retS (c := ⟨34, none⟩) (.inr ⟨_, rfl⟩) [.tmp 6, .tmp 7] [_, _] rfl Try.func34 Try.results34 ⟨RV.tmp rfl, RV.tmp rfl, trivial⟩ (fun _ h => List.mem_cons_of_mem _ h) ⟨none, 0, [], rfl, rfl, rfl, (OL.nil (Rp' := (Rep.int .i64)))⟩
  · have r10 := ifF r4 c7; clear r4
    refine Cov.skip ?_
    refine Cov.seq ?_
    refine Cov.region rfl ?_
    refine Cov.q .ro (.assign rfl) rfl ?_
    refine Cov.region_end ?_
    refine Cov.seq ?_
    refine Cov.seq ?_
    refine Cov.region rfl ?_
    refine Cov.q .ro (.move rfl) rfl ?_
    refine Cov.q .ro (.len_sl rfl rfl sl22) rfl ?_
    refine Cov.q .ro (.move rfl) rfl ?_
    refine Cov.region_end ?_
    refine Cov.cutB (β := Int × Int) (fun y => [(9, .int .i64 y.1)]) [(1, _), (3, _), (5, _)] (fun y => G :: Fs) (fun y => [(b1, .cells #[.int .i64 y.2, .slice a0_1 x0_1.length k0_1] 25 (0, 0))]) [_] (fun y => []) [] (fun y => (ref19_Spots_J3 x1 x0_1 x2_0) y.1 y.2 = some r) ⟨rfl, rfl, rfl, trivial⟩ [0] rfl [] rfl ?_ ?_
    · intro y hI
      obtain ⟨v57, v58⟩ := y
      have r60 := hI; clear hI
      try dsimp only at r60
      refine Cov.prune [(9, .int .i64 v57), (1, _), (3, _), (5, _)] ⟨rfl, rfl, rfl, rfl, trivial⟩ ?_
      refine Cov.same (bl' := [(b1, .cells #[.int .i64 v58, .slice a0_1 x0_1.length k0_1] 25 (0, 0)), _]) (sl' := []) (Fs' := G :: Fs) rfl rfl rfl ?_
      unfold ref19_Spots_J3 at r60
      try dsimp only at r60
      refine Cov.seq ?_
      refine Cov.seq ?_
      refine Cov.region rfl ?_
      refine Cov.q .ro (.load_own_a 0 [_, _] rfl rfl ty25 rfl) rfl ?_
      refine Cov.q .ro (.move rfl) rfl ?_
      refine Cov.q .ro (.load_own_a 1 [_] rfl rfl ty43 rfl) rfl ?_
      obtain ⟨u64, hu64, r65⟩ := bind_some r60; clear r60
      refine Cov.callS (b1 := []) (b2 := [_, _]) (s1 := []) [_, _, _] [] .ro rfl rfl Try.call32 rfl rfl (ref19_Fits_c (G := G) List.mem_cons_self s0_1 s1 s2_0 hu64) rfl (fun v67 bo so h66 => ?_)
      obtain ⟨rfl, rfl, rfl⟩ := h66
      refine Cov.same (bl' := [_, _]) (sl' := []) rfl rfl rfl ?_
      refine Cov.q .ro (.not rfl) rfl ?_
      refine Cov.region_end ?_
      refine Cov.cond rfl (fun c68 => ?_) (fun c68 => ?_)
      · have r69 := ifT r65 c68; clear r65
        refine Cov.seq ?_
        refine Cov.region rfl ?_
        refine Cov.q .ro (.assign rfl) rfl ?_
        refine Cov.q .ro (.assign rfl) rfl ?_
        refine Cov.region_end ?_
        refine Cov.own_nil 3 1 ?_
        cases r69
        refine Cov.drop 2 0 [] _ rfl rfl ?_
        refine Cov.retS (c := ⟨34, none⟩) (.inr ⟨_, rfl⟩) [.tmp 6, .tmp 7] [_, _] rfl Try.func34 Try.results34 ⟨RV.tmp rfl, RV.tmp rfl, trivial⟩ (fun _ h => List.mem_cons_of_mem _ h) ⟨none, 0, [], rfl, rfl, rfl, (OL.nil (Rp' := (Rep.int .i64)))⟩
      · have r71 := ifBF r65 c68; clear r65
        refine Cov.skip ?_
        refine Cov.seq ?_
        refine Cov.region rfl ?_
        refine Cov.q .ro (.load_own_a 0 [_, _] rfl rfl ty25 rfl) rfl ?_
        refine Cov.q .ro (.move rfl) rfl ?_
        refine Cov.q .ro (.addw rfl rfl) rfl ?_
        obtain ⟨u72, hu72, r73⟩ := bind_some r71; clear r71
        refine Cov.callW (b1 := []) (b2 := [_, _]) (s1 := []) [_, _] [] .ro rfl rfl Try.call27 rfl rfl (ref19_Layout_c (G := G) List.mem_cons_self s0_1 hu72) rfl B0 (fun v75 bo so G76 e77 B78 h74 => ?_)
        obtain ⟨a80, k81, rfl, rfl, rfl, s82⟩ := h74
        refine Cov.same (bl' := [_, _]) (sl' := []) rfl rfl rfl ?_
        refine Cov.q .ro (.move rfl) rfl ?_
        refine Cov.q .ro (.extract rfl rfl) rfl ?_
        refine Cov.q .ro (.extract rfl rfl) rfl ?_
        refine Cov.q .ro (.assign rfl) rfl ?_
        refine Cov.q .ro (.assign rfl) rfl ?_
        refine Cov.region_end ?_
        refine Cov.prune [(1, _), (5, _), (12, _)] ⟨rfl, rfl, rfl, trivial⟩ ?_
        refine Cov.seq ?_
        refine Cov.region rfl ?_
        refine Cov.q .ro (.move rfl) rfl ?_
        refine Cov.q .ro (.len_sl rfl rfl sl22) rfl ?_
        obtain ⟨u83, hu83, r84⟩ := bind_some r73; clear r73
        refine Cov.makeR (G := G76) (Q := (Rep.int .i64)) .ro sl22 ty3 rfl rfl rfl ((Rep.intI .i64 0) :) rfl rfl hu83 rfl rfl (fun b85 cs86 hb85 o87 => ?_)
        refine Cov.q .ro (.assign rfl) rfl ?_
        refine Cov.region_end ?_
        refine Cov.seq ?_
        refine Cov.seq ?_
        refine Cov.region rfl ?_
        refine Cov.q .ro (.fieldAddr 0 rfl fl43_0 ty22.sz rfl) rfl ?_
        refine Cov.q .ro (.load_own 1 rfl rfl ty22 rfl) rfl ?_
        refine Cov.q .ro (.len_sl rfl rfl sl22) rfl ?_
        refine Cov.q .ro (.move rfl) rfl ?_
        refine Cov.region_end ?_
        refine Cov.block ?_
        refine Cov.loop2 (α := Nat × List Int × List Int × Option Addr × Nat × List Value × Int) (fun y => [(14, .slice y.2.2.2.1 y.2.2.1.length y.2.2.2.2.1), (58, .int .i64 (y.1 : Int))]) [(1, _), (12, _), (56, _), (57, _)] (fun y => []) (fun y => [(b1, .cells #[.int .i64 y.2.2.2.2.2.2, .slice a0_1 x0_1.length k0_1] 25 (0, 0))]) [_] (fun y => [.s (.slice y.2.2.2.1 y.2.2.1.length y.2.2.2.2.1) 3 1 y.2.2.1.length y.2.2.2.2.2.1]) [] (fun y => OL (Rep.int .i64) G76 y.2.2.2.2.2.1 y.2.2.1 ∧ List.drop y.1 x2_0 = y.2.1 ∧ ref19_Spots_L2 x1 u72.1 y.2.1 y.1 y.2.2.1 y.2.2.2.2.2.2 = some r) (fun y => y.2.1.length) (0, x2_0, u83, (some ⟨b85, 0, none⟩), u83.length, cs86, v58) ⟨o87, rfl, r84⟩ ⟨rfl, rfl, rfl, rfl, rfl, rfl, trivial⟩ rfl rfl rfl (fun y hI hb222 => ?_)
        obtain ⟨i211, w212, v214, a215, k216, cs217, v220⟩ := y
        obtain ⟨o218, g213, r221⟩ := hI
        try dsimp only at o218 g213 r221
        refine Cov.prune [(14, .slice a215 v214.length k216), (58, .int .i64 (i211 : Int)), (1, _), (12, _), (56, _), (57, _)] ⟨rfl, rfl, rfl, rfl, rfl, rfl, trivial⟩ ?_
        refine Cov.same (bl' := [(b1, .cells #[.int .i64 v220, .slice a0_1 x0_1.length k0_1] 25 (0, 0)), _]) (sl' := [.s (.slice a215 v214.length k216) 3 1 v214.length cs217]) (Fs' := G76 :: Fs) rfl rfl rfl ?_
        cases w212 with
        | nil =>
          rw [ref19_Spots_L2] at r221; try dsimp only at r221
          refine Cov.seq ?_
          refine Cov.region rfl ?_
          refine Cov.q .ro (.lss rfl rfl) rfl ?_
          refine Cov.region_end ?_
          refine Cov.seq ?_
          refine Cov.cond_dec rfl (fun c => absurd c (drop_nil g213)) (fun _ => ?_)
          refine Cov.exit rfl ?_
          refine Cov.seq ?_
          refine Cov.region rfl ?_
          refine Cov.q .ro (.move rfl) rfl ?_
          refine Cov.q .ro (.assign rfl) rfl ?_
          refine Cov.q .ro (.assign rfl) rfl ?_
          refine Cov.region_end ?_
          cases r221
          refine Cov.drop 2 0 [] _ rfl rfl ?_
          refine Cov.retS (c := ⟨34, none⟩) (.inr ⟨_, rfl⟩) [.tmp 6, .tmp 7] [_, _] rfl Try.func34 Try.results34 ⟨RV.tmp rfl, RV.tmp rfl, trivial⟩ (fun _ h => List.mem_cons_of_mem _ h) ⟨a215, k216, cs217, rfl, rfl, rfl, o218⟩
        | cons x229 xs230 =>
          have r228 : ref19_Spots_B2 x1 u72.1 (ref19_Spots_L2 x1 u72.1 xs230 (i211 + 1)) x229 i211 v214 v220 = some r := r221; clear r221; unfold ref19_Spots_B2 at r228; try dsimp only at r228
          refine Cov.seq ?_
          refine Cov.region rfl ?_
          refine Cov.q .ro (.lss rfl rfl) rfl ?_
          refine Cov.region_end ?_
          refine Cov.seq ?_
          refine Cov.cond_dec rfl (fun _ => ?_) (fun c => absurd (drop_lt g213) c)
          refine Cov.skip ?_
          refine Cov.seq ?_
          refine Cov.block ?_
          refine Cov.seq ?_
          refine Cov.region rfl ?_
          refine Cov.q .ro (.move rfl) rfl ?_
          obtain ⟨c231, p232, h233⟩ := SlR.get (SlR.mono e77 s2_0) (drop_idx g213)
          obtain rfl := h233
          refine Cov.q .ro (.idxR (SlR.mono e77 s2_0) rfl rfl (drop_idx g213) sl22 ty3.sz) rfl ?_
          refine Cov.q .ro (.load_rp p232 List.mem_cons_self rfl ty3 rfl) rfl ?_
          refine Cov.q .ro (.assign rfl) rfl ?_
          refine Cov.q .ro (.assign rfl) rfl ?_
          refine Cov.region_end ?_
          refine Cov.seq ?_
          refine Cov.region rfl ?_
          refine Cov.q .ro (.move rfl) rfl ?_
          refine Cov.q .ro (.move rfl) rfl ?_
          obtain ⟨u234, hu234, r235⟩ := bind_some r228; clear r228
          obtain ⟨c236, p237, h238⟩ := SlR.get s82 hu234
          obtain ⟨a239, k240, rfl, s241⟩ := h238
          refine Cov.q .ro (.idxR s82 rfl rfl hu234 sl54 ty22.sz) rfl ?_
          refine Cov.q .ro (.load_rp p237 List.mem_cons_self rfl ty22 rfl) rfl ?_
          refine Cov.q .ro (.len_sl rfl rfl sl22) rfl ?_
          refine Cov.q .ro (.move rfl) rfl ?_
          refine Cov.region_end ?_
          refine Cov.block ?_
          refine Cov.loop2 (α := Nat × List Int × List Int × Option Addr × Nat × List Value) (fun y => [(14, .slice y.2.2.2.1 y.2.2.1.length y.2.2.2.2.1), (68, .int .i64 (y.1 : Int))]) [(58, _), (1, _), (12, _), (56, _), (57, _), (16, _), (66, _), (67, _)] (fun y => []) (fun y => []) [_, _] (fun y => [.s (.slice y.2.2.2.1 y.2.2.1.length y.2.2.2.2.1) 3 1 y.2.2.1.length y.2.2.2.2.2]) [] (fun y => OL (Rep.int .i64) G76 y.2.2.2.2.2 y.2.2.1 ∧ List.drop y.1 u234 = y.2.1 ∧ ref19_Spots_L1 (ref19_Spots_L2 x1 u72.1 xs230 (i211 + 1)) x1 x229 v220 y.2.1 y.1 y.2.2.1 = some r) (fun y => y.2.1.length) (0, u234, v214, a215, k216, cs217) ⟨o218, rfl, r235⟩ ⟨rfl, rfl, rfl, rfl, rfl, rfl, rfl, rfl, rfl, rfl, trivial⟩ rfl rfl rfl (fun y hI hb296 => ?_)
          obtain ⟨i286, w287, v289, a290, k291, cs292⟩ := y
          obtain ⟨o293, g288, r295⟩ := hI
          try dsimp only at o293 g288 r295
          refine Cov.prune [(14, .slice a290 v289.length k291), (68, .int .i64 (i286 : Int)), (58, _), (1, _), (12, _), (56, _), (57, _), (16, _), (66, _), (67, _)] ⟨rfl, rfl, rfl, rfl, rfl, rfl, rfl, rfl, rfl, rfl, trivial⟩ ?_
          refine Cov.same (bl' := [_, _]) (sl' := [.s (.slice a290 v289.length k291) 3 1 v289.length cs292]) (Fs' := G76 :: Fs) rfl rfl rfl ?_
          cases w287 with
          | nil =>
            rw [ref19_Spots_L1] at r295; try dsimp only at r295
            refine Cov.seq ?_
            refine Cov.region rfl ?_
            refine Cov.q .ro (.lss rfl rfl) rfl ?_
            refine Cov.region_end ?_
            refine Cov.seq ?_
            refine Cov.cond_dec rfl (fun c => absurd c (drop_nil g288)) (fun _ => ?_)
            refine Cov.exit rfl ?_
            refine Cov.inBlock ?_
            refine Cov.region rfl ?_
            refine Cov.q .ro (.addw rfl rfl) rfl ?_
            refine Cov.q .ro (.move rfl) rfl ?_
            refine Cov.region_end ?_
            refine Cov.prune _ ?_ (Cov.same rfl rfl rfl (hb222 ((i211 + 1), xs230, v289, a290, k291, cs292, v220) ⟨o293, (drop_succ g213), r295⟩ (Nat.lt_succ_self _)))
            exact ⟨rfl, (congrArg (fun z => some (Value.int .i64 z)) (idx_wrap (SlR.len (SlR.mono e77 s2_0)) g213)), rfl, rfl, rfl, rfl, trivial⟩
          | cons x308 xs309 =>
            have r307 : ref19_Spots_B1 (ref19_Spots_L2 x1 u72.1 xs230 (i211 + 1)) x1 x229 v220 (ref19_Spots_L1 (ref19_Spots_L2 x1 u72.1 xs230 (i211 + 1)) x1 x229 v220 xs309 (i286 + 1)) x308 i286 v289 = some r := r295; clear r295; unfold ref19_Spots_B1 at r307; try dsimp only at r307
            refine Cov.seq ?_
            refine Cov.region rfl ?_
            refine Cov.q .ro (.lss rfl rfl) rfl ?_
            refine Cov.region_end ?_
            refine Cov.seq ?_
            refine Cov.cond_dec rfl (fun _ => ?_) (fun c => absurd (drop_lt g288) c)
            refine Cov.skip ?_
            refine Cov.seq ?_
            refine Cov.block ?_
            refine Cov.seq ?_
            refine Cov.region rfl ?_
            refine Cov.q .ro (.move rfl) rfl ?_
            obtain ⟨c310, p311, h312⟩ := SlR.get s241 (drop_idx g288)
            obtain rfl := h312
            refine Cov.q .ro (.idxR s241 rfl rfl (drop_idx g288) sl22 ty3.sz) rfl ?_
            refine Cov.q .ro (.load_rp p311 List.mem_cons_self rfl ty3 rfl) rfl ?_
            refine Cov.q .ro (.assign rfl) rfl ?_
            refine Cov.q .ro (.assign rfl) rfl ?_
            refine Cov.region_end ?_
            refine Cov.seq ?_
            refine Cov.region rfl ?_
            refine Cov.q .ro (.move rfl) rfl ?_
            refine Cov.q .ro (.geq rfl rfl) rfl ?_
            refine Cov.q .ro (.move rfl) rfl ?_
            obtain ⟨u320, h321, r322⟩ := bind_some r307; clear r307
            refine Cov.cutR 7 (β := Unit) (fun y => [(82, .bool u320)]) [(14, _), (68, _), (58, _), (1, _), (12, _), (56, _), (57, _), (16, _), (66, _), (67, _), (17, _)] (fun y => G76 :: Fs) (fun y => []) [_, _] (fun y => []) [_] (fun y => True) ⟨rfl, rfl, rfl, rfl, rfl, rfl, rfl, rfl, rfl, rfl, rfl, trivial⟩ [0, 1] rfl [0] rfl ?_ ?_
            · rintro _ _
              refine Cov.prune [(82, .bool u320), (14, _), (68, _), (58, _), (1, _), (12, _), (56, _), (57, _), (16, _), (66, _), (67, _), (17, _)] ⟨rfl, rfl, rfl, rfl, rfl, rfl, rfl, rfl, rfl, rfl, rfl, rfl, trivial⟩ ?_
              refine Cov.same (bl' := [_, _]) (sl' := [_]) (Fs' := G76 :: Fs) rfl rfl rfl ?_
              refine Cov.region_end ?_
              refine Cov.cond rfl (fun c325 => ?_) (fun c325 => ?_)
              · have r326 := ifT r322 c325; clear r322
                refine Cov.region rfl ?_
                refine Cov.q .ro (.move rfl) rfl ?_
                refine Cov.q .ro (.move rfl) rfl ?_
                refine Cov.q .ro (.move rfl) rfl ?_
                obtain ⟨u327, hu327, r328⟩ := bind_some r326; clear r326
                obtain ⟨c329, p330, h331⟩ := OL.get o293 hu327
                obtain rfl := h331
                refine Cov.q .ro (.idxO 0 rfl rfl rfl hu327 sl22 ty3.sz) rfl ?_
                obtain ⟨u332, hu332, r333⟩ := bind_some r328; clear r328
                refine Cov.storeR 0 0 (Q := (Rep.int .i64)) .ro rfl rfl o293 hu332 rfl (.inl ⟨rfl, rfl⟩) rfl ty3 p330 ((Rep.intI .i64 (i286 : Int)) :) rfl rfl (fun cs334 hlcs334 o335 => ?_)
                refine Cov.reval 14 hlcs334 rfl ?_
                refine Cov.reval 83 hlcs334 rfl ?_
                refine Cov.region_end ?_
                refine Cov.inBlock ?_
                refine Cov.region rfl ?_
                refine Cov.q .ro (.addw rfl rfl) rfl ?_
                refine Cov.q .ro (.move rfl) rfl ?_
                refine Cov.region_end ?_
                refine Cov.prune _ ?_ (Cov.same rfl rfl rfl (hb296 ((i286 + 1), xs309, u332, a290, k291, cs334) ⟨o335, (drop_succ g288), r333⟩ (Nat.lt_succ_self _)))
                exact ⟨rfl, (congrArg (fun z => some (Value.int .i64 z)) (idx_wrap (SlR.len s241) g288)), rfl, rfl, rfl, rfl, rfl, rfl, rfl, rfl, trivial⟩
              · have r337 := ifBF r322 c325; clear r322
                refine Cov.skip ?_
                refine Cov.inBlock ?_
                refine Cov.region rfl ?_
                refine Cov.q .ro (.addw rfl rfl) rfl ?_
                refine Cov.q .ro (.move rfl) rfl ?_
                refine Cov.region_end ?_
                refine Cov.prune _ ?_ (Cov.same rfl rfl rfl (hb296 ((i286 + 1), xs309, v289, a290, k291, cs292) ⟨o293, (drop_succ g288), r337⟩ (Nat.lt_succ_self _)))
                exact ⟨rfl, (congrArg (fun z => some (Value.int .i64 z)) (idx_wrap (SlR.len s241) g288)), rfl, rfl, rfl, rfl, rfl, rfl, rfl, rfl, trivial⟩
            · intro hb319
              refine Cov.split 75 rfl (fun c318 => ?_) (fun c318 => ?_)
              · have r338 := ifT h321 c318
                refine Cov.g_on rfl ?_
                refine Cov.q .ro (.move rfl) rfl ?_
                refine Cov.g_on rfl ?_
                refine Cov.q .ro (.move rfl) rfl ?_
                refine Cov.g_on rfl ?_
                refine Cov.q .ro (.move rfl) rfl ?_
                refine Cov.g_on rfl ?_
                obtain ⟨u339, hu339, r340⟩ := bind_some r338; clear r338
                obtain ⟨c341, p342, h343⟩ := SlR.get (SlR.mono e77 s1) hu339
                obtain rfl := h343
                refine Cov.q .ro (.idxR (SlR.mono e77 s1) rfl rfl hu339 sl22 ty3.sz) rfl ?_
                refine Cov.g_on rfl ?_
                refine Cov.q .ro (.load_rp p342 List.mem_cons_self rfl ty3 rfl) rfl ?_
                refine Cov.g_on rfl ?_
                refine Cov.q .ro (.eql rfl rfl) rfl ?_
                refine Cov.q .ro (.pick_t rfl rfl) rfl ?_
                refine Cov.prune _ ?_ (Cov.same rfl rfl rfl (hb319 () trivial))
                exact ⟨sval r340, rfl, rfl, rfl, rfl, rfl, rfl, rfl, rfl, rfl, rfl, rfl, trivial⟩
              · have r344 := ifF h321 c318
                refine Cov.g_off rfl rfl rfl ?_
                refine Cov.g_off rfl rfl rfl ?_
                refine Cov.g_off rfl rfl rfl ?_
                refine Cov.g_off rfl rfl rfl ?_
                refine Cov.g_off rfl rfl rfl ?_
                refine Cov.g_off rfl rfl rfl ?_
                refine Cov.q .ro (.pick_f rfl rfl) rfl ?_
                refine Cov.prune _ ?_ (Cov.same rfl rfl rfl (hb319 () trivial))
                exact ⟨sval r344, rfl, rfl, rfl, rfl, rfl, rfl, rfl, rfl, rfl, rfl, rfl, trivial⟩
    · intro hb345
      refine Cov.block ?_
      refine Cov.loop2 (α := Nat × List Int × Int) (fun y => [(9, .int .i64 y.2.2), (26, .int .i64 (y.1 : Int))]) [(1, _), (3, _), (5, _), (24, _), (25, _)] (fun y => []) (fun y => []) [_, _] (fun y => []) [] (fun y => List.drop y.1 x1 = y.2.1 ∧ ref19_Spots_L4 (ref19_Spots_J3 x1 x0_1 x2_0) x0_0 y.2.1 y.2.2 = some r) (fun y => y.2.1.length) (0, x1, (-1)) ⟨rfl, r10⟩ ⟨rfl, rfl, rfl, rfl, rfl, rfl, rfl, trivial⟩ rfl rfl rfl (fun y hI hb372 => ?_)
      obtain ⟨i367, w368, v370⟩ := y
      obtain ⟨g369, r371⟩ := hI
      try dsimp only at g369 r371
      refine Cov.prune [(9, .int .i64 v370), (26, .int .i64 (i367 : Int)), (1, _), (3, _), (5, _), (24, _), (25, _)] ⟨rfl, rfl, rfl, rfl, rfl, rfl, rfl, trivial⟩ ?_
      refine Cov.same (bl' := [_, _]) (sl' := []) (Fs' := G :: Fs) rfl rfl rfl ?_
      cases w368 with
      | nil =>
        rw [ref19_Spots_L4] at r371; try dsimp only at r371
        refine Cov.seq ?_
        refine Cov.region rfl ?_
        refine Cov.q .ro (.lss rfl rfl) rfl ?_
        refine Cov.region_end ?_
        refine Cov.seq ?_
        refine Cov.cond_dec rfl (fun c => absurd c (drop_nil g369)) (fun _ => ?_)
        refine Cov.exit rfl ?_
        refine Cov.pull 1 rfl [_, _] rfl ?_
        refine Cov.prune _ ?_ (Cov.same rfl rfl rfl (hb345 (v370, x0_0) r371))
        exact ⟨rfl, rfl, rfl, rfl, trivial⟩
      | cons x379 xs380 =>
        have r378 : ref19_Spots_B4 (ref19_Spots_J3 x1 x0_1 x2_0) x0_0 (ref19_Spots_L4 (ref19_Spots_J3 x1 x0_1 x2_0) x0_0 xs380) x379 v370 = some r := r371; clear r371; unfold ref19_Spots_B4 at r378; try dsimp only at r378
        refine Cov.seq ?_
        refine Cov.region rfl ?_
        refine Cov.q .ro (.lss rfl rfl) rfl ?_
        refine Cov.region_end ?_
        refine Cov.seq ?_
        refine Cov.cond_dec rfl (fun _ => ?_) (fun c => absurd (drop_lt g369) c)
        refine Cov.skip ?_
        refine Cov.seq ?_
        refine Cov.block ?_
        refine Cov.seq ?_
        refine Cov.region rfl ?_
        obtain ⟨c381, p382, h383⟩ := SlR.get s1 (drop_idx g369)
        obtain rfl := h383
        refine Cov.q .ro (.idxR s1 rfl rfl (drop_idx g369) sl22 ty3.sz) rfl ?_
        refine Cov.q .ro (.load_rp p382 List.mem_cons_self rfl ty3 rfl) rfl ?_
        refine Cov.q .ro (.assign rfl) rfl ?_
        refine Cov.region_end ?_
        refine Cov.seq ?_
        refine Cov.seq ?_
        refine Cov.region rfl ?_
        refine Cov.q .ro (.move rfl) rfl ?_
        refine Cov.q .ro (.lss rfl rfl) rfl ?_
        refine Cov.q .ro (.move rfl) rfl ?_
        refine Cov.cutR 3 (β := Unit) (fun y => [(35, .bool (decide ((x379 < 0) ∨ (1024 ≤ x379))))]) [(9, _), (26, _), (1, _), (3, _), (5, _), (24, _), (25, _), (11, _)] (fun y => G :: Fs) (fun y => []) [_, _] (fun y => []) [] (fun y => True) ⟨rfl, rfl, rfl, rfl, rfl, rfl, rfl, rfl, trivial⟩ [0, 1] rfl [] rfl ?_ ?_
        · rintro _ _
          refine Cov.prune [(35, .bool (decide ((x379 < 0) ∨ (1024 ≤ x379)))), (9, _), (26, _), (1, _), (3, _), (5, _), (24, _), (25, _), (11, _)] ⟨rfl, rfl, rfl, rfl, rfl, rfl, rfl, rfl, rfl, trivial⟩ ?_
          refine Cov.same (bl' := [_, _]) (sl' := []) (Fs' := G :: Fs) rfl rfl rfl ?_
          refine Cov.region_end ?_
          refine Cov.cond_dec rfl (fun c388 => ?_) (fun c388 => ?_)
          · have r389 := ifT r378 c388; clear r378
            refine Cov.seq ?_
            refine Cov.region rfl ?_
            refine Cov.q .ro (.assign rfl) rfl ?_
            refine Cov.q .ro (.assign rfl) rfl ?_
            refine Cov.region_end ?_
            refine Cov.own_nil 3 1 ?_
            cases r389
            refine Cov.drop 2 0 [] _ rfl rfl ?_
            refine Cov.retS (c := ⟨34, none⟩) (.inr ⟨_, rfl⟩) [.tmp 6, .tmp 7] [_, _] rfl Try.func34 Try.results34 ⟨RV.tmp rfl, RV.tmp rfl, trivial⟩ (fun _ h => List.mem_cons_of_mem _ h) ⟨none, 0, [], rfl, rfl, rfl, (OL.nil (Rp' := (Rep.int .i64)))⟩
          · have r391 := ifF r378 c388; clear r378
            refine Cov.skip ?_
            refine Cov.region rfl ?_
            refine Cov.q .ro (.move rfl) rfl ?_
            refine Cov.q .ro (.move rfl) rfl ?_
            refine Cov.q .ro (.max2 rfl rfl) rfl ?_
            refine Cov.q .ro (.assign rfl) rfl ?_
            refine Cov.region_end ?_
            refine Cov.inBlock ?_
            refine Cov.region rfl ?_
            refine Cov.q .ro (.addw rfl rfl) rfl ?_
            refine Cov.q .ro (.move rfl) rfl ?_
            refine Cov.region_end ?_
            refine Cov.prune _ ?_ (Cov.same rfl rfl rfl (hb372 ((i367 + 1), xs380, (max v370 x379)) ⟨(drop_succ g369), r391⟩ (Nat.lt_succ_self _)))
            exact ⟨rfl, (congrArg (fun z => some (Value.int .i64 z)) (idx_wrap (SlR.len s1) g369)), rfl, rfl, rfl, rfl, rfl, trivial⟩
        · intro hb385
          refine Cov.split 32 rfl (fun c384 => ?_) (fun c384 => ?_)
          · refine Cov.g_off rfl rfl rfl ?_
            refine Cov.g_off rfl rfl rfl ?_
            refine Cov.q .ro (.pick_t rfl rfl) rfl ?_
            refine Cov.prune _ ?_ (Cov.same rfl rfl rfl (hb385 () trivial))
            exact ⟨dor_t c384, rfl, rfl, rfl, rfl, rfl, rfl, rfl, rfl, trivial⟩
          · refine Cov.g_on rfl ?_
            refine Cov.q .ro (.move rfl) rfl ?_
            refine Cov.g_on rfl ?_
            refine Cov.q .ro (.geq rfl rfl) rfl ?_
            refine Cov.q .ro (.pick_f rfl rfl) rfl ?_
            refine Cov.prune _ ?_ (Cov.same rfl rfl rfl (hb385 () trivial))
            exact ⟨dor_f c384, rfl, rfl, rfl, rfl, rfl, rfl, rfl, rfl, trivial⟩

end Go.Proofs.Ytbhmhindommaeaa
