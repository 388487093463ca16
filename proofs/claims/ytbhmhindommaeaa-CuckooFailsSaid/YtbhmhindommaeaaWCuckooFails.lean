/- The walks. Printed by wip/lift/drive.py. -/
import Derived.Test.YtbhmhindommaeaaW3
namespace Go.Proofs.Ytbhmhindommaeaa
open Go.RowKit
set_option linter.unusedSimpArgs false
set_option linter.unusedVariables false
set_option synthInstance.maxSize 2000
set_option synthInstance.maxHeartbeats 400000

set_option maxHeartbeats 4000000 in
set_option maxRecDepth 100000 in
theorem law19_CuckooFails_c {Fs : List Hp} {G : Hp} {a0 : Option Addr} {k0 : Nat} {x0 : List Int} {x1_0 : Int} {a1_1 : Option Addr} {k1_1 : Nat} {x1_1 : List (Int × Int)} {x2 : Int} {x3 : Int} {r : Bool} (hG : G ∈ Fs) (s0 : SlR (Rep.int .i64) G a0 k0 x0) (s1_1 : SlR (Rep.pair (Rep.int .i64) (Rep.int .i64)) G a1_1 k1_1 x1_1) (h : law19_CuckooFails x0 (x1_0, x1_1) x2 x3 = some r) : RetS Try.prog 3 #[.slice a0 x0.length k0, .agg #[.int .i64 x1_0, .slice a1_1 x1_1.length k1_1], .int .i64 x2, .int .i64 x3] Fs [] [] (fun v bo so => v = .bool r ∧ bo = [] ∧ so = []) := by
  unfold law19_CuckooFails at h
  try dsimp only at h
  refine RetS.of (vs := [_, _, _, _]) Try.func3 rfl Try.ntmps3 [(0, _), (1, _), (2, _), (3, _)] ⟨rfl, rfl, rfl, rfl, trivial⟩ rfl hG fun w0 S0 hS0 B0 => ?_
  refine Cov.seq ?_
  refine Cov.region rfl ?_
  refine Cov.box [_, _] .ro rfl rfl rfl (fun b1 hb1 => ?_)
  refine Cov.q .ro (.assign rfl) rfl ?_
  refine Cov.region_end ?_
  refine Cov.seq ?_
  refine Cov.seq ?_
  refine Cov.region rfl ?_
  obtain ⟨u2, hu2, r3⟩ := bind_some h; clear h
  refine Cov.callS (b1 := []) (b2 := [_]) (s1 := []) [] [] .ro rfl rfl Try.call9 rfl rfl (law19_sane_c (G := G) List.mem_cons_self  hu2) rfl (fun v5 bo so h4 => ?_)
  obtain ⟨rfl, rfl, rfl⟩ := h4
  refine Cov.same (bl' := [_]) (sl' := []) rfl rfl rfl ?_
  refine Cov.q .ro (.not rfl) rfl ?_
  refine Cov.region_end ?_
  refine Cov.cond rfl (fun c6 => ?_) (fun c6 => ?_)
  · have r7 := ifT r3 c6; clear r3
    refine Cov.seq ?_
    refine Cov.region rfl ?_
    refine Cov.q .ro (.assign rfl) rfl ?_
    refine Cov.region_end ?_
    cases r7
    refine Cov.drop 1 0 [] _ rfl rfl ?_
    refine Cov.retS (c := ⟨3, none⟩) (.inr ⟨_, rfl⟩) [.tmp 8] [_] rfl Try.func3 Try.results3 ⟨RV.tmp rfl, trivial⟩ (fun _ h => List.mem_cons_of_mem _ h) ⟨rfl, rfl, rfl⟩
  · have r8 := ifBF r3 c6; clear r3
    refine Cov.skip ?_
    refine Cov.seq ?_
    refine Cov.seq ?_
    refine Cov.region rfl ?_
    refine Cov.q .ro (.move rfl) rfl ?_
    obtain ⟨u9, hu9, r10⟩ := bind_some r8; clear r8
    refine Cov.callS (b1 := []) (b2 := [_]) (s1 := []) [_] [] .ro rfl rfl Try.call10 rfl rfl (make_Few_c (G := G) List.mem_cons_self s0 hu9) rfl (fun v12 bo so h11 => ?_)
    obtain ⟨rfl, rfl, rfl⟩ := h11
    refine Cov.same (bl' := [_]) (sl' := []) rfl rfl rfl ?_
    refine Cov.q .ro (.not rfl) rfl ?_
    refine Cov.q .ro (.move rfl) rfl ?_
    refine Cov.cutR 5 (β := Unit) (fun y => [(29, .bool (decide (((!u9) = true) ∨ (20 < (x1_1.length : Int)))))]) [(0, _), (2, _), (3, _), (5, _)] (fun y => G :: Fs) (fun y => []) [_] (fun y => []) [] (fun y => True) ⟨rfl, rfl, rfl, rfl, trivial⟩ [0] rfl [] rfl ?_ ?_
    · rintro _ _
      refine Cov.prune [(29, .bool (decide (((!u9) = true) ∨ (20 < (x1_1.length : Int))))), (0, _), (2, _), (3, _), (5, _)] ⟨rfl, rfl, rfl, rfl, rfl, trivial⟩ ?_
      refine Cov.same (bl' := [_]) (sl' := []) (Fs' := G :: Fs) rfl rfl rfl ?_
      refine Cov.region_end ?_
      refine Cov.cond_dec rfl (fun c17 => ?_) (fun c17 => ?_)
      · have r18 := ifT r10 c17; clear r10
        refine Cov.seq ?_
        refine Cov.region rfl ?_
        refine Cov.q .ro (.assign rfl) rfl ?_
        refine Cov.region_end ?_
        cases r18
        refine Cov.drop 1 0 [] _ rfl rfl ?_
        refine Cov.retS (c := ⟨3, none⟩) (.inr ⟨_, rfl⟩) [.tmp 8] [_] rfl Try.func3 Try.results3 ⟨RV.tmp rfl, trivial⟩ (fun _ h => List.mem_cons_of_mem _ h) ⟨rfl, rfl, rfl⟩
      · have r19 := ifF r10 c17; clear r10
        refine Cov.skip ?_
        refine Cov.seq ?_
        refine Cov.seq ?_
        refine Cov.drawL (.q 0 (.q 1 (.q 6 (.e 2 1 (.e 3 1 (.e 4 1 (.q 5 .nil))))))) [_] (by kernel_rfl) (by kernel_rfl) (pick_mem [0] rfl) ?_
        refine Cov.dq (.load_own_a 0 [_, _] rfl rfl ty25 rfl) rfl ?_
        refine Cov.dq (.move rfl) rfl ?_
        refine Cov.dq (.move rfl) rfl ?_
        obtain ⟨u20, hu20, r21⟩ := bind_some r19; clear r19
        refine Cov.callS (b1 := []) (b2 := [_]) (s1 := []) [_] [] .d1 rfl rfl Try.call12 rfl rfl (make_New_c (G := G) List.mem_cons_self s0 hu20) rfl (fun v23 bo so h22 => ?_)
        obtain ⟨a25, k26, b24, rfl, rfl, rfl, s27⟩ := h22
        refine Cov.same (bl' := [_, _]) (sl' := []) rfl rfl rfl ?_
        refine Cov.clsL (HpLe.refl _) (pick_mem [1] rfl) ?_
        obtain ⟨u28, hu28, r29⟩ := bind_some r21; clear r21
        refine Cov.callW (b1 := [_]) (b2 := [_]) (s1 := []) [_] [] .d1 rfl rfl Try.call11 rfl rfl (make_Hashing_c (G := G) List.mem_cons_self s27 hu28) rfl B0 (fun v31 bo so G32 e33 B34 h30 => ?_)
        obtain ⟨a36, k37, a39, k40, rfl, rfl, rfl, s38, s41⟩ := h30
        refine Cov.same (bl' := [_, _]) (sl' := []) rfl rfl rfl ?_
        refine Cov.clsL e33 (pick_mem [1] rfl) ?_
        refine Cov.lit [_, _, _, _] [(0, _), (1, _)] .d1 sl31 ty25 rfl rfl rfl rfl rfl rfl (fun b42 hb42 => ?_)
        have o43 : OL (Rep.pair (Rep.int .i64) (Rep.sl (Rep.pair (Rep.int .i64) (Rep.int .i64)))) G32 [.int .i64 x1_0, .slice a1_1 x1_1.length k1_1, .int .i64 u28.1.1, .slice a36 u28.1.2.length k37] ([(x1_0, x1_1), u28.1] : List (Int × (List (Int × Int)))) := ((OL.cons rfl (Rep.pairI (Rep.intI .i64 x1_0) (Rep.slI (SlR.mono e33 s1_1))) (OL.cons rfl (Rep.pairI (Rep.intI .i64 u28.1.1) (Rep.slI s38)) (OL.nil (Rp' := (Rep.pair (Rep.int .i64) (Rep.sl (Rep.pair (Rep.int .i64) (Rep.int .i64)))))))) :)
        refine Cov.reval 34 (n' := ([(x1_0, x1_1), u28.1] : List (Int × (List (Int × Int)))).length) rfl rfl ?_
        refine Cov.clsL e33 (pick_mem [1] rfl) ?_
        refine Cov.dq (.len_sl rfl rfl sl31) rfl ?_
        refine Cov.draw_end ?_
        refine Cov.block ?_
        refine Cov.pull 1 rfl [_, _] rfl ?_
        refine Cov.pull 1 rfl [_, _] rfl ?_
        refine Cov.loop2 (α := Nat × (List (Int × (List (Int × Int)))) × Int × Int) (fun y => [(36, .int .i64 (y.1 : Int))]) [(2, _), (3, _), (34, _), (35, _)] (fun y => []) (fun y => [(b24, .cells #[.slice a39 u28.2.1.length k40, .int .i64 y.2.2.1] 64 (0, 0)), (b1, .cells #[.int .i64 y.2.2.2, .slice a1_1 x1_1.length k1_1] 25 (0, 0))]) [] (fun y => []) [_] (fun y => List.drop y.1 ([(x1_0, x1_1), u28.1] : List (Int × (List (Int × Int)))) = y.2.1 ∧ law19_CuckooFails_L2 x2 x3 y.2.1 y.2.2.1 y.2.2.2 = some r) (fun y => y.2.1.length) (0, ([(x1_0, x1_1), u28.1] : List (Int × (List (Int × Int)))), u28.2.2, x1_0) ⟨rfl, r29⟩ ⟨rfl, rfl, rfl, rfl, rfl, trivial⟩ rfl rfl rfl (fun y hI hb194 => ?_)
        obtain ⟨i188, w189, v191, v192⟩ := y
        obtain ⟨g190, r193⟩ := hI
        try dsimp only at g190 r193
        refine Cov.prune [(36, .int .i64 (i188 : Int)), (2, _), (3, _), (34, _), (35, _)] ⟨rfl, rfl, rfl, rfl, rfl, trivial⟩ ?_
        refine Cov.same (bl' := [(b24, .cells #[.slice a39 u28.2.1.length k40, .int .i64 v191] 64 (0, 0)), (b1, .cells #[.int .i64 v192, .slice a1_1 x1_1.length k1_1] 25 (0, 0))]) (sl' := [_]) (Fs' := G32 :: Fs) rfl rfl rfl ?_
        cases w189 with
        | nil =>
          rw [law19_CuckooFails_L2] at r193; try dsimp only at r193
          refine Cov.seq ?_
          refine Cov.region rfl ?_
          refine Cov.q .ro (.lss rfl rfl) rfl ?_
          refine Cov.region_end ?_
          refine Cov.seq ?_
          refine Cov.cond_dec rfl (fun c => absurd c (drop_nil g190)) (fun _ => ?_)
          refine Cov.exit rfl ?_
          refine Cov.seq ?_
          refine Cov.region rfl ?_
          refine Cov.q .ro (.assign rfl) rfl ?_
          refine Cov.region_end ?_
          cases r193
          refine Cov.drop 2 0 [] _ rfl rfl ?_
          refine Cov.drop 0 1 _ [] rfl rfl ?_
          refine Cov.retS (c := ⟨3, none⟩) (.inr ⟨_, rfl⟩) [.tmp 8] [_] rfl Try.func3 Try.results3 ⟨RV.tmp rfl, trivial⟩ (fun _ h => List.mem_cons_of_mem _ h) ⟨rfl, rfl, rfl⟩
        | cons x202 xs203 =>
          have r201 : law19_CuckooFails_B2 x2 x3 (law19_CuckooFails_L2 x2 x3 xs203) x202 v191 v192 = some r := r193; clear r193; unfold law19_CuckooFails_B2 at r201; try dsimp only at r201
          refine Cov.seq ?_
          refine Cov.region rfl ?_
          refine Cov.q .ro (.lss rfl rfl) rfl ?_
          refine Cov.region_end ?_
          refine Cov.seq ?_
          refine Cov.cond_dec rfl (fun _ => ?_) (fun c => absurd (drop_lt g190) c)
          refine Cov.skip ?_
          refine Cov.seq ?_
          refine Cov.block ?_
          refine Cov.seq ?_
          refine Cov.region rfl ?_
          obtain ⟨c204, p205, h206⟩ := OL.get o43 (drop_idx g190)
          obtain ⟨_, _, rfl, rfl, a207, k208, rfl, s209⟩ := h206
          refine Cov.q .ro (.idxO 0 rfl rfl rfl (drop_idx g190) sl31 ty25.sz) rfl ?_
          refine Cov.q .ro (.loadO_a 0 0 [_, _] rfl (drop_idx g190) p205 rfl (.inl ⟨rfl, rfl⟩) ty25 rfl) rfl ?_
          refine Cov.alloc .ro ty25 rfl (fun b210 hb210 => ?_)
          refine Cov.store 0 [_, _] [_, _, _] .ro rfl rfl rfl ty25 rfl rfl rfl rfl ?_
          refine Cov.region_end ?_
          refine Cov.seq ?_
          refine Cov.region rfl ?_
          refine Cov.q .ro (.move rfl) rfl ?_
          refine Cov.q .ro (.move rfl) rfl ?_
          refine Cov.q .ro (.build_a [_, _] [(0, _), (1, _)] ty32 ar32 ty3.sz rfl rfl) rfl ?_
          refine Cov.q .ro (.move rfl) rfl ?_
          obtain ⟨u211, hu211, r212⟩ := bind_some r201; clear r201
          refine Cov.callS (b1 := []) (b2 := [_, _, _]) (s1 := []) [_, _] [] .ro rfl rfl Try.call13 rfl rfl (make_Mod_c (G := G32) List.mem_cons_self  hu211) rfl (fun v214 bo so h213 => ?_)
          obtain ⟨rfl, rfl, rfl⟩ := h213
          refine Cov.same (bl' := [_, _, _]) (sl' := [_]) rfl rfl rfl ?_
          refine Cov.q .ro (.move rfl) rfl ?_
          obtain ⟨u215, hu215, r216⟩ := bind_some r212; clear r212
          refine Cov.callS (b1 := []) (b2 := [_, _, _]) (s1 := []) [_, _] [] .ro rfl rfl Try.call13 rfl rfl (make_Mod_c (G := G32) List.mem_cons_self  hu215) rfl (fun v218 bo so h217 => ?_)
          obtain ⟨rfl, rfl, rfl⟩ := h217
          refine Cov.same (bl' := [_, _, _]) (sl' := [_]) rfl rfl rfl ?_
          refine Cov.q .ro (.build_a [_, _] [(0, _), (1, _)] ty32 ar32 ty3.sz rfl rfl) rfl ?_
          refine Cov.q .ro (.move rfl) rfl ?_
          obtain ⟨u219, hu219, r220⟩ := bind_some r216; clear r216
          refine Cov.callS (b1 := []) (b2 := [_, _, _]) (s1 := []) [_, _] [] .ro rfl rfl Try.call13 rfl rfl (make_Mod_c (G := G32) List.mem_cons_self  hu219) rfl (fun v222 bo so h221 => ?_)
          obtain ⟨rfl, rfl, rfl⟩ := h221
          refine Cov.same (bl' := [_, _, _]) (sl' := [_]) rfl rfl rfl ?_
          refine Cov.q .ro (.move rfl) rfl ?_
          obtain ⟨u223, hu223, r224⟩ := bind_some r220; clear r220
          refine Cov.callS (b1 := []) (b2 := [_, _, _]) (s1 := []) [_, _] [] .ro rfl rfl Try.call13 rfl rfl (make_Mod_c (G := G32) List.mem_cons_self  hu223) rfl (fun v226 bo so h225 => ?_)
          obtain ⟨rfl, rfl, rfl⟩ := h225
          refine Cov.same (bl' := [_, _, _]) (sl' := [_]) rfl rfl rfl ?_
          refine Cov.q .ro (.build_a [_, _] [(0, _), (1, _)] ty32 ar32 ty3.sz rfl rfl) rfl ?_
          refine Cov.lit [_, _, _, _, _, _] [(0, _), (1, _), (2, _)] .ro sl34 ty32 rfl rfl rfl rfl rfl rfl (fun b227 hb227 => ?_)
          have o228 : OL (Rep.pair (Rep.int .i64) (Rep.int .i64)) G32 [.int .i64 x2, .int .i64 x3, .int .i64 u211, .int .i64 u215, .int .i64 u219, .int .i64 u223] ([(x2, x3), (u211, u215), (u219, u223)] : List (Int × Int)) := ((OL.cons rfl (Rep.pairI (Rep.intI .i64 x2) (Rep.intI .i64 x3)) (OL.cons rfl (Rep.pairI (Rep.intI .i64 u211) (Rep.intI .i64 u215)) (OL.cons rfl (Rep.pairI (Rep.intI .i64 u219) (Rep.intI .i64 u223)) (OL.nil (Rp' := (Rep.pair (Rep.int .i64) (Rep.int .i64))))))) :)
          refine Cov.reval 53 (n' := ([(x2, x3), (u211, u215), (u219, u223)] : List (Int × Int)).length) rfl rfl ?_
          refine Cov.q .ro (.len_sl rfl rfl sl34) rfl ?_
          refine Cov.q .ro (.move rfl) rfl ?_
          refine Cov.region_end ?_
          refine Cov.prune [(36, _), (2, _), (3, _), (34, _), (35, _), (10, _), (53, _), (54, _), (55, _)] ⟨rfl, rfl, rfl, rfl, rfl, rfl, rfl, rfl, rfl, trivial⟩ ?_
          refine Cov.block ?_
          refine Cov.loop2 (α := Nat × (List (Int × Int))) (fun y => [(55, .int .i64 (y.1 : Int))]) [(36, _), (2, _), (3, _), (34, _), (35, _), (10, _), (53, _), (54, _)] (fun y => []) (fun y => []) [_, _, _] (fun y => []) [_, _] (fun y => List.drop y.1 ([(x2, x3), (u211, u215), (u219, u223)] : List (Int × Int)) = y.2 ∧ law19_CuckooFails_L1 (law19_CuckooFails_L2 x2 x3 xs203) x202.1 x202.2 v191 v192 y.2  = some r) (fun y => y.2.length) (0, ([(x2, x3), (u211, u215), (u219, u223)] : List (Int × Int))) ⟨rfl, r224⟩ ⟨rfl, rfl, rfl, rfl, rfl, rfl, rfl, rfl, rfl, trivial⟩ rfl rfl rfl (fun y hI hb283 => ?_)
          obtain ⟨i279, w280⟩ := y
          obtain ⟨g281, r282⟩ := hI
          try dsimp only at g281 r282
          refine Cov.prune [(55, .int .i64 (i279 : Int)), (36, _), (2, _), (3, _), (34, _), (35, _), (10, _), (53, _), (54, _)] ⟨rfl, rfl, rfl, rfl, rfl, rfl, rfl, rfl, rfl, trivial⟩ ?_
          refine Cov.same (bl' := [_, _, _]) (sl' := [_, _]) (Fs' := G32 :: Fs) rfl rfl rfl ?_
          cases w280 with
          | nil =>
            rw [law19_CuckooFails_L1] at r282; try dsimp only at r282
            refine Cov.seq ?_
            refine Cov.region rfl ?_
            refine Cov.q .ro (.lss rfl rfl) rfl ?_
            refine Cov.region_end ?_
            refine Cov.seq ?_
            refine Cov.cond_dec rfl (fun c => absurd c (drop_nil g281)) (fun _ => ?_)
            refine Cov.exit rfl ?_
            refine Cov.inBlock ?_
            refine Cov.region rfl ?_
            refine Cov.q .ro (.addw rfl rfl) rfl ?_
            refine Cov.q .ro (.move rfl) rfl ?_
            refine Cov.region_end ?_
            refine Cov.drop 1 0 [_, _] _ rfl rfl ?_
            refine Cov.drop 0 1 _ [_] rfl rfl ?_
            refine Cov.prune _ ?_ (Cov.same rfl rfl rfl (hb194 ((i188 + 1), xs203, v191, v192) ⟨(drop_succ g190), r282⟩ (Nat.lt_succ_self _)))
            exact ⟨(congrArg (fun z => some (Value.int .i64 z)) (idx_wrap (OL.len' o43) g190)), rfl, rfl, rfl, rfl, trivial⟩
          | cons x298 xs299 =>
            have r297 : law19_CuckooFails_B1 (law19_CuckooFails_L2 x2 x3 xs203) x202.1 x202.2 v191 v192 (law19_CuckooFails_L1 (law19_CuckooFails_L2 x2 x3 xs203) x202.1 x202.2 v191 v192 xs299) x298  = some r := r282; clear r282; unfold law19_CuckooFails_B1 at r297; try dsimp only at r297
            refine Cov.seq ?_
            refine Cov.region rfl ?_
            refine Cov.q .ro (.lss rfl rfl) rfl ?_
            refine Cov.region_end ?_
            refine Cov.seq ?_
            refine Cov.cond_dec rfl (fun _ => ?_) (fun c => absurd (drop_lt g281) c)
            refine Cov.skip ?_
            refine Cov.seq ?_
            refine Cov.block ?_
            refine Cov.seq ?_
            refine Cov.region rfl ?_
            obtain ⟨c300, p301, h302⟩ := OL.get o228 (drop_idx g281)
            obtain ⟨_, _, rfl, rfl, rfl⟩ := h302
            refine Cov.q .ro (.idxO 0 rfl rfl rfl (drop_idx g281) sl34 ty32.sz) rfl ?_
            refine Cov.q .ro (.loadO_a 0 0 [_, _] rfl (drop_idx g281) p301 rfl (.inl ⟨rfl, rfl⟩) ty32 rfl) rfl ?_
            refine Cov.alloc .ro ty32 rfl (fun b303 hb303 => ?_)
            refine Cov.store 0 [_, _] [_, _, _, _] .ro rfl rfl rfl ty32 rfl rfl rfl rfl ?_
            refine Cov.region_end ?_
            refine Cov.seq ?_
            refine Cov.seq ?_
            refine Cov.region rfl ?_
            refine Cov.q .ro (.indexAddr_ar 0 rfl rfl ar32 ty3.sz (by decide) (by decide) rfl) rfl ?_
            refine Cov.q .ro (.load_own 0 rfl rfl ty3 rfl) rfl ?_
            refine Cov.q .ro (.gtr rfl rfl) rfl ?_
            refine Cov.q .ro (.move rfl) rfl ?_
            refine Cov.cutR 4 (β := Unit) (fun y => [(66, .bool (decide ((200 < x298.1) ∧ (1 < x298.2))))]) [(55, _), (36, _), (2, _), (3, _), (34, _), (35, _), (10, _), (53, _), (54, _), (12, _)] (fun y => G32 :: Fs) (fun y => []) [_, _, _, _] (fun y => []) [_, _] (fun y => True) ⟨rfl, rfl, rfl, rfl, rfl, rfl, rfl, rfl, rfl, rfl, trivial⟩ [0, 1, 2, 3] rfl [0, 1] rfl ?_ ?_
            · rintro _ _
              refine Cov.prune [(66, .bool (decide ((200 < x298.1) ∧ (1 < x298.2)))), (55, _), (36, _), (2, _), (3, _), (34, _), (35, _), (10, _), (53, _), (54, _), (12, _)] ⟨rfl, rfl, rfl, rfl, rfl, rfl, rfl, rfl, rfl, rfl, rfl, trivial⟩ ?_
              refine Cov.same (bl' := [_, _, _, _]) (sl' := [_, _]) (Fs' := G32 :: Fs) rfl rfl rfl ?_
              refine Cov.q .ro (.move rfl) rfl ?_
              refine Cov.cutR 7 (β := Unit) (fun y => [(74, .bool (decide (((200 < x298.1) ∧ (1 < x298.2)) ∧ (1 < (w64 (x298.1 - x298.2))))))]) [(55, _), (36, _), (2, _), (3, _), (34, _), (35, _), (10, _), (53, _), (54, _), (12, _)] (fun y => G32 :: Fs) (fun y => []) [_, _, _, _] (fun y => []) [_, _] (fun y => True) ⟨rfl, rfl, rfl, rfl, rfl, rfl, rfl, rfl, rfl, rfl, trivial⟩ [0, 1, 2, 3] rfl [0, 1] rfl ?_ ?_
              · rintro _ _
                refine Cov.prune [(74, .bool (decide (((200 < x298.1) ∧ (1 < x298.2)) ∧ (1 < (w64 (x298.1 - x298.2)))))), (55, _), (36, _), (2, _), (3, _), (34, _), (35, _), (10, _), (53, _), (54, _), (12, _)] ⟨rfl, rfl, rfl, rfl, rfl, rfl, rfl, rfl, rfl, rfl, rfl, trivial⟩ ?_
                refine Cov.same (bl' := [_, _, _, _]) (sl' := [_, _]) (Fs' := G32 :: Fs) rfl rfl rfl ?_
                refine Cov.q .ro (.move rfl) rfl ?_
                refine Cov.cutR 4 (β := Unit) (fun y => [(79, .bool (decide ((((200 < x298.1) ∧ (1 < x298.2)) ∧ (1 < (w64 (x298.1 - x298.2)))) ∧ (x298.1 ≤ 1024))))]) [(55, _), (36, _), (2, _), (3, _), (34, _), (35, _), (10, _), (53, _), (54, _), (12, _)] (fun y => G32 :: Fs) (fun y => []) [_, _, _, _] (fun y => []) [_, _] (fun y => True) ⟨rfl, rfl, rfl, rfl, rfl, rfl, rfl, rfl, rfl, rfl, trivial⟩ [0, 1, 2, 3] rfl [0, 1] rfl ?_ ?_
                · rintro _ _
                  refine Cov.prune [(79, .bool (decide ((((200 < x298.1) ∧ (1 < x298.2)) ∧ (1 < (w64 (x298.1 - x298.2)))) ∧ (x298.1 ≤ 1024)))), (55, _), (36, _), (2, _), (3, _), (34, _), (35, _), (10, _), (53, _), (54, _), (12, _)] ⟨rfl, rfl, rfl, rfl, rfl, rfl, rfl, rfl, rfl, rfl, rfl, trivial⟩ ?_
                  refine Cov.same (bl' := [_, _, _, _]) (sl' := [_, _]) (Fs' := G32 :: Fs) rfl rfl rfl ?_
                  refine Cov.region_end ?_
                  refine Cov.cond_dec rfl (fun c316 => ?_) (fun c316 => ?_)
                  · have r317 := ifT r297 c316; clear r297
                    refine Cov.exit rfl ?_
                    refine Cov.region rfl ?_
                    refine Cov.q .ro (.addw rfl rfl) rfl ?_
                    refine Cov.q .ro (.move rfl) rfl ?_
                    refine Cov.region_end ?_
                    refine Cov.drop 1 0 [_, _, _] _ rfl rfl ?_
                    refine Cov.prune _ ?_ (Cov.same rfl rfl rfl (hb283 ((i279 + 1), xs299) ⟨(drop_succ g281), r317⟩ (Nat.lt_succ_self _)))
                    exact ⟨(congrArg (fun z => some (Value.int .i64 z)) (idx_wrap (OL.len' o228) g281)), rfl, rfl, rfl, rfl, rfl, rfl, rfl, rfl, trivial⟩
                  · have r318 := ifF r297 c316; clear r297
                    refine Cov.skip ?_
                    refine Cov.seq ?_
                    refine Cov.region rfl ?_
                    refine Cov.q .ro (.load_own_a 1 [_, _] rfl rfl ty25 rfl) rfl ?_
                    refine Cov.q .ro (.indexAddr_ar 0 rfl rfl ar32 ty3.sz (by decide) (by decide) rfl) rfl ?_
                    refine Cov.q .ro (.load_own 0 rfl rfl ty3 rfl) rfl ?_
                    refine Cov.q .ro (.indexAddr_ar 1 rfl rfl ar32 ty3.sz (by decide) (by decide) rfl) rfl ?_
                    refine Cov.q .ro (.load_own 0 rfl rfl ty3 rfl) rfl ?_
                    obtain ⟨u319, hu319, r320⟩ := bind_some r318; clear r318
                    refine Cov.callS (b1 := []) (b2 := [_, _, _, _]) (s1 := []) [_, _, _] [] .ro rfl rfl Try.call14 rfl rfl (cuckoo_Failures_c (G := G32) List.mem_cons_self s209 hu319) rfl (fun v322 bo so h321 => ?_)
                    obtain ⟨rfl, rfl, rfl⟩ := h321
                    refine Cov.same (bl' := [_, _, _, _]) (sl' := [_, _]) rfl rfl rfl ?_
                    refine Cov.q .ro (.move rfl) rfl ?_
                    refine Cov.q .ro (.extract rfl rfl) rfl ?_
                    refine Cov.q .ro (.extract rfl rfl) rfl ?_
                    refine Cov.q .ro (.extract rfl rfl) rfl ?_
                    refine Cov.q .ro (.assign rfl) rfl ?_
                    refine Cov.q .ro (.assign rfl) rfl ?_
                    refine Cov.q .ro (.assign rfl) rfl ?_
                    refine Cov.region_end ?_
                    refine Cov.seq ?_
                    refine Cov.region rfl ?_
                    refine Cov.q .ro (.load_own_a 1 [_, _] rfl rfl ty25 rfl) rfl ?_
                    refine Cov.q .ro (.indexAddr_ar 0 rfl rfl ar32 ty3.sz (by decide) (by decide) rfl) rfl ?_
                    refine Cov.q .ro (.load_own 0 rfl rfl ty3 rfl) rfl ?_
                    refine Cov.q .ro (.indexAddr_ar 1 rfl rfl ar32 ty3.sz (by decide) (by decide) rfl) rfl ?_
                    refine Cov.q .ro (.load_own 0 rfl rfl ty3 rfl) rfl ?_
                    obtain ⟨u323, hu323, r324⟩ := bind_some r320; clear r320
                    refine Cov.callS (b1 := []) (b2 := [_, _, _, _]) (s1 := []) [_, _, _] [] .ro rfl rfl Try.call15 rfl rfl (ref19_Failures_c (G := G32) List.mem_cons_self s209 hu323) rfl (fun v326 bo so h325 => ?_)
                    obtain ⟨rfl, rfl, rfl⟩ := h325
                    refine Cov.same (bl' := [_, _, _, _]) (sl' := [_, _]) rfl rfl rfl ?_
                    refine Cov.q .ro (.move rfl) rfl ?_
                    refine Cov.q .ro (.extract rfl rfl) rfl ?_
                    refine Cov.q .ro (.extract rfl rfl) rfl ?_
                    refine Cov.q .ro (.extract rfl rfl) rfl ?_
                    refine Cov.q .ro (.assign rfl) rfl ?_
                    refine Cov.q .ro (.assign rfl) rfl ?_
                    refine Cov.q .ro (.assign rfl) rfl ?_
                    refine Cov.region_end ?_
                    refine Cov.prune [(55, _), (36, _), (2, _), (3, _), (34, _), (35, _), (10, _), (53, _), (54, _), (13, _), (14, _), (15, _), (16, _), (17, _), (18, _)] ⟨rfl, rfl, rfl, rfl, rfl, rfl, rfl, rfl, rfl, rfl, rfl, rfl, rfl, rfl, rfl, trivial⟩ ?_
                    refine Cov.seq ?_
                    refine Cov.region rfl ?_
                    refine Cov.q .ro (.move rfl) rfl ?_
                    refine Cov.q .ro (.move rfl) rfl ?_
                    refine Cov.q .ro (.neq rfl rfl) rfl ?_
                    refine Cov.q .ro (.move rfl) rfl ?_
                    refine Cov.cutR 4 (β := Unit) (fun y => [(107, .bool (decide ((u319.1 ≠ u323.1) ∨ (u319.2.1 ≠ u323.2.1))))]) [(55, _), (36, _), (2, _), (3, _), (34, _), (35, _), (10, _), (53, _), (54, _), (15, _), (18, _)] (fun y => G32 :: Fs) (fun y => []) [_, _, _, _] (fun y => []) [_, _] (fun y => True) ⟨rfl, rfl, rfl, rfl, rfl, rfl, rfl, rfl, rfl, rfl, rfl, trivial⟩ [0, 1, 2, 3] rfl [0, 1] rfl ?_ ?_
                    · rintro _ _
                      refine Cov.prune [(107, .bool (decide ((u319.1 ≠ u323.1) ∨ (u319.2.1 ≠ u323.2.1)))), (55, _), (36, _), (2, _), (3, _), (34, _), (35, _), (10, _), (53, _), (54, _), (15, _), (18, _)] ⟨rfl, rfl, rfl, rfl, rfl, rfl, rfl, rfl, rfl, rfl, rfl, rfl, trivial⟩ ?_
                      refine Cov.same (bl' := [_, _, _, _]) (sl' := [_, _]) (Fs' := G32 :: Fs) rfl rfl rfl ?_
                      refine Cov.q .ro (.move rfl) rfl ?_
                      refine Cov.cutR 4 (β := Unit) (fun y => [(112, .bool (decide (((u319.1 ≠ u323.1) ∨ (u319.2.1 ≠ u323.2.1)) ∨ (u319.2.2 ≠ u323.2.2))))]) [(55, _), (36, _), (2, _), (3, _), (34, _), (35, _), (10, _), (53, _), (54, _)] (fun y => G32 :: Fs) (fun y => []) [_, _, _, _] (fun y => []) [_, _] (fun y => True) ⟨rfl, rfl, rfl, rfl, rfl, rfl, rfl, rfl, rfl, trivial⟩ [0, 1, 2, 3] rfl [0, 1] rfl ?_ ?_
                      · rintro _ _
                        refine Cov.prune [(112, .bool (decide (((u319.1 ≠ u323.1) ∨ (u319.2.1 ≠ u323.2.1)) ∨ (u319.2.2 ≠ u323.2.2)))), (55, _), (36, _), (2, _), (3, _), (34, _), (35, _), (10, _), (53, _), (54, _)] ⟨rfl, rfl, rfl, rfl, rfl, rfl, rfl, rfl, rfl, rfl, trivial⟩ ?_
                        refine Cov.same (bl' := [_, _, _, _]) (sl' := [_, _]) (Fs' := G32 :: Fs) rfl rfl rfl ?_
                        refine Cov.region_end ?_
                        refine Cov.cond_dec rfl (fun c335 => ?_) (fun c335 => ?_)
                        · have r336 := ifT r324 c335; clear r324
                          refine Cov.seq ?_
                          refine Cov.region rfl ?_
                          refine Cov.q .ro (.assign rfl) rfl ?_
                          refine Cov.region_end ?_
                          cases r336
                          refine Cov.drop 4 0 [] _ rfl rfl ?_
                          refine Cov.drop 0 2 _ [] rfl rfl ?_
                          refine Cov.retS (c := ⟨3, none⟩) (.inr ⟨_, rfl⟩) [.tmp 8] [_] rfl Try.func3 Try.results3 ⟨RV.tmp rfl, trivial⟩ (fun _ h => List.mem_cons_of_mem _ h) ⟨rfl, rfl, rfl⟩
                        · have r337 := ifF r324 c335; clear r324
                          refine Cov.skip ?_
                          refine Cov.inBlock ?_
                          refine Cov.region rfl ?_
                          refine Cov.q .ro (.addw rfl rfl) rfl ?_
                          refine Cov.q .ro (.move rfl) rfl ?_
                          refine Cov.region_end ?_
                          refine Cov.drop 1 0 [_, _, _] _ rfl rfl ?_
                          refine Cov.prune _ ?_ (Cov.same rfl rfl rfl (hb283 ((i279 + 1), xs299) ⟨(drop_succ g281), r337⟩ (Nat.lt_succ_self _)))
                          exact ⟨(congrArg (fun z => some (Value.int .i64 z)) (idx_wrap (OL.len' o228) g281)), rfl, rfl, rfl, rfl, rfl, rfl, rfl, rfl, trivial⟩
                      · intro hb332
                        refine Cov.split 108 rfl (fun c331 => ?_) (fun c331 => ?_)
                        · refine Cov.g_off rfl rfl rfl ?_
                          refine Cov.g_off rfl rfl rfl ?_
                          refine Cov.g_off rfl rfl rfl ?_
                          refine Cov.q .ro (.pick_t rfl rfl) rfl ?_
                          refine Cov.prune _ ?_ (Cov.same rfl rfl rfl (hb332 () trivial))
                          exact ⟨dor_t c331, rfl, rfl, rfl, rfl, rfl, rfl, rfl, rfl, rfl, trivial⟩
                        · refine Cov.g_on rfl ?_
                          refine Cov.q .ro (.move rfl) rfl ?_
                          refine Cov.g_on rfl ?_
                          refine Cov.q .ro (.move rfl) rfl ?_
                          refine Cov.g_on rfl ?_
                          refine Cov.q .ro (.neq rfl rfl) rfl ?_
                          refine Cov.q .ro (.pick_f rfl rfl) rfl ?_
                          refine Cov.prune _ ?_ (Cov.same rfl rfl rfl (hb332 () trivial))
                          exact ⟨dor_f c331, rfl, rfl, rfl, rfl, rfl, rfl, rfl, rfl, rfl, trivial⟩
                    · intro hb328
                      refine Cov.split 103 rfl (fun c327 => ?_) (fun c327 => ?_)
                      · refine Cov.g_off rfl rfl rfl ?_
                        refine Cov.g_off rfl rfl rfl ?_
                        refine Cov.g_off rfl rfl rfl ?_
                        refine Cov.q .ro (.pick_t rfl rfl) rfl ?_
                        refine Cov.prune _ ?_ (Cov.same rfl rfl rfl (hb328 () trivial))
                        exact ⟨dor_t c327, rfl, rfl, rfl, rfl, rfl, rfl, rfl, rfl, rfl, rfl, rfl, trivial⟩
                      · refine Cov.g_on rfl ?_
                        refine Cov.q .ro (.move rfl) rfl ?_
                        refine Cov.g_on rfl ?_
                        refine Cov.q .ro (.move rfl) rfl ?_
                        refine Cov.g_on rfl ?_
                        refine Cov.q .ro (.neq rfl rfl) rfl ?_
                        refine Cov.q .ro (.pick_f rfl rfl) rfl ?_
                        refine Cov.prune _ ?_ (Cov.same rfl rfl rfl (hb328 () trivial))
                        exact ⟨dor_f c327, rfl, rfl, rfl, rfl, rfl, rfl, rfl, rfl, rfl, rfl, rfl, trivial⟩
                · intro hb313
                  refine Cov.split 75 rfl (fun c312 => ?_) (fun c312 => ?_)
                  · refine Cov.g_on rfl ?_
                    refine Cov.q .ro (.indexAddr_ar 0 rfl rfl ar32 ty3.sz (by decide) (by decide) rfl) rfl ?_
                    refine Cov.g_on rfl ?_
                    refine Cov.q .ro (.load_own 0 rfl rfl ty3 rfl) rfl ?_
                    refine Cov.g_on rfl ?_
                    refine Cov.q .ro (.leq rfl rfl) rfl ?_
                    refine Cov.q .ro (.pick_t rfl rfl) rfl ?_
                    refine Cov.prune _ ?_ (Cov.same rfl rfl rfl (hb313 () trivial))
                    exact ⟨dand_t c312, rfl, rfl, rfl, rfl, rfl, rfl, rfl, rfl, rfl, rfl, trivial⟩
                  · refine Cov.g_off rfl rfl rfl ?_
                    refine Cov.g_off rfl rfl rfl ?_
                    refine Cov.g_off rfl rfl rfl ?_
                    refine Cov.q .ro (.pick_f rfl rfl) rfl ?_
                    refine Cov.prune _ ?_ (Cov.same rfl rfl rfl (hb313 () trivial))
                    exact ⟨dand_f c312, rfl, rfl, rfl, rfl, rfl, rfl, rfl, rfl, rfl, rfl, trivial⟩
              · intro hb309
                refine Cov.split 67 rfl (fun c308 => ?_) (fun c308 => ?_)
                · refine Cov.g_on rfl ?_
                  refine Cov.q .ro (.indexAddr_ar 0 rfl rfl ar32 ty3.sz (by decide) (by decide) rfl) rfl ?_
                  refine Cov.g_on rfl ?_
                  refine Cov.q .ro (.load_own 0 rfl rfl ty3 rfl) rfl ?_
                  refine Cov.g_on rfl ?_
                  refine Cov.q .ro (.indexAddr_ar 1 rfl rfl ar32 ty3.sz (by decide) (by decide) rfl) rfl ?_
                  refine Cov.g_on rfl ?_
                  refine Cov.q .ro (.load_own 0 rfl rfl ty3 rfl) rfl ?_
                  refine Cov.g_on rfl ?_
                  refine Cov.q .ro (.subw rfl rfl) rfl ?_
                  refine Cov.g_on rfl ?_
                  refine Cov.q .ro (.gtr rfl rfl) rfl ?_
                  refine Cov.q .ro (.pick_t rfl rfl) rfl ?_
                  refine Cov.prune _ ?_ (Cov.same rfl rfl rfl (hb309 () trivial))
                  exact ⟨dand_t c308, rfl, rfl, rfl, rfl, rfl, rfl, rfl, rfl, rfl, rfl, trivial⟩
                · refine Cov.g_off rfl rfl rfl ?_
                  refine Cov.g_off rfl rfl rfl ?_
                  refine Cov.g_off rfl rfl rfl ?_
                  refine Cov.g_off rfl rfl rfl ?_
                  refine Cov.g_off rfl rfl rfl ?_
                  refine Cov.g_off rfl rfl rfl ?_
                  refine Cov.q .ro (.pick_f rfl rfl) rfl ?_
                  refine Cov.prune _ ?_ (Cov.same rfl rfl rfl (hb309 () trivial))
                  exact ⟨dand_f c308, rfl, rfl, rfl, rfl, rfl, rfl, rfl, rfl, rfl, rfl, trivial⟩
            · intro hb305
              refine Cov.split 62 rfl (fun c304 => ?_) (fun c304 => ?_)
              · refine Cov.g_on rfl ?_
                refine Cov.q .ro (.indexAddr_ar 1 rfl rfl ar32 ty3.sz (by decide) (by decide) rfl) rfl ?_
                refine Cov.g_on rfl ?_
                refine Cov.q .ro (.load_own 0 rfl rfl ty3 rfl) rfl ?_
                refine Cov.g_on rfl ?_
                refine Cov.q .ro (.gtr rfl rfl) rfl ?_
                refine Cov.q .ro (.pick_t rfl rfl) rfl ?_
                refine Cov.prune _ ?_ (Cov.same rfl rfl rfl (hb305 () trivial))
                exact ⟨dand_t c304, rfl, rfl, rfl, rfl, rfl, rfl, rfl, rfl, rfl, rfl, trivial⟩
              · refine Cov.g_off rfl rfl rfl ?_
                refine Cov.g_off rfl rfl rfl ?_
                refine Cov.g_off rfl rfl rfl ?_
                refine Cov.q .ro (.pick_f rfl rfl) rfl ?_
                refine Cov.prune _ ?_ (Cov.same rfl rfl rfl (hb305 () trivial))
                exact ⟨dand_f c304, rfl, rfl, rfl, rfl, rfl, rfl, rfl, rfl, rfl, rfl, trivial⟩
    · intro hb14
      refine Cov.split_b 24 rfl (fun c13 => ?_) (fun c13 => ?_)
      · refine Cov.g_off rfl rfl rfl ?_
        refine Cov.g_off rfl rfl rfl ?_
        refine Cov.g_off rfl rfl rfl ?_
        refine Cov.g_off rfl rfl rfl ?_
        refine Cov.q .ro (.pick_t rfl rfl) rfl ?_
        refine Cov.prune _ ?_ (Cov.same rfl rfl rfl (hb14 () trivial))
        exact ⟨dor_t c13, rfl, rfl, rfl, rfl, trivial⟩
      · refine Cov.g_on rfl ?_
        refine Cov.q .ro (.fieldAddr 1 rfl fl25_1 ty23.sz rfl) rfl ?_
        refine Cov.g_on rfl ?_
        refine Cov.q .ro (.load_own 0 rfl rfl ty23 rfl) rfl ?_
        refine Cov.g_on rfl ?_
        refine Cov.q .ro (.len_sl rfl rfl sl23) rfl ?_
        refine Cov.g_on rfl ?_
        refine Cov.q .ro (.gtr rfl rfl) rfl ?_
        refine Cov.q .ro (.pick_f rfl rfl) rfl ?_
        refine Cov.prune _ ?_ (Cov.same rfl rfl rfl (hb14 () trivial))
        exact ⟨dor_f (bne_of c13), rfl, rfl, rfl, rfl, trivial⟩

end Go.Proofs.Ytbhmhindommaeaa
