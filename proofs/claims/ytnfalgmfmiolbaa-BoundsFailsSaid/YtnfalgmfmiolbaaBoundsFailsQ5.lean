/- What the proof needs, gathered by wip/gen/shake.py. -/
import Derived.Calls
import Derived.Deep.Quiet
import Derived.Below
import Derived.Laws.AppendOwn
import Derived.WalkKit
import Derived.Laws.OwnMore
import Derived.Deep.Slices
import Derived.ChangeOld
import Derived.ArgAppend
import Derived.RangeFuncIn
import Derived.RangeFuncRecord
import Derived.RangeFuncLeaves
import Derived.Laws.MakeOwn
import Derived.IntWalk
import Derived.Laws.IdiomStrings
import Derived.Laws.Cover3
import Derived.Laws.CopyOwn
import Derived.MapKept
import Derived.RangeFuncNested
import Derived.Test.YtnfalgmfmiolbaaRows
import Derived.ProofKit
import Derived.OpenShut
import Derived.ShutString
import Derived.Test.YtnfalgmfmiolbaaBoundsFailsQ4

section
namespace Go.Proofs.Ytnfalgmfmiolbaa
open Go.RowKit
set_option linter.unusedSimpArgs false
set_option linter.unusedVariables false
set_option synthInstance.maxSize 2000
set_option synthInstance.maxHeartbeats 400000
set_option maxHeartbeats 4000000 in
set_option maxRecDepth 100000 in
theorem ref19_Assign_c {Fs : List Hp} {G : Hp} {x0_0 : Int} {a0_1 : Option Addr} {k0_1 : Nat} {x0_1 : List (Int × Int)} {a1 : Option Addr} {k1 : Nat} {x1 : List Int} {r : ((List Int) × Int)} (hG : G ∈ Fs) (s0_1 : SlR (Rep.pair (Rep.int .i64) (Rep.int .i64)) G a0_1 k0_1 x0_1) (s1 : SlR (Rep.int .i64) G a1 k1 x1) (h : ref19_Assign (x0_0, x0_1) x1 = some r) : RetW Try.prog 11 #[.agg #[.int .i64 x0_0, .slice a0_1 x0_1.length k0_1], .slice a1 x1.length k1] Fs [] [] (fun v bo so G => ∃ a0 : Option Addr, ∃ k0 : Nat, v = .tuple #[.agg #[.slice a0 r.1.length k0], .int .i64 r.2] ∧ bo = [] ∧ so = [] ∧ SlR (Rep.int .i64) G a0 k0 r.1) := by
  unfold ref19_Assign at h
  try dsimp only at h
  refine RetW.of (vs := [_, _]) Try.func11 rfl Try.ntmps11 [(0, _), (1, _)] ⟨rfl, rfl, trivial⟩ rfl hG fun w0 S0 hS0 B0 => ?_
  refine Cov.seq ?_
  refine Cov.region rfl ?_
  refine Cov.box [_, _] .ro rfl rfl rfl (fun b1 hb1 => ?_)
  refine Cov.alloc .ro ty41 rfl (fun b2 hb2 => ?_)
  refine Cov.q .ro (.assign rfl) rfl ?_
  refine Cov.region_end ?_
  refine Cov.seq ?_
  refine Cov.region rfl ?_
  refine Cov.q .ro (.load_own_a 1 [_, _] rfl rfl ty28 rfl) rfl ?_
  refine Cov.q .ro (.move rfl) rfl ?_
  obtain ⟨u3, hu3, r4⟩ := bind_some h; clear h
  refine Cov.callW (b1 := []) (b2 := [_, _]) (s1 := []) [_, _] [] .ro rfl rfl Try.call24 rfl rfl (ref19_all_c (G := G) List.mem_cons_self s0_1 s1 hu3) rfl B0 (fun v6 bo so G7 e8 B9 h5 => ?_)
  obtain ⟨a12, k13, cs14, rfl, rfl, rfl, o15⟩ := h5
  refine Cov.same (bl' := [_, _]) (sl' := [_]) rfl rfl rfl ?_
  refine Cov.q .ro (.move rfl) rfl ?_
  refine Cov.q .ro (.extract rfl rfl) rfl ?_
  refine Cov.q .ro (.extract rfl rfl) rfl ?_
  refine Cov.q .ro (.assign rfl) rfl ?_
  refine Cov.q .ro (.assign rfl) rfl ?_
  refine Cov.region_end ?_
  refine Cov.seq ?_
  refine Cov.seq ?_
  refine Cov.region rfl ?_
  refine Cov.q .ro (.move rfl) rfl ?_
  refine Cov.q .ro (.neq rfl rfl) rfl ?_
  refine Cov.region_end ?_
  refine Cov.cond_dec rfl (fun c16 => ?_) (fun c16 => ?_)
  · have r17 := ifT r4 c16; clear r4
    refine Cov.seq ?_
    refine Cov.region rfl ?_
    refine Cov.q .ro (.build [_] [] ty41 pl41 rfl rfl) rfl ?_
    refine Cov.q .ro (.move rfl) rfl ?_
    refine Cov.store 0 [_] [_, _] .ro rfl rfl rfl ty41 rfl rfl rfl rfl ?_
    refine Cov.q .ro (.assign rfl) rfl ?_
    refine Cov.region_end ?_
    refine Cov.prune [(4, _), (5, _)] ⟨rfl, rfl, trivial⟩ ?_
    cases r17
    refine Cov.drop 0 1 _ [] rfl rfl ?_
    refine Cov.retWD 2 (c := ⟨11, none⟩) (.inr ⟨_, rfl⟩) [.cell 4 41, .tmp 5] [_, _] rfl Try.func11 Try.results11 ⟨RV.cell_a 0 [_] rfl rfl ty41 rfl, RV.tmp rfl, trivial⟩ (fun _ h => List.mem_cons_of_mem _ h) List.mem_cons_self B9 (by subst hS0; simp [blks]) (fun G' hg => ⟨none, 0, rfl, rfl, rfl, (SlR.mono hg (SlR.nil (Rp' := (Rep.int .i64))))⟩)
  · have r18 := ifF r4 c16; clear r4
    refine Cov.skip ?_
    refine Cov.seq ?_
    refine Cov.seq ?_
    refine Cov.region rfl ?_
    refine Cov.q .ro (.move rfl) rfl ?_
    refine Cov.q .ro (.len_sl rfl rfl sl35) rfl ?_
    refine Cov.q .ro (.fieldAddr 0 rfl fl28_0 ty3.sz rfl) rfl ?_
    refine Cov.q .ro (.load_own 1 rfl rfl ty3 rfl) rfl ?_
    refine Cov.q .ro (.gtr rfl rfl) rfl ?_
    refine Cov.region_end ?_
    refine Cov.prune [(2, _), (4, _), (6, _), (28, _)] ⟨rfl, rfl, rfl, rfl, trivial⟩ ?_
    refine Cov.cond_dec rfl (fun c19 => ?_) (fun c19 => ?_)
    · have r20 := ifT r18 c19; clear r18
      refine Cov.seq ?_
      refine Cov.region rfl ?_
      refine Cov.q .ro (.build [_] [] ty41 pl41 rfl rfl) rfl ?_
      refine Cov.store 0 [_] [_, _] .ro rfl rfl rfl ty41 rfl rfl rfl rfl ?_
      refine Cov.q .ro (.assign rfl) rfl ?_
      refine Cov.region_end ?_
      cases r20
      refine Cov.drop 0 1 _ [] rfl rfl ?_
      refine Cov.retWD 2 (c := ⟨11, none⟩) (.inr ⟨_, rfl⟩) [.cell 4 41, .tmp 5] [_, _] rfl Try.func11 Try.results11 ⟨RV.cell_a 0 [_] rfl rfl ty41 rfl, RV.tmp rfl, trivial⟩ (fun _ h => List.mem_cons_of_mem _ h) List.mem_cons_self B9 (by subst hS0; simp [blks]) (fun G' hg => ⟨none, 0, rfl, rfl, rfl, (SlR.mono hg (SlR.nil (Rp' := (Rep.int .i64))))⟩)
    · have r21 := ifF r18 c19; clear r18
      refine Cov.skip ?_
      refine Cov.seq ?_
      refine Cov.region rfl ?_
      refine Cov.q .ro (.move rfl) rfl ?_
      refine Cov.q .ro (.fieldAddr 0 rfl fl28_0 ty3.sz rfl) rfl ?_
      refine Cov.q .ro (.load_own 1 rfl rfl ty3 rfl) rfl ?_
      refine Cov.freezeR 0 rfl rfl o15 [] rfl B9 (fun G22 e23 B24 s25 => ?_)
      obtain ⟨u27, hu27, r28⟩ := bind_some r21; clear r21
      refine Cov.callS (b1 := []) (b2 := [_, _]) (s1 := []) [_, _, _] [] .ro rfl rfl Try.call25 rfl rfl (ref19_First_c (G := G22) List.mem_cons_self s25 hu27) rfl (fun v30 bo so h29 => ?_)
      obtain ⟨a32, k33, cs34, rfl, rfl, rfl, o35⟩ := h29
      refine Cov.same (bl' := [_, _]) (sl' := [_]) rfl rfl rfl ?_
      refine Cov.q .ro (.move rfl) rfl ?_
      refine Cov.q .ro (.extract rfl rfl) rfl ?_
      refine Cov.q .ro (.extract rfl rfl) rfl ?_
      refine Cov.q .ro (.assign rfl) rfl ?_
      refine Cov.q .ro (.assign rfl) rfl ?_
      refine Cov.region_end ?_
      refine Cov.seq ?_
      refine Cov.seq ?_
      refine Cov.region rfl ?_
      refine Cov.q .ro (.move rfl) rfl ?_
      refine Cov.q .ro (.not rfl) rfl ?_
      refine Cov.region_end ?_
      refine Cov.cond rfl (fun c36 => ?_) (fun c36 => ?_)
      · have r37 := ifT r28 c36; clear r28
        refine Cov.seq ?_
        refine Cov.region rfl ?_
        refine Cov.q .ro (.build [_] [] ty41 pl41 rfl rfl) rfl ?_
        refine Cov.store 0 [_] [_, _] .ro rfl rfl rfl ty41 rfl rfl rfl rfl ?_
        refine Cov.q .ro (.assign rfl) rfl ?_
        refine Cov.region_end ?_
        refine Cov.prune [(4, _), (5, _)] ⟨rfl, rfl, trivial⟩ ?_
        cases r37
        refine Cov.drop 0 1 _ [] rfl rfl ?_
        refine Cov.retWD 2 (c := ⟨11, none⟩) (.inr ⟨_, rfl⟩) [.cell 4 41, .tmp 5] [_, _] rfl Try.func11 Try.results11 ⟨RV.cell_a 0 [_] rfl rfl ty41 rfl, RV.tmp rfl, trivial⟩ (fun _ h => List.mem_cons_of_mem _ h) List.mem_cons_self B24 (by subst hS0; simp [blks]) (fun G' hg => ⟨none, 0, rfl, rfl, rfl, (SlR.mono hg (SlR.nil (Rp' := (Rep.int .i64))))⟩)
      · have r38 := ifBF r28 c36; clear r28
        refine Cov.skip ?_
        refine Cov.seq ?_
        refine Cov.region rfl ?_
        refine Cov.q .ro (.fieldAddr 0 rfl fl28_0 ty3.sz rfl) rfl ?_
        refine Cov.q .ro (.load_own 1 rfl rfl ty3 rfl) rfl ?_
        obtain ⟨u39, hu39, r40⟩ := bind_some r38; clear r38
        refine Cov.makeR (G := G22) (Q := (Rep.int .i64)) .ro sl35 ty3 rfl rfl rfl ((Rep.intI .i64 0) :) rfl rfl hu39 rfl rfl (fun b41 cs42 hb41 o43 => ?_)
        refine Cov.q .ro (.build [_] [(0, _)] ty41 pl41 rfl rfl) rfl ?_
        refine Cov.alloc .ro ty41 rfl (fun b45 hb45 => ?_)
        refine Cov.store 0 [_] [_, _, _] .ro rfl rfl rfl ty41 rfl rfl rfl rfl ?_
        refine Cov.region_end ?_
        refine Cov.prune [(4, _), (8, _), (10, _)] ⟨rfl, rfl, rfl, trivial⟩ ?_
        refine Cov.seq ?_
        refine Cov.seq ?_
        refine Cov.region rfl ?_
        refine Cov.q .ro (.fieldAddr 0 rfl fl41_0 ty35.sz rfl) rfl ?_
        refine Cov.q .ro (.load_own 0 rfl rfl ty35 rfl) rfl ?_
        refine Cov.q .ro (.len_sl rfl rfl sl35) rfl ?_
        refine Cov.q .ro (.move rfl) rfl ?_
        refine Cov.region_end ?_
        refine Cov.cutB (β := List Int × Option Addr × Nat × List Value × Int) (fun y => []) [(4, _), (8, _), (10, _)] (fun y => G22 :: Fs) (fun y => [(b45, .cells #[.slice y.2.1 y.1.length y.2.2.1] 41 (0, 0)), (b1, .cells #[.int .i64 y.2.2.2.2, .slice a0_1 x0_1.length k0_1] 28 (0, 0))]) [_] (fun y => [.s (.slice y.2.1 y.1.length y.2.2.1) 3 1 y.1.length y.2.2.2.1]) [_] (fun y => OL (Rep.int .i64) G22 y.2.2.2.1 y.1 ∧ (ref19_Assign_J3 u27.1) y.1 y.2.2.2.2 = some r) ⟨rfl, rfl, rfl, trivial⟩ [1] rfl [1] rfl ?_ ?_
        · intro y hI
          obtain ⟨v91, a92, k93, cs94, v97⟩ := y
          obtain ⟨o95, r99⟩ := hI
          try dsimp only at o95 r99
          refine Cov.prune [(4, _), (8, _), (10, _)] ⟨rfl, rfl, rfl, trivial⟩ ?_
          refine Cov.same (bl' := [(b45, .cells #[.slice a92 v91.length k93] 41 (0, 0)), (b1, .cells #[.int .i64 v97, .slice a0_1 x0_1.length k0_1] 28 (0, 0)), _]) (sl' := [.s (.slice a92 v91.length k93) 3 1 v91.length cs94, _]) (Fs' := G22 :: Fs) rfl rfl rfl ?_
          unfold ref19_Assign_J3 at r99
          try dsimp only at r99
          refine Cov.seq ?_
          refine Cov.seq ?_
          refine Cov.region rfl ?_
          refine Cov.q .ro (.move rfl) rfl ?_
          refine Cov.q .ro (.len_sl rfl rfl sl35) rfl ?_
          refine Cov.q .ro (.move rfl) rfl ?_
          refine Cov.region_end ?_
          refine Cov.cutB (β := List Int × Option Addr × Nat × List Value × Int) (fun y => []) [(4, _), (10, _)] (fun y => G22 :: Fs) (fun y => [(b45, .cells #[.slice y.2.1 y.1.length y.2.2.1] 41 (0, 0)), (b1, .cells #[.int .i64 y.2.2.2.2, .slice a0_1 x0_1.length k0_1] 28 (0, 0))]) [_] (fun y => [.s (.slice y.2.1 y.1.length y.2.2.1) 3 1 y.1.length y.2.2.2.1]) [_] (fun y => OL (Rep.int .i64) G22 y.2.2.2.1 y.1 ∧ ref19_Assign_J1 y.1 y.2.2.2.2 = some r) ⟨rfl, rfl, trivial⟩ [2] rfl [1] rfl ?_ ?_
          · intro y hI
            obtain ⟨v155, a156, k157, cs158, v161⟩ := y
            obtain ⟨o159, r163⟩ := hI
            try dsimp only at o159 r163
            refine Cov.prune [(4, _), (10, _)] ⟨rfl, rfl, trivial⟩ ?_
            refine Cov.same (bl' := [(b45, .cells #[.slice a156 v155.length k157] 41 (0, 0)), (b1, .cells #[.int .i64 v161, .slice a0_1 x0_1.length k0_1] 28 (0, 0)), _]) (sl' := [.s (.slice a156 v155.length k157) 3 1 v155.length cs158, _]) (Fs' := G22 :: Fs) rfl rfl rfl ?_
            unfold ref19_Assign_J1 at r163
            try dsimp only at r163
            refine Cov.seq ?_
            refine Cov.region rfl ?_
            refine Cov.q .ro (.load_own_a 0 [_] rfl rfl ty41 rfl) rfl ?_
            refine Cov.store 2 [_] [_, _, _] .ro rfl rfl rfl ty41 rfl rfl rfl rfl ?_
            refine Cov.q .ro (.assign rfl) rfl ?_
            refine Cov.region_end ?_
            refine Cov.freezeR 0 rfl rfl o159 [_] rfl B24 (fun G166 e167 B168 s169 => ?_)
            cases r163
            refine Cov.drop 0 1 _ [] rfl rfl ?_
            refine Cov.retWD 3 (c := ⟨11, none⟩) (.inr ⟨_, rfl⟩) [.cell 4 41, .tmp 5] [_, _] rfl Try.func11 Try.results11 ⟨RV.cell_a 2 [_] rfl rfl ty41 rfl, RV.tmp rfl, trivial⟩ (fun _ h => List.mem_cons_of_mem _ h) List.mem_cons_self B168 (by subst hS0; simp [blks]) (fun G' hg => ⟨a156, k157, rfl, rfl, rfl, (SlR.mono hg s169)⟩)
          · intro hb171
            refine Cov.block ?_
            refine Cov.loop2 (α := Nat × List Int × List Int × Option Addr × Nat × List Value) (fun y => [(57, .int .i64 (y.1 : Int))]) [(4, _), (10, _), (55, _), (56, _)] (fun y => []) (fun y => [(b45, .cells #[.slice y.2.2.2.1 y.2.2.1.length y.2.2.2.2.1] 41 (0, 0))]) [_, _] (fun y => [.s (.slice y.2.2.2.1 y.2.2.1.length y.2.2.2.2.1) 3 1 y.2.2.1.length y.2.2.2.2.2]) [_] (fun y => OL (Rep.int .i64) G22 y.2.2.2.2.2 y.2.2.1 ∧ List.drop y.1 u27.1 = y.2.1 ∧ ref19_Assign_L2 ref19_Assign_J1 v97 y.2.1 y.1 y.2.2.1 = some r) (fun y => y.2.1.length) (0, u27.1, v91, a92, k93, cs94) ⟨o95, rfl, r99⟩ ⟨rfl, rfl, rfl, rfl, rfl, trivial⟩ rfl rfl rfl (fun y hI hb204 => ?_)
            obtain ⟨i194, w195, v197, a198, k199, cs200⟩ := y
            obtain ⟨o201, g196, r203⟩ := hI
            try dsimp only at o201 g196 r203
            refine Cov.prune [(57, .int .i64 (i194 : Int)), (4, _), (10, _), (55, _), (56, _)] ⟨rfl, rfl, rfl, rfl, rfl, trivial⟩ ?_
            refine Cov.same (bl' := [(b45, .cells #[.slice a198 v197.length k199] 41 (0, 0)), _, _]) (sl' := [.s (.slice a198 v197.length k199) 3 1 v197.length cs200, _]) (Fs' := G22 :: Fs) rfl rfl rfl ?_
            cases w195 with
            | nil =>
              rw [ref19_Assign_L2] at r203; try dsimp only at r203
              refine Cov.seq ?_
              refine Cov.region rfl ?_
              refine Cov.q .ro (.lss rfl rfl) rfl ?_
              refine Cov.region_end ?_
              refine Cov.seq ?_
              refine Cov.cond_dec rfl (fun c => absurd c (drop_nil g196)) (fun _ => ?_)
              refine Cov.exit rfl ?_
              refine Cov.prune _ ?_ (Cov.same rfl rfl rfl (hb171 (v197, a198, k199, cs200, v97) ⟨o201, r203⟩))
              exact ⟨rfl, rfl, trivial⟩
            | cons x210 xs211 =>
              have r209 : ref19_Assign_B2 ref19_Assign_J1 v97 (ref19_Assign_L2 ref19_Assign_J1 v97 xs211 (i194 + 1)) x210 i194 v197 = some r := r203; clear r203; unfold ref19_Assign_B2 at r209; try dsimp only at r209
              refine Cov.seq ?_
              refine Cov.region rfl ?_
              refine Cov.q .ro (.lss rfl rfl) rfl ?_
              refine Cov.region_end ?_
              refine Cov.seq ?_
              refine Cov.cond_dec rfl (fun _ => ?_) (fun c => absurd (drop_lt g196) c)
              refine Cov.skip ?_
              refine Cov.seq ?_
              refine Cov.block ?_
              refine Cov.seq ?_
              refine Cov.region rfl ?_
              refine Cov.q .ro (.move rfl) rfl ?_
              obtain ⟨c212, p213, h214⟩ := OL.get o35 (drop_idx g196)
              obtain rfl := h214
              refine Cov.q .ro (.idxO 1 rfl rfl rfl (drop_idx g196) sl35 ty3.sz) rfl ?_
              refine Cov.q .ro (.loadO 1 0 rfl (drop_idx g196) p213 rfl (.inl ⟨rfl, rfl⟩) ty3 rfl) rfl ?_
              refine Cov.q .ro (.assign rfl) rfl ?_
              refine Cov.q .ro (.assign rfl) rfl ?_
              refine Cov.region_end ?_
              refine Cov.region rfl ?_
              refine Cov.q .ro (.fieldAddr 0 rfl fl41_0 ty35.sz rfl) rfl ?_
              refine Cov.q .ro (.load_own 0 rfl rfl ty35 rfl) rfl ?_
              refine Cov.q .ro (.move rfl) rfl ?_
              refine Cov.q .ro (.move rfl) rfl ?_
              obtain ⟨u215, hu215, r216⟩ := bind_some r209; clear r209
              obtain ⟨c217, p218, h219⟩ := OL.get o201 hu215
              obtain rfl := h219
              refine Cov.q .ro (.idxO 0 rfl rfl rfl hu215 sl35 ty3.sz) rfl ?_
              obtain ⟨u220, hu220, r221⟩ := bind_some r216; clear r216
              refine Cov.storeR 0 0 (Q := (Rep.int .i64)) .ro rfl rfl o201 hu220 rfl (.inl ⟨rfl, rfl⟩) rfl ty3 p218 ((Rep.intI .i64 (i194 : Int)) :) rfl rfl (fun cs222 hlcs222 o223 => ?_)
              refine Cov.reval 63 hlcs222 rfl ?_
              refine Cov.recell 0 [.slice a198 u220.length k199] rfl (by rw [hlcs222]) [_, _, _] rfl ?_
              refine Cov.region_end ?_
              refine Cov.inBlock ?_
              refine Cov.region rfl ?_
              refine Cov.q .ro (.addw rfl rfl) rfl ?_
              refine Cov.q .ro (.move rfl) rfl ?_
              refine Cov.region_end ?_
              refine Cov.prune _ ?_ (Cov.same rfl rfl rfl (hb204 ((i194 + 1), xs211, u220, a198, k199, cs222) ⟨o223, (drop_succ g196), r221⟩ (Nat.lt_succ_self _)))
              exact ⟨(congrArg (fun z => some (Value.int .i64 z)) (idx_wrap (OL.len' o35) g196)), rfl, rfl, rfl, rfl, trivial⟩
        · intro hb225
          refine Cov.block ?_
          refine Cov.loop2 (α := Nat × List Int × List Int × Option Addr × Nat × List Value) (fun y => [(47, .int .i64 (y.1 : Int))]) [(4, _), (8, _), (10, _), (46, _)] (fun y => []) (fun y => [(b45, .cells #[.slice y.2.2.2.1 y.2.2.1.length y.2.2.2.2.1] 41 (0, 0))]) [_, _] (fun y => [.s (.slice y.2.2.2.1 y.2.2.1.length y.2.2.2.2.1) 3 1 y.2.2.1.length y.2.2.2.2.2]) [_] (fun y => OL (Rep.int .i64) G22 y.2.2.2.2.2 y.2.2.1 ∧ List.drop y.1 u39 = y.2.1 ∧ ref19_Assign_L4 (ref19_Assign_J3 u27.1) x0_0 y.2.1 y.1 y.2.2.1 = some r) (fun y => y.2.1.length) (0, u39, u39, (some ⟨b41, 0, none⟩), u39.length, cs42) ⟨o43, rfl, r40⟩ ⟨rfl, rfl, rfl, rfl, rfl, trivial⟩ rfl rfl rfl (fun y hI hb253 => ?_)
          obtain ⟨i243, w244, v246, a247, k248, cs249⟩ := y
          obtain ⟨o250, g245, r252⟩ := hI
          try dsimp only at o250 g245 r252
          refine Cov.prune [(47, .int .i64 (i243 : Int)), (4, _), (8, _), (10, _), (46, _)] ⟨rfl, rfl, rfl, rfl, rfl, trivial⟩ ?_
          refine Cov.same (bl' := [(b45, .cells #[.slice a247 v246.length k248] 41 (0, 0)), _, _]) (sl' := [.s (.slice a247 v246.length k248) 3 1 v246.length cs249, _]) (Fs' := G22 :: Fs) rfl rfl rfl ?_
          cases w244 with
          | nil =>
            rw [ref19_Assign_L4] at r252; try dsimp only at r252
            refine Cov.seq ?_
            refine Cov.region rfl ?_
            refine Cov.q .ro (.lss rfl rfl) rfl ?_
            refine Cov.region_end ?_
            refine Cov.seq ?_
            refine Cov.cond_dec rfl (fun c => absurd c (drop_nil g245)) (fun _ => ?_)
            refine Cov.exit rfl ?_
            refine Cov.pull 1 rfl [_, _, _] rfl ?_
            refine Cov.pull 2 rfl [_, _, _] rfl ?_
            refine Cov.pull 2 rfl [_, _, _] rfl ?_
            refine Cov.prune _ ?_ (Cov.same rfl rfl rfl (hb225 (v246, a247, k248, cs249, x0_0) ⟨o250, r252⟩))
            exact ⟨rfl, rfl, rfl, trivial⟩
          | cons x259 xs260 =>
            have r258 : ref19_Assign_B4 (ref19_Assign_J3 u27.1) x0_0 (ref19_Assign_L4 (ref19_Assign_J3 u27.1) x0_0 xs260 (i243 + 1)) x259 i243 v246 = some r := r252; clear r252; unfold ref19_Assign_B4 at r258; try dsimp only at r258
            refine Cov.seq ?_
            refine Cov.region rfl ?_
            refine Cov.q .ro (.lss rfl rfl) rfl ?_
            refine Cov.region_end ?_
            refine Cov.seq ?_
            refine Cov.cond_dec rfl (fun _ => ?_) (fun c => absurd (drop_lt g245) c)
            refine Cov.skip ?_
            refine Cov.seq ?_
            refine Cov.block ?_
            refine Cov.seq ?_
            refine Cov.region rfl ?_
            refine Cov.q .ro (.move rfl) rfl ?_
            refine Cov.q .ro (.assign rfl) rfl ?_
            refine Cov.region_end ?_
            refine Cov.region rfl ?_
            refine Cov.q .ro (.fieldAddr 0 rfl fl41_0 ty35.sz rfl) rfl ?_
            refine Cov.q .ro (.load_own 0 rfl rfl ty35 rfl) rfl ?_
            refine Cov.q .ro (.move rfl) rfl ?_
            obtain ⟨u261, hu261, r262⟩ := bind_some r258; clear r258
            obtain ⟨c263, p264, h265⟩ := OL.get o250 hu261
            obtain rfl := h265
            refine Cov.q .ro (.idxO 0 rfl rfl rfl hu261 sl35 ty3.sz) rfl ?_
            obtain ⟨u266, hu266, r267⟩ := bind_some r262; clear r262
            refine Cov.storeR 0 0 (Q := (Rep.int .i64)) .ro rfl rfl o250 hu266 rfl (.inl ⟨rfl, rfl⟩) rfl ty3 p264 ((Rep.intI .i64 (-1)) :) rfl rfl (fun cs268 hlcs268 o269 => ?_)
            refine Cov.reval 51 hlcs268 rfl ?_
            refine Cov.recell 0 [.slice a247 u266.length k248] rfl (by rw [hlcs268]) [_, _, _] rfl ?_
            refine Cov.region_end ?_
            refine Cov.inBlock ?_
            refine Cov.region rfl ?_
            refine Cov.q .ro (.addw rfl rfl) rfl ?_
            refine Cov.q .ro (.move rfl) rfl ?_
            refine Cov.region_end ?_
            refine Cov.prune _ ?_ (Cov.same rfl rfl rfl (hb253 ((i243 + 1), xs260, u266, a247, k248, cs268) ⟨o269, (drop_succ g245), r267⟩ (Nat.lt_succ_self _)))
            exact ⟨(congrArg (fun z => some (Value.int .i64 z)) (idx_wrap (OL.len' o43) g245)), rfl, rfl, rfl, rfl, trivial⟩
set_option maxHeartbeats 4000000 in
set_option maxRecDepth 100000 in
theorem ref19_has_c {Fs : List Hp} {G : Hp} {a0 : Option Addr} {k0 : Nat} {x0 : List Int} {x1 : Int} {r : Bool} (hG : G ∈ Fs) (s0 : SlR (Rep.int .i64) G a0 k0 x0) (h : ref19_has x0 x1 = some r) : RetS Try.prog 41 #[.slice a0 x0.length k0, .int .i64 x1] Fs [] [] (fun v bo so => v = .bool r ∧ bo = [] ∧ so = []) := by
  unfold ref19_has at h
  try dsimp only at h
  refine RetS.of (vs := [_, _]) Try.func41 rfl Try.ntmps41 [(0, _), (1, _)] ⟨rfl, rfl, trivial⟩ rfl hG fun w0 S0 hS0 B0 => ?_
  refine Cov.seq ?_
  refine Cov.region rfl ?_
  refine Cov.q .ro (.assign rfl) rfl ?_
  refine Cov.region_end ?_
  refine Cov.seq ?_
  refine Cov.seq ?_
  refine Cov.region rfl ?_
  refine Cov.q .ro (.move rfl) rfl ?_
  refine Cov.q .ro (.len_sl rfl rfl sl35) rfl ?_
  refine Cov.q .ro (.move rfl) rfl ?_
  refine Cov.region_end ?_
  refine Cov.block ?_
  refine Cov.loop2 (α := Nat × List Int) (fun y => [(9, .int .i64 (y.1 : Int))]) [(1, _), (7, _), (8, _)] (fun y => []) (fun y => []) [] (fun y => []) [] (fun y => List.drop y.1 x0 = y.2 ∧ ref19_has_L1 x1 y.2  = some r) (fun y => y.2.length) (0, x0) ⟨rfl, h⟩ ⟨rfl, rfl, rfl, rfl, trivial⟩ rfl rfl rfl (fun y hI hb19 => ?_)
  obtain ⟨i15, w16⟩ := y
  obtain ⟨g17, r18⟩ := hI
  try dsimp only at g17 r18
  refine Cov.prune [(9, .int .i64 (i15 : Int)), (1, _), (7, _), (8, _)] ⟨rfl, rfl, rfl, rfl, trivial⟩ ?_
  refine Cov.same (bl' := []) (sl' := []) (Fs' := G :: Fs) rfl rfl rfl ?_
  cases w16 with
  | nil =>
    rw [ref19_has_L1] at r18; try dsimp only at r18
    refine Cov.seq ?_
    refine Cov.region rfl ?_
    refine Cov.q .ro (.lss rfl rfl) rfl ?_
    refine Cov.region_end ?_
    refine Cov.seq ?_
    refine Cov.cond_dec rfl (fun c => absurd c (drop_nil g17)) (fun _ => ?_)
    refine Cov.exit rfl ?_
    refine Cov.seq ?_
    refine Cov.region rfl ?_
    refine Cov.q .ro (.assign rfl) rfl ?_
    refine Cov.region_end ?_
    cases r18
    refine Cov.retS (c := ⟨41, none⟩) (.inr ⟨_, rfl⟩) [.tmp 4] [_] rfl Try.func41 Try.results41 ⟨RV.tmp rfl, trivial⟩ (fun _ h => List.mem_cons_of_mem _ h) ⟨rfl, rfl, rfl⟩
  | cons x24 xs25 =>
    have r23 : ref19_has_B1 x1 (ref19_has_L1 x1 xs25) x24  = some r := r18; clear r18; unfold ref19_has_B1 at r23; try dsimp only at r23
    refine Cov.seq ?_
    refine Cov.region rfl ?_
    refine Cov.q .ro (.lss rfl rfl) rfl ?_
    refine Cov.region_end ?_
    refine Cov.seq ?_
    refine Cov.cond_dec rfl (fun _ => ?_) (fun c => absurd (drop_lt g17) c)
    refine Cov.skip ?_
    refine Cov.seq ?_
    refine Cov.block ?_
    refine Cov.seq ?_
    refine Cov.region rfl ?_
    obtain ⟨c26, p27, h28⟩ := SlR.get s0 (drop_idx g17)
    obtain rfl := h28
    refine Cov.q .ro (.idxR s0 rfl rfl (drop_idx g17) sl35 ty3.sz) rfl ?_
    refine Cov.q .ro (.load_rp p27 List.mem_cons_self rfl ty3 rfl) rfl ?_
    refine Cov.q .ro (.assign rfl) rfl ?_
    refine Cov.region_end ?_
    refine Cov.seq ?_
    refine Cov.region rfl ?_
    refine Cov.q .ro (.move rfl) rfl ?_
    refine Cov.q .ro (.move rfl) rfl ?_
    refine Cov.q .ro (.eql rfl rfl) rfl ?_
    refine Cov.region_end ?_
    refine Cov.cond_dec rfl (fun c29 => ?_) (fun c29 => ?_)
    · have r30 := ifT r23 c29; clear r23
      refine Cov.seq ?_
      refine Cov.region rfl ?_
      refine Cov.q .ro (.assign rfl) rfl ?_
      refine Cov.region_end ?_
      cases r30
      refine Cov.retS (c := ⟨41, none⟩) (.inr ⟨_, rfl⟩) [.tmp 4] [_] rfl Try.func41 Try.results41 ⟨RV.tmp rfl, trivial⟩ (fun _ h => List.mem_cons_of_mem _ h) ⟨rfl, rfl, rfl⟩
    · have r31 := ifF r23 c29; clear r23
      refine Cov.skip ?_
      refine Cov.inBlock ?_
      refine Cov.region rfl ?_
      refine Cov.q .ro (.addw rfl rfl) rfl ?_
      refine Cov.q .ro (.move rfl) rfl ?_
      refine Cov.region_end ?_
      refine Cov.prune _ ?_ (Cov.same rfl rfl rfl (hb19 ((i15 + 1), xs25) ⟨(drop_succ g17), r31⟩ (Nat.lt_succ_self _)))
      exact ⟨(congrArg (fun z => some (Value.int .i64 z)) (idx_wrap (SlR.len s0) g17)), rfl, rfl, rfl, trivial⟩
set_option maxHeartbeats 4000000 in
set_option maxRecDepth 100000 in
theorem ref19_Layout_c {Fs : List Hp} {G : Hp} {x0_0 : Int} {a0_1 : Option Addr} {k0_1 : Nat} {x0_1 : List (Int × Int)} {x1 : Int} {r : ((List (List Int)) × Int)} (hG : G ∈ Fs) (s0_1 : SlR (Rep.pair (Rep.int .i64) (Rep.int .i64)) G a0_1 k0_1 x0_1) (h : ref19_Layout (x0_0, x0_1) x1 = some r) : RetW Try.prog 23 #[.agg #[.int .i64 x0_0, .slice a0_1 x0_1.length k0_1], .int .i64 x1] Fs [] [] (fun v bo so G => ∃ a0 : Option Addr, ∃ k0 : Nat, v = .tuple #[.slice a0 r.1.length k0, .int .i64 r.2] ∧ bo = [] ∧ so = [] ∧ SlR (Rep.sl (Rep.int .i64)) G a0 k0 r.1) := by
  unfold ref19_Layout at h
  try dsimp only at h
  refine RetW.of (vs := [_, _]) Try.func23 rfl Try.ntmps23 [(0, _), (1, _)] ⟨rfl, rfl, trivial⟩ rfl hG fun w0 S0 hS0 B0 => ?_
  refine Cov.seq ?_
  refine Cov.region rfl ?_
  refine Cov.box [_, _] .ro rfl rfl rfl (fun b1 hb1 => ?_)
  refine Cov.q .ro (.assign rfl) rfl ?_
  refine Cov.q .ro (.assign rfl) rfl ?_
  refine Cov.region_end ?_
  refine Cov.seq ?_
  refine Cov.seq ?_
  refine Cov.region rfl ?_
  refine Cov.q .ro (.load_own_a 0 [_, _] rfl rfl ty28 rfl) rfl ?_
  obtain ⟨u2, hu2, r3⟩ := bind_some h; clear h
  refine Cov.callS (b1 := []) (b2 := [_]) (s1 := []) [_] [] .ro rfl rfl Try.call39 rfl rfl (ref19_Check_c (G := G) List.mem_cons_self s0_1 hu2) rfl (fun v5 bo so h4 => ?_)
  obtain ⟨rfl, rfl, rfl⟩ := h4
  refine Cov.same (bl' := [_]) (sl' := []) rfl rfl rfl ?_
  refine Cov.q .ro (.assign rfl) rfl ?_
  refine Cov.region_end ?_
  refine Cov.seq ?_
  refine Cov.region rfl ?_
  refine Cov.q .ro (.move rfl) rfl ?_
  refine Cov.q .ro (.neq rfl rfl) rfl ?_
  refine Cov.region_end ?_
  refine Cov.cond_dec rfl (fun c6 => ?_) (fun c6 => ?_)
  · have r7 := ifT r3 c6; clear r3
    refine Cov.seq ?_
    refine Cov.region rfl ?_
    refine Cov.q .ro (.move rfl) rfl ?_
    refine Cov.q .ro (.assign rfl) rfl ?_
    refine Cov.q .ro (.assign rfl) rfl ?_
    refine Cov.region_end ?_
    cases r7
    refine Cov.drop 1 0 [] _ rfl rfl ?_
    refine Cov.retW (c := ⟨23, none⟩) (.inr ⟨_, rfl⟩) [.tmp 4, .tmp 5] [_, _] rfl Try.func23 Try.results23 ⟨RV.tmp rfl, RV.tmp rfl, trivial⟩ (fun _ h => List.mem_cons_of_mem _ h) List.mem_cons_self B0 (by subst hS0; simp [blks]) (fun G' hg => ⟨none, 0, rfl, rfl, rfl, (SlR.mono hg (SlR.nil (Rp' := (Rep.sl (Rep.int .i64)))))⟩)
  · have r8 := ifF r3 c6; clear r3
    refine Cov.skip ?_
    refine Cov.seq ?_
    refine Cov.seq ?_
    refine Cov.region rfl ?_
    refine Cov.q .ro (.move rfl) rfl ?_
    refine Cov.q .ro (.lss rfl rfl) rfl ?_
    refine Cov.q .ro (.move rfl) rfl ?_
    refine Cov.cutR 3 (β := Unit) (fun y => [(23, .bool (decide ((x1 < 0) ∨ (1024 < x1))))]) [(1, _), (2, _)] (fun y => G :: Fs) (fun y => []) [_] (fun y => []) [] (fun y => True) ⟨rfl, rfl, trivial⟩ [0] rfl [] rfl ?_ ?_
    · rintro _ _
      refine Cov.prune [(23, .bool (decide ((x1 < 0) ∨ (1024 < x1)))), (1, _), (2, _)] ⟨rfl, rfl, rfl, trivial⟩ ?_
      refine Cov.same (bl' := [_]) (sl' := []) (Fs' := G :: Fs) rfl rfl rfl ?_
      refine Cov.region_end ?_
      refine Cov.cond_dec rfl (fun c13 => ?_) (fun c13 => ?_)
      · have r14 := ifT r8 c13; clear r8
        refine Cov.seq ?_
        refine Cov.region rfl ?_
        refine Cov.q .ro (.assign rfl) rfl ?_
        refine Cov.q .ro (.assign rfl) rfl ?_
        refine Cov.region_end ?_
        cases r14
        refine Cov.drop 1 0 [] _ rfl rfl ?_
        refine Cov.retW (c := ⟨23, none⟩) (.inr ⟨_, rfl⟩) [.tmp 4, .tmp 5] [_, _] rfl Try.func23 Try.results23 ⟨RV.tmp rfl, RV.tmp rfl, trivial⟩ (fun _ h => List.mem_cons_of_mem _ h) List.mem_cons_self B0 (by subst hS0; simp [blks]) (fun G' hg => ⟨none, 0, rfl, rfl, rfl, (SlR.mono hg (SlR.nil (Rp' := (Rep.sl (Rep.int .i64)))))⟩)
      · have r15 := ifF r8 c13; clear r8
        refine Cov.skip ?_
        refine Cov.seq ?_
        refine Cov.region rfl ?_
        refine Cov.q .ro (.fieldAddr 0 rfl fl28_0 ty3.sz rfl) rfl ?_
        refine Cov.q .ro (.load_own 0 rfl rfl ty3 rfl) rfl ?_
        obtain ⟨u16, hu16, r17⟩ := bind_some r15; clear r15
        refine Cov.makeN (G := G) (Q := (Rep.int .i64)) 3 1 .ro sl34 ty35 rfl rfl hu16 rfl rfl (fun b18 es19 cs20 hb18 o21 => ?_)
        refine Cov.q .ro (.assign rfl) rfl ?_
        refine Cov.region_end ?_
        refine Cov.seq ?_
        refine Cov.seq ?_
        refine Cov.region rfl ?_
        refine Cov.q .ro (.assign rfl) rfl ?_
        refine Cov.region_end ?_
        refine Cov.block ?_
        refine Cov.pullS 1 rfl [_, _] rfl ?_
        refine Cov.pullS 1 rfl [_, _] rfl ?_
        refine Cov.loop2 (α := Nat × Hp × Int × List (List Int) × List NE × List Value × Int) (fun y => [(8, .int .i64 y.2.2.1), (7, .slice (some ⟨b18, 0, none⟩) y.2.2.2.1.length u16.length)]) [(1, _), (2, _)] (fun y => [y.2.1]) (fun y => [(b1, .cells #[.int .i64 y.2.2.2.2.2.2, .slice a0_1 x0_1.length k0_1] 28 (0, 0))]) [] (fun y => [.s (.slice (some ⟨b18, 0, none⟩) y.2.2.2.1.length u16.length) 35 1 y.2.2.2.1.length y.2.2.2.2.2.1, .g (packG 3 1 y.2.2.2.2.1)]) [] (fun y => HpLe G y.2.1 ∧ Bd w0 S0 Fs y.2.1 ∧ NL (Rep.int .i64) y.2.1 y.2.2.2.2.1 y.2.2.2.2.2.1 y.2.2.2.1 ∧ y.2.2.2.1.length = u16.length ∧ ref19_Layout_L2 x1 x0_1 y.1 y.2.2.1 y.2.2.2.1 y.2.2.2.2.2.2 = some r) (fun y => y.1) (big, G, 0, u16, es19, cs20, x0_0) ⟨(HpLe.refl _), B0, o21, rfl, r17⟩ ⟨rfl, rfl, rfl, rfl, trivial⟩ rfl rfl rfl (fun y hI hb266 => ?_)
        obtain ⟨n250, G252, v256, v257, es258, cs259, v264⟩ := y
        obtain ⟨e253, B254, o260, hl261, r265⟩ := hI
        try dsimp only at e253 B254 o260 hl261 r265
        refine Cov.prune [(8, .int .i64 v256), (7, .slice (some ⟨b18, 0, none⟩) v257.length u16.length), (1, _), (2, _)] ⟨rfl, rfl, rfl, rfl, trivial⟩ ?_
        refine Cov.same (bl' := [(b1, .cells #[.int .i64 v264, .slice a0_1 x0_1.length k0_1] 28 (0, 0))]) (sl' := [.s (.slice (some ⟨b18, 0, none⟩) v257.length u16.length) 35 1 v257.length cs259, .g (packG 3 1 es258)]) (Fs' := G252 :: Fs) rfl rfl rfl ?_
        obtain ⟨m270, rfl⟩ : ∃ m, n250 = m + 1 := by cases n250 with | zero => exact absurd (show (none : Option _) = some _ from r265) (by simp) | succ m => exact ⟨m, rfl⟩
        have r269 : ref19_Layout_B2 x1 x0_1 (ref19_Layout_L2 x1 x0_1 m270) v256 v257 v264 = some r := r265; clear r265; unfold ref19_Layout_B2 at r269; try dsimp only at r269
        refine Cov.seq ?_
        refine Cov.seq ?_
        refine Cov.region rfl ?_
        refine Cov.q .ro (.move rfl) rfl ?_
        refine Cov.q .ro (.move rfl) rfl ?_
        refine Cov.q .ro (.lss rfl rfl) rfl ?_
        refine Cov.region_end ?_
        refine Cov.cond_dec rfl (fun c271 => ?_) (fun c271 => ?_)
        · have r272 := ifT r269 c271; clear r269
          refine Cov.skip ?_
          refine Cov.seq ?_
          refine Cov.block ?_
          refine Cov.seq ?_
          refine Cov.region rfl ?_
          refine Cov.q .ro (.load_own_a 0 [_, _] rfl rfl ty28 rfl) rfl ?_
          refine Cov.q .ro (.move rfl) rfl ?_
          obtain ⟨u273, hu273, r274⟩ := bind_some r272; clear r272
          refine Cov.callS (b1 := []) (b2 := [_]) (s1 := []) [_, _] [] .ro rfl rfl Try.call40 rfl rfl (ref19_Homes_c (G := G252) List.mem_cons_self (SlR.mono e253 s0_1) hu273) rfl (fun v276 bo so h275 => ?_)
          obtain ⟨a278, k279, cs280, rfl, rfl, rfl, o281⟩ := h275
          refine Cov.same (bl' := [_]) (sl' := [_, _, _]) rfl rfl rfl ?_
          refine Cov.q .ro (.move rfl) rfl ?_
          refine Cov.q .ro (.extract rfl rfl) rfl ?_
          refine Cov.q .ro (.extract rfl rfl) rfl ?_
          refine Cov.q .ro (.assign rfl) rfl ?_
          refine Cov.q .ro (.assign rfl) rfl ?_
          refine Cov.region_end ?_
          refine Cov.seq ?_
          refine Cov.region rfl ?_
          refine Cov.q .ro (.move rfl) rfl ?_
          refine Cov.q .ro (.len_sl rfl rfl sl35) rfl ?_
          refine Cov.q .ro (.move rfl) rfl ?_
          refine Cov.region_end ?_
          refine Cov.block ?_
          refine Cov.freezeR 0 rfl rfl o281 [_, _] rfl B254 (fun G346 e347 B348 s349 => ?_)
          refine Cov.pullS 1 rfl [_, _] rfl ?_
          refine Cov.pullS 1 rfl [_, _] rfl ?_
          refine Cov.loop2 (α := Nat × List Int × Hp × List (List Int) × List NE × List Value) (fun y => [(7, .slice (some ⟨b18, 0, none⟩) y.2.2.2.1.length u16.length), (40, .int .i64 (y.1 : Int))]) [(8, _), (1, _), (2, _), (9, _), (38, _), (39, _)] (fun y => [y.2.2.1]) (fun y => []) [_] (fun y => [.s (.slice (some ⟨b18, 0, none⟩) y.2.2.2.1.length u16.length) 35 1 y.2.2.2.1.length y.2.2.2.2.2, .g (packG 3 1 y.2.2.2.2.1)]) [] (fun y => HpLe G346 y.2.2.1 ∧ Bd w0 S0 Fs y.2.2.1 ∧ NL (Rep.int .i64) y.2.2.1 y.2.2.2.2.1 y.2.2.2.2.2 y.2.2.2.1 ∧ y.2.2.2.1.length = u16.length ∧ List.drop y.1 u273.1 = y.2.1 ∧ ref19_Layout_L1 (ref19_Layout_L2 x1 x0_1 m270) v256 u273.1 v264 y.2.1 y.1 y.2.2.2.1 = some r) (fun y => y.2.1.length) (0, u273.1, G346, v257, es258, cs259) ⟨(HpLe.refl _), B348, (NL.mono e347 o260), hl261, rfl, r274⟩ ⟨rfl, rfl, rfl, rfl, rfl, rfl, rfl, rfl, trivial⟩ rfl rfl rfl (fun y hI hb426 => ?_)
          obtain ⟨i411, w412, G414, v418, es419, cs420⟩ := y
          obtain ⟨e415, B416, o421, hl422, g413, r425⟩ := hI
          try dsimp only at e415 B416 o421 hl422 g413 r425
          refine Cov.prune [(7, .slice (some ⟨b18, 0, none⟩) v418.length u16.length), (40, .int .i64 (i411 : Int)), (8, _), (1, _), (2, _), (9, _), (38, _), (39, _)] ⟨rfl, rfl, rfl, rfl, rfl, rfl, rfl, rfl, trivial⟩ ?_
          refine Cov.same (bl' := [_]) (sl' := [.s (.slice (some ⟨b18, 0, none⟩) v418.length u16.length) 35 1 v418.length cs420, .g (packG 3 1 es419)]) (Fs' := G414 :: Fs) rfl rfl rfl ?_
          cases w412 with
          | nil =>
            rw [ref19_Layout_L1] at r425; try dsimp only at r425
            refine Cov.seq ?_
            refine Cov.region rfl ?_
            refine Cov.q .ro (.lss rfl rfl) rfl ?_
            refine Cov.region_end ?_
            refine Cov.seq ?_
            refine Cov.cond_dec rfl (fun c => absurd c (drop_nil g413)) (fun _ => ?_)
            refine Cov.exit rfl ?_
            refine Cov.inBlock ?_
            refine Cov.region rfl ?_
            refine Cov.q .ro (.move rfl) rfl ?_
            refine Cov.q .ro (.addw rfl rfl) rfl ?_
            refine Cov.q .ro (.assign rfl) rfl ?_
            refine Cov.region_end ?_
            refine Cov.prune _ ?_ (Cov.same rfl rfl rfl (hb266 (m270, G414, (w64 (v256 + 1)), v418, es419, cs420, v264) ⟨(HpLe.trans (HpLe.trans e253 e347) e415), B416, o421, hl422, r425⟩ (Nat.lt_succ_self _)))
            exact ⟨rfl, rfl, rfl, rfl, trivial⟩
          | cons x434 xs435 =>
            have r433 : ref19_Layout_B1 (ref19_Layout_L2 x1 x0_1 m270) v256 u273.1 v264 (ref19_Layout_L1 (ref19_Layout_L2 x1 x0_1 m270) v256 u273.1 v264 xs435 (i411 + 1)) x434 i411 v418 = some r := r425; clear r425; unfold ref19_Layout_B1 at r433; try dsimp only at r433
            refine Cov.seq ?_
            refine Cov.region rfl ?_
            refine Cov.q .ro (.lss rfl rfl) rfl ?_
            refine Cov.region_end ?_
            refine Cov.seq ?_
            refine Cov.cond_dec rfl (fun _ => ?_) (fun c => absurd (drop_lt g413) c)
            refine Cov.skip ?_
            refine Cov.seq ?_
            refine Cov.block ?_
            refine Cov.seq ?_
            refine Cov.region rfl ?_
            refine Cov.q .ro (.move rfl) rfl ?_
            obtain ⟨c436, p437, h438⟩ := SlR.get (SlR.mono e415 s349) (drop_idx g413)
            obtain rfl := h438
            refine Cov.q .ro (.idxR (SlR.mono e415 s349) rfl rfl (drop_idx g413) sl35 ty3.sz) rfl ?_
            refine Cov.q .ro (.load_rp p437 List.mem_cons_self rfl ty3 rfl) rfl ?_
            refine Cov.q .ro (.assign rfl) rfl ?_
            refine Cov.q .ro (.assign rfl) rfl ?_
            refine Cov.region_end ?_
            refine Cov.seq ?_
            refine Cov.region rfl ?_
            refine Cov.q .ro (.move rfl) rfl ?_
            refine Cov.q .ro (.move rfl) rfl ?_
            obtain ⟨u439, hu439, r440⟩ := bind_some r433; clear r433
            obtain ⟨a441, k442, h443, s444⟩ := SlR.sub (SlR.mono e415 s349) hu439
            refine Cov.q .ro (.sliceR (SlR.mono e415 s349) rfl hu439 sl35 ty3.sz (fun _ => .no) (fun h => .yes' rfl h) h443) rfl ?_
            refine Cov.q .ro (.move rfl) rfl ?_
            obtain ⟨u445, hu445, r446⟩ := bind_some r440; clear r440
            refine Cov.callS (b1 := []) (b2 := [_]) (s1 := []) [_, _] [] .ro rfl rfl Try.call41 rfl rfl (ref19_has_c (G := G414) List.mem_cons_self s444 hu445) rfl (fun v448 bo so h447 => ?_)
            obtain ⟨rfl, rfl, rfl⟩ := h447
            refine Cov.same (bl' := [_]) (sl' := [_, _]) rfl rfl rfl ?_
            refine Cov.q .ro (.not rfl) rfl ?_
            refine Cov.region_end ?_
            refine Cov.cond rfl (fun c449 => ?_) (fun c449 => ?_)
            · have r450 := ifT r446 c449; clear r446
              refine Cov.region rfl ?_
              refine Cov.q .ro (.move rfl) rfl ?_
              refine Cov.q .ro (.move rfl) rfl ?_
              refine Cov.q .ro (.move rfl) rfl ?_
              refine Cov.q .ro (.move rfl) rfl ?_
              obtain ⟨u451, hu451, r452⟩ := bind_some r450; clear r450
              obtain ⟨e453, he454, hn455, ho456, p457⟩ := NL.get o421 hu451
              refine Cov.q .ro (.idxO 0 rfl rfl rfl hu451 sl34 ty35.sz) rfl ?_
              refine Cov.q .ro (.loadO 0 0 rfl hu451 p457 rfl (.inl ⟨rfl, rfl⟩) ty35 rfl) rfl ?_
              refine Cov.q .ro (.move rfl) rfl ?_
              refine Cov.lit [_] [(0, _)] .ro sl35 ty3 rfl rfl rfl rfl rfl rfl (fun b458 hb458 => ?_)
              have o459 : OL (Rep.int .i64) G414 [.int .i64 v256] ([v256] : List Int) := ((OL.cons rfl (Rep.intI .i64 v256) (OL.nil (Rp' := (Rep.int .i64)))) :)
              refine Cov.reval 58 (n' := ([v256] : List Int).length) rfl rfl ?_
              refine Cov.freezeR 0 rfl rfl o459 [_, _] rfl B416 (fun G461 e462 B463 s464 => ?_)
              refine Cov.takeN 1 rfl he454 hn455 ?_
              obtain ⟨u471, hu471, r472⟩ := bind_some r452; clear r452
              refine Cov.appR (Q := (Rep.int .i64)) 0 .ro sl35 ty3 rfl rfl rfl rfl rfl (OL.mono e462 ho456) rfl rfl s464 rfl List.mem_cons_self hu471 rfl (fun a467 k468 cs469 o470 => ?_)
              obtain ⟨u474, hu474, r475⟩ := bind_some r472; clear r472
              obtain ⟨e476, he477, hn478, ho479, p480⟩ := NL.get (NL.mono e462 o421) hu474
              refine Cov.q .ro (.idxO 1 rfl rfl rfl hu474 sl34 ty35.sz) rfl ?_
              obtain ⟨u481, hu481, r482⟩ := bind_some r475; clear r475
              refine Cov.storeN 0 1 (Q := (Rep.int .i64)) .ro rfl rfl rfl (NL.mono e462 o421) he454 o470 hu481 rfl (.inl ⟨rfl, rfl⟩) rfl ty35 rfl (fun es483 cs484 hlcs484 o485 => ?_)
              refine Cov.reval 7 hlcs484 rfl ?_
              refine Cov.reval 51 hlcs484 rfl ?_
              refine Cov.reval 53 hlcs484 rfl ?_
              refine Cov.region_end ?_
              refine Cov.prune [(7, _), (40, _), (8, _), (1, _), (2, _), (9, _), (38, _), (39, _)] ⟨rfl, rfl, rfl, rfl, rfl, rfl, rfl, rfl, trivial⟩ ?_
              refine Cov.inBlock ?_
              refine Cov.region rfl ?_
              refine Cov.q .ro (.addw rfl rfl) rfl ?_
              refine Cov.q .ro (.move rfl) rfl ?_
              refine Cov.region_end ?_
              refine Cov.prune _ ?_ (Cov.same rfl rfl rfl (hb426 ((i411 + 1), xs435, G461, u481, es483, cs484) ⟨(HpLe.trans e415 e462), B463, o485, (hlcs484.trans hl422), (drop_succ g413), r482⟩ (Nat.lt_succ_self _)))
              exact ⟨rfl, (congrArg (fun z => some (Value.int .i64 z)) (idx_wrap (OL.len' o281) g413)), rfl, rfl, rfl, rfl, rfl, rfl, trivial⟩
            · have r487 := ifBF r446 c449; clear r446
              refine Cov.skip ?_
              refine Cov.inBlock ?_
              refine Cov.region rfl ?_
              refine Cov.q .ro (.addw rfl rfl) rfl ?_
              refine Cov.q .ro (.move rfl) rfl ?_
              refine Cov.region_end ?_
              refine Cov.prune [(7, _), (40, _), (8, _), (1, _), (2, _), (9, _), (38, _), (39, _)] ⟨rfl, rfl, rfl, rfl, rfl, rfl, rfl, rfl, trivial⟩ ?_
              refine Cov.prune _ ?_ (Cov.same rfl rfl rfl (hb426 ((i411 + 1), xs435, G414, v418, es419, cs420) ⟨e415, B416, o421, hl422, (drop_succ g413), r487⟩ (Nat.lt_succ_self _)))
              exact ⟨rfl, (congrArg (fun z => some (Value.int .i64 z)) (idx_wrap (OL.len' o281) g413)), rfl, rfl, rfl, rfl, rfl, rfl, trivial⟩
        · have r488 := ifF r269 c271; clear r269
          refine Cov.exit rfl ?_
          refine Cov.seq ?_
          refine Cov.region rfl ?_
          refine Cov.q .ro (.move rfl) rfl ?_
          refine Cov.q .ro (.assign rfl) rfl ?_
          refine Cov.q .ro (.assign rfl) rfl ?_
          refine Cov.region_end ?_
          refine Cov.pullS 1 rfl [_, _] rfl ?_
          refine Cov.pullS 1 rfl [_, _] rfl ?_
          refine Cov.freezeN (Q := (Rep.int .i64)) rfl o260 rfl B254 (fun G489 e490 B491 s492 => ?_)
          cases r488
          refine Cov.drop 1 0 [] _ rfl rfl ?_
          refine Cov.retW (c := ⟨23, none⟩) (.inr ⟨_, rfl⟩) [.tmp 4, .tmp 5] [_, _] rfl Try.func23 Try.results23 ⟨RV.tmp rfl, RV.tmp rfl, trivial⟩ (fun _ h => List.mem_cons_of_mem _ h) List.mem_cons_self B491 (by subst hS0; simp [blks]) (fun G' hg => ⟨(some ⟨b18, 0, none⟩), u16.length, rfl, rfl, rfl, (SlR.mono hg s492)⟩)
    · intro hb10
      refine Cov.split 20 rfl (fun c9 => ?_) (fun c9 => ?_)
      · refine Cov.g_off rfl rfl rfl ?_
        refine Cov.g_off rfl rfl rfl ?_
        refine Cov.q .ro (.pick_t rfl rfl) rfl ?_
        refine Cov.prune _ ?_ (Cov.same rfl rfl rfl (hb10 () trivial))
        exact ⟨dor_t c9, rfl, rfl, trivial⟩
      · refine Cov.g_on rfl ?_
        refine Cov.q .ro (.move rfl) rfl ?_
        refine Cov.g_on rfl ?_
        refine Cov.q .ro (.gtr rfl rfl) rfl ?_
        refine Cov.q .ro (.pick_f rfl rfl) rfl ?_
        refine Cov.prune _ ?_ (Cov.same rfl rfl rfl (hb10 () trivial))
        exact ⟨dor_f c9, rfl, rfl, trivial⟩
set_option maxHeartbeats 4000000 in
set_option maxRecDepth 100000 in
theorem ref34_Plan_c {Fs : List Hp} {G : Hp} {x0_0 : Int} {a0_1 : Option Addr} {k0_1 : Nat} {x0_1 : List (Int × Int)} {x1 : Int} {a2 : Option Addr} {k2 : Nat} {x2 : List Int} {r : (((List (List Int)) × (List Int) × (List Int)) × Int)} (hG : G ∈ Fs) (s0_1 : SlR (Rep.pair (Rep.int .i64) (Rep.int .i64)) G a0_1 k0_1 x0_1) (s2 : SlR (Rep.int .i64) G a2 k2 x2) (h : ref34_Plan (x0_0, x0_1) x1 x2 = some r) : RetW Try.prog 10 #[.agg #[.int .i64 x0_0, .slice a0_1 x0_1.length k0_1], .int .i64 x1, .slice a2 x2.length k2] Fs [] [] (fun v bo so G => ∃ a0 : Option Addr, ∃ k0 : Nat, ∃ a1 : Option Addr, ∃ k1 : Nat, ∃ a2 : Option Addr, ∃ k2 : Nat, v = .tuple #[.agg #[.slice a0 r.1.1.length k0, .slice a1 r.1.2.1.length k1, .slice a2 r.1.2.2.length k2], .int .i64 r.2] ∧ bo = [] ∧ so = [] ∧ SlR (Rep.sl (Rep.int .i64)) G a0 k0 r.1.1 ∧ SlR (Rep.int .i64) G a1 k1 r.1.2.1 ∧ SlR (Rep.int .i64) G a2 k2 r.1.2.2) := by
  unfold ref34_Plan at h
  try dsimp only at h
  refine RetW.of (vs := [_, _, _]) Try.func10 rfl Try.ntmps10 [(0, _), (1, _), (2, _)] ⟨rfl, rfl, rfl, trivial⟩ rfl hG fun w0 S0 hS0 B0 => ?_
  refine Cov.seq ?_
  refine Cov.region rfl ?_
  refine Cov.box [_, _] .ro rfl rfl rfl (fun b1 hb1 => ?_)
  refine Cov.alloc .ro ty37 rfl (fun b2 hb2 => ?_)
  refine Cov.q .ro (.assign rfl) rfl ?_
  refine Cov.region_end ?_
  refine Cov.seq ?_
  refine Cov.seq ?_
  refine Cov.region rfl ?_
  refine Cov.q .ro (.move rfl) rfl ?_
  refine Cov.q .ro (.lss rfl rfl) rfl ?_
  refine Cov.q .ro (.move rfl) rfl ?_
  refine Cov.cutR 3 (β := Unit) (fun y => [(22, .bool (decide ((x1 < 1) ∨ (1024 < x1))))]) [(1, _), (2, _), (3, _), (6, _)] (fun y => G :: Fs) (fun y => []) [_, _] (fun y => []) [] (fun y => True) ⟨rfl, rfl, rfl, rfl, trivial⟩ [0, 1] rfl [] rfl ?_ ?_
  · rintro _ _
    refine Cov.prune [(22, .bool (decide ((x1 < 1) ∨ (1024 < x1)))), (1, _), (2, _), (3, _), (6, _)] ⟨rfl, rfl, rfl, rfl, rfl, trivial⟩ ?_
    refine Cov.same (bl' := [_, _]) (sl' := []) (Fs' := G :: Fs) rfl rfl rfl ?_
    refine Cov.q .ro (.move rfl) rfl ?_
    refine Cov.cutR 4 (β := Unit) (fun y => [(27, .bool (decide (((x1 < 1) ∨ (1024 < x1)) ∨ ((x2.length : Int) = 0))))]) [(1, _), (2, _), (3, _), (6, _)] (fun y => G :: Fs) (fun y => []) [_, _] (fun y => []) [] (fun y => True) ⟨rfl, rfl, rfl, rfl, trivial⟩ [0, 1] rfl [] rfl ?_ ?_
    · rintro _ _
      refine Cov.prune [(27, .bool (decide (((x1 < 1) ∨ (1024 < x1)) ∨ ((x2.length : Int) = 0)))), (1, _), (2, _), (3, _), (6, _)] ⟨rfl, rfl, rfl, rfl, rfl, trivial⟩ ?_
      refine Cov.same (bl' := [_, _]) (sl' := []) (Fs' := G :: Fs) rfl rfl rfl ?_
      refine Cov.region_end ?_
      refine Cov.cond_dec rfl (fun c11 => ?_) (fun c11 => ?_)
      · have r12 := ifT h c11; clear h
        refine Cov.seq ?_
        refine Cov.region rfl ?_
        refine Cov.q .ro (.build [_, _, _] [] ty37 pl37 rfl rfl) rfl ?_
        refine Cov.store 0 [_, _, _] [_, _] .ro rfl rfl rfl ty37 rfl rfl rfl rfl ?_
        refine Cov.q .ro (.assign rfl) rfl ?_
        refine Cov.region_end ?_
        cases r12
        refine Cov.retWD 2 (c := ⟨10, none⟩) (.inr ⟨_, rfl⟩) [.cell 6 37, .tmp 7] [_, _] rfl Try.func10 Try.results10 ⟨RV.cell_a 0 [_, _, _] rfl rfl ty37 rfl, RV.tmp rfl, trivial⟩ (fun _ h => List.mem_cons_of_mem _ h) List.mem_cons_self B0 (by subst hS0; simp [blks]) (fun G' hg => ⟨none, 0, none, 0, none, 0, rfl, rfl, rfl, (SlR.mono hg (SlR.nil (Rp' := (Rep.sl (Rep.int .i64))))), (SlR.mono hg (SlR.nil (Rp' := (Rep.int .i64)))), (SlR.mono hg (SlR.nil (Rp' := (Rep.int .i64))))⟩)
      · have r13 := ifF h c11; clear h
        refine Cov.skip ?_
        refine Cov.seq ?_
        refine Cov.seq ?_
        refine Cov.region rfl ?_
        refine Cov.q .ro (.assign rfl) rfl ?_
        refine Cov.region_end ?_
        refine Cov.cutB (β := Int) (fun y => []) [(1, _), (2, _), (3, _), (6, _)] (fun y => G :: Fs) (fun y => [(b1, .cells #[.int .i64 y, .slice a0_1 x0_1.length k0_1] 28 (0, 0))]) [_] (fun y => []) [] (fun y => (ref34_Plan_J6 x1 x2 x0_1) y = some r) ⟨rfl, rfl, rfl, rfl, trivial⟩ [0] rfl [] rfl ?_ ?_
        · intro v88 hI
          have r90 := hI; clear hI
          refine Cov.prune [(1, _), (2, _), (3, _), (6, _)] ⟨rfl, rfl, rfl, rfl, trivial⟩ ?_
          refine Cov.same (bl' := [(b1, .cells #[.int .i64 v88, .slice a0_1 x0_1.length k0_1] 28 (0, 0)), _]) (sl' := []) (Fs' := G :: Fs) rfl rfl rfl ?_
          unfold ref34_Plan_J6 at r90
          try dsimp only at r90
          refine Cov.seq ?_
          refine Cov.region rfl ?_
          refine Cov.q .ro (.load_own_a 0 [_, _] rfl rfl ty28 rfl) rfl ?_
          refine Cov.q .ro (.move rfl) rfl ?_
          obtain ⟨u94, hu94, r95⟩ := bind_some r90; clear r90
          refine Cov.callW (b1 := []) (b2 := [_, _]) (s1 := []) [_, _] [] .ro rfl rfl Try.call23 rfl rfl (ref19_Layout_c (G := G) List.mem_cons_self s0_1 hu94) rfl B0 (fun v97 bo so G98 e99 B100 h96 => ?_)
          obtain ⟨a102, k103, rfl, rfl, rfl, s104⟩ := h96
          refine Cov.same (bl' := [_, _]) (sl' := []) rfl rfl rfl ?_
          refine Cov.q .ro (.move rfl) rfl ?_
          refine Cov.q .ro (.extract rfl rfl) rfl ?_
          refine Cov.q .ro (.extract rfl rfl) rfl ?_
          refine Cov.q .ro (.assign rfl) rfl ?_
          refine Cov.q .ro (.assign rfl) rfl ?_
          refine Cov.region_end ?_
          refine Cov.seq ?_
          refine Cov.seq ?_
          refine Cov.region rfl ?_
          refine Cov.q .ro (.move rfl) rfl ?_
          refine Cov.q .ro (.neq rfl rfl) rfl ?_
          refine Cov.region_end ?_
          refine Cov.cond_dec rfl (fun c105 => ?_) (fun c105 => ?_)
          · have r106 := ifT r95 c105; clear r95
            refine Cov.seq ?_
            refine Cov.region rfl ?_
            refine Cov.q .ro (.build [_, _, _] [] ty37 pl37 rfl rfl) rfl ?_
            refine Cov.q .ro (.move rfl) rfl ?_
            refine Cov.store 1 [_, _, _] [_, _] .ro rfl rfl rfl ty37 rfl rfl rfl rfl ?_
            refine Cov.q .ro (.assign rfl) rfl ?_
            refine Cov.region_end ?_
            refine Cov.prune [(6, _), (7, _)] ⟨rfl, rfl, trivial⟩ ?_
            cases r106
            refine Cov.retWD 2 (c := ⟨10, none⟩) (.inr ⟨_, rfl⟩) [.cell 6 37, .tmp 7] [_, _] rfl Try.func10 Try.results10 ⟨RV.cell_a 1 [_, _, _] rfl rfl ty37 rfl, RV.tmp rfl, trivial⟩ (fun _ h => List.mem_cons_of_mem _ h) List.mem_cons_self B100 (by subst hS0; simp [blks]) (fun G' hg => ⟨none, 0, none, 0, none, 0, rfl, rfl, rfl, (SlR.mono hg (SlR.nil (Rp' := (Rep.sl (Rep.int .i64))))), (SlR.mono hg (SlR.nil (Rp' := (Rep.int .i64)))), (SlR.mono hg (SlR.nil (Rp' := (Rep.int .i64))))⟩)
          · have r107 := ifF r95 c105; clear r95
            refine Cov.skip ?_
            refine Cov.seq ?_
            refine Cov.region rfl ?_
            refine Cov.q .ro (.load_own_a 0 [_, _] rfl rfl ty28 rfl) rfl ?_
            refine Cov.q .ro (.move rfl) rfl ?_
            obtain ⟨u108, hu108, r109⟩ := bind_some r107; clear r107
            refine Cov.callW (b1 := []) (b2 := [_, _]) (s1 := []) [_, _] [] .ro rfl rfl Try.call11 rfl rfl (ref19_Assign_c (G := G98) List.mem_cons_self (SlR.mono e99 s0_1) (SlR.mono e99 s2) hu108) rfl B100 (fun v111 bo so G112 e113 B114 h110 => ?_)
            obtain ⟨a116, k117, rfl, rfl, rfl, s118⟩ := h110
            refine Cov.same (bl' := [_, _]) (sl' := []) rfl rfl rfl ?_
            refine Cov.q .ro (.move rfl) rfl ?_
            refine Cov.q .ro (.extract rfl rfl) rfl ?_
            refine Cov.q .ro (.extract rfl rfl) rfl ?_
            refine Cov.alloc .ro ty41 rfl (fun b119 hb119 => ?_)
            refine Cov.store 0 [_] [_, _, _] .ro rfl rfl rfl ty41 rfl rfl rfl rfl ?_
            refine Cov.q .ro (.assign rfl) rfl ?_
            refine Cov.region_end ?_
            refine Cov.prune [(2, _), (6, _), (9, _), (10, _), (11, _)] ⟨rfl, rfl, rfl, rfl, rfl, trivial⟩ ?_
            refine Cov.seq ?_
            refine Cov.seq ?_
            refine Cov.region rfl ?_
            refine Cov.q .ro (.move rfl) rfl ?_
            refine Cov.q .ro (.neq rfl rfl) rfl ?_
            refine Cov.region_end ?_
            refine Cov.cond_dec rfl (fun c120 => ?_) (fun c120 => ?_)
            · have r121 := ifT r109 c120; clear r109
              refine Cov.seq ?_
              refine Cov.region rfl ?_
              refine Cov.q .ro (.build [_, _, _] [] ty37 pl37 rfl rfl) rfl ?_
              refine Cov.q .ro (.move rfl) rfl ?_
              refine Cov.store 2 [_, _, _] [_, _, _] .ro rfl rfl rfl ty37 rfl rfl rfl rfl ?_
              refine Cov.q .ro (.assign rfl) rfl ?_
              refine Cov.region_end ?_
              cases r121
              refine Cov.retWD 3 (c := ⟨10, none⟩) (.inr ⟨_, rfl⟩) [.cell 6 37, .tmp 7] [_, _] rfl Try.func10 Try.results10 ⟨RV.cell_a 2 [_, _, _] rfl rfl ty37 rfl, RV.tmp rfl, trivial⟩ (fun _ h => List.mem_cons_of_mem _ h) List.mem_cons_self B114 (by subst hS0; simp [blks]) (fun G' hg => ⟨none, 0, none, 0, none, 0, rfl, rfl, rfl, (SlR.mono hg (SlR.nil (Rp' := (Rep.sl (Rep.int .i64))))), (SlR.mono hg (SlR.nil (Rp' := (Rep.int .i64)))), (SlR.mono hg (SlR.nil (Rp' := (Rep.int .i64))))⟩)
            · have r122 := ifF r109 c120; clear r109
              refine Cov.skip ?_
              refine Cov.seq ?_
              refine Cov.region rfl ?_
              refine Cov.q .ro (.move rfl) rfl ?_
              refine Cov.q .ro (.build [_, _, _] [(0, _)] ty37 pl37 rfl rfl) rfl ?_
              refine Cov.alloc .ro ty37 rfl (fun b123 hb123 => ?_)
              refine Cov.store 0 [_, _, _] [_, _, _, _] .ro rfl rfl rfl ty37 rfl rfl rfl rfl ?_
              refine Cov.region_end ?_
              refine Cov.seq ?_
              refine Cov.seq ?_
              refine Cov.region rfl ?_
              refine Cov.q .ro (.assign rfl) rfl ?_
              refine Cov.region_end ?_
              refine Cov.cutB (β := List Int × Option Addr × Nat × List Value × List Int × Option Addr × Nat × List Value × Int) (fun y => []) [(6, _), (12, _)] (fun y => G112 :: Fs) (fun y => [(b123, .cells #[.slice a102 u94.1.length k103, .slice y.2.1 y.1.length y.2.2.1, .slice y.2.2.2.2.2.1 y.2.2.2.2.1.length y.2.2.2.2.2.2.1] 37 (0, 0)), (b1, .cells #[.int .i64 y.2.2.2.2.2.2.2.2, .slice a0_1 x0_1.length k0_1] 28 (0, 0))]) [_, _] (fun y => [.s (.slice y.2.1 y.1.length y.2.2.1) 3 1 y.1.length y.2.2.2.1, .s (.slice y.2.2.2.2.2.1 y.2.2.2.2.1.length y.2.2.2.2.2.2.1) 3 1 y.2.2.2.2.1.length y.2.2.2.2.2.2.2.1]) [] (fun y => OL (Rep.int .i64) G112 y.2.2.2.1 y.1 ∧ OL (Rep.int .i64) G112 y.2.2.2.2.2.2.2.1 y.2.2.2.2.1 ∧ (ref34_Plan_J1 u94.1) y.1 y.2.2.2.2.1 y.2.2.2.2.2.2.2.2 = some r) ⟨rfl, rfl, trivial⟩ [1, 3] rfl [] rfl ?_ ?_
              · intro y hI
                obtain ⟨v13212, a13213, k13214, cs13215, v13218, a13219, k13220, cs13221, v13224⟩ := y
                obtain ⟨o13216, o13222, r13226⟩ := hI
                try dsimp only at o13216 o13222 r13226
                refine Cov.prune [(6, _), (12, _)] ⟨rfl, rfl, trivial⟩ ?_
                refine Cov.same (bl' := [(b123, .cells #[.slice a102 u94.1.length k103, .slice a13213 v13212.length k13214, .slice a13219 v13218.length k13220] 37 (0, 0)), (b1, .cells #[.int .i64 v13224, .slice a0_1 x0_1.length k0_1] 28 (0, 0)), _, _]) (sl' := [.s (.slice a13213 v13212.length k13214) 3 1 v13212.length cs13215, .s (.slice a13219 v13218.length k13220) 3 1 v13218.length cs13221]) (Fs' := G112 :: Fs) rfl rfl rfl ?_
                unfold ref34_Plan_J1 at r13226
                try dsimp only at r13226
                refine Cov.seq ?_
                refine Cov.region rfl ?_
                refine Cov.q .ro (.load_own_a 0 [_, _, _] rfl rfl ty37 rfl) rfl ?_
                refine Cov.store 3 [_, _, _] [_, _, _, _] .ro rfl rfl rfl ty37 rfl rfl rfl rfl ?_
                refine Cov.q .ro (.assign rfl) rfl ?_
                refine Cov.region_end ?_
                refine Cov.freezeR 0 rfl rfl o13216 [_] rfl B114 (fun G13230 e13231 B13232 s13233 => ?_)
                refine Cov.freezeR 0 rfl rfl (OL.mono e13231 o13222) [] rfl B13232 (fun G13235 e13236 B13237 s13238 => ?_)
                cases r13226
                refine Cov.retWD 4 (c := ⟨10, none⟩) (.inr ⟨_, rfl⟩) [.cell 6 37, .tmp 7] [_, _] rfl Try.func10 Try.results10 ⟨RV.cell_a 3 [_, _, _] rfl rfl ty37 rfl, RV.tmp rfl, trivial⟩ (fun _ h => List.mem_cons_of_mem _ h) List.mem_cons_self B13237 (by subst hS0; simp [blks]) (fun G' hg => ⟨a102, k103, a13213, k13214, a13219, k13220, rfl, rfl, rfl, (SlR.mono hg (SlR.mono (HpLe.trans (HpLe.trans e113 e13231) e13236) s104)), (SlR.mono hg (SlR.mono e13236 s13233)), (SlR.mono hg s13238)⟩)
              · intro hb13240
                refine Cov.block ?_
                refine Cov.own_nil 3 1 ?_
                refine Cov.own_nil 3 1 ?_
                refine Cov.pull 2 rfl [_, _, _, _] rfl ?_
                refine Cov.pull 1 rfl [_, _, _, _] rfl ?_
                refine Cov.pullS 1 rfl [_, _] rfl ?_
                refine Cov.loop2 (α := Nat × Int × List Int × Option Addr × Nat × List Value × List Int × Option Addr × Nat × List Value × Int) (fun y => [(13, .int .i64 y.2.1)]) [(2, _), (6, _), (9, _), (11, _), (12, _)] (fun y => []) (fun y => [(b123, .cells #[.slice a102 u94.1.length k103, .slice y.2.2.2.1 y.2.2.1.length y.2.2.2.2.1, .slice y.2.2.2.2.2.2.2.1 y.2.2.2.2.2.2.1.length y.2.2.2.2.2.2.2.2.1] 37 (0, 0)), (b1, .cells #[.int .i64 y.2.2.2.2.2.2.2.2.2.2, .slice a0_1 x0_1.length k0_1] 28 (0, 0))]) [_, _] (fun y => [.s (.slice y.2.2.2.1 y.2.2.1.length y.2.2.2.2.1) 3 1 y.2.2.1.length y.2.2.2.2.2.1, .s (.slice y.2.2.2.2.2.2.2.1 y.2.2.2.2.2.2.1.length y.2.2.2.2.2.2.2.2.1) 3 1 y.2.2.2.2.2.2.1.length y.2.2.2.2.2.2.2.2.2.1]) [] (fun y => OL (Rep.int .i64) G112 y.2.2.2.2.2.1 y.2.2.1 ∧ OL (Rep.int .i64) G112 y.2.2.2.2.2.2.2.2.2.1 y.2.2.2.2.2.2.1 ∧ ref34_Plan_L5 (ref34_Plan_J1 u94.1) x2 u94.1 u108.1 y.1 y.2.1 y.2.2.1 y.2.2.2.2.2.2.1 y.2.2.2.2.2.2.2.2.2.2 = some r) (fun y => y.1) (big, 0, ([] : List Int), none, 0, [], ([] : List Int), none, 0, [], v88) ⟨(OL.nil (Rp' := (Rep.int .i64))), (OL.nil (Rp' := (Rep.int .i64))), r122⟩ ⟨rfl, rfl, rfl, rfl, rfl, rfl, trivial⟩ rfl rfl rfl (fun y hI hb21967 => ?_)
                obtain ⟨n21950, v21952, v21953, a21954, k21955, cs21956, v21959, a21960, k21961, cs21962, v21965⟩ := y
                obtain ⟨o21957, o21963, r21966⟩ := hI
                try dsimp only at o21957 o21963 r21966
                refine Cov.prune [(13, .int .i64 v21952), (2, _), (6, _), (9, _), (11, _), (12, _)] ⟨rfl, rfl, rfl, rfl, rfl, rfl, trivial⟩ ?_
                refine Cov.same (bl' := [(b123, .cells #[.slice a102 u94.1.length k103, .slice a21954 v21953.length k21955, .slice a21960 v21959.length k21961] 37 (0, 0)), (b1, .cells #[.int .i64 v21965, .slice a0_1 x0_1.length k0_1] 28 (0, 0)), _, _]) (sl' := [.s (.slice a21954 v21953.length k21955) 3 1 v21953.length cs21956, .s (.slice a21960 v21959.length k21961) 3 1 v21959.length cs21962]) (Fs' := G112 :: Fs) rfl rfl rfl ?_
                obtain ⟨m21973, rfl⟩ : ∃ m, n21950 = m + 1 := by cases n21950 with | zero => exact absurd (show (none : Option _) = some _ from r21966) (by simp) | succ m => exact ⟨m, rfl⟩
                have r21972 : ref34_Plan_B5 (ref34_Plan_J1 u94.1) x2 u94.1 u108.1 (ref34_Plan_L5 (ref34_Plan_J1 u94.1) x2 u94.1 u108.1 m21973) v21952 v21953 v21959 v21965 = some r := r21966; clear r21966; unfold ref34_Plan_B5 at r21972; try dsimp only at r21972
                refine Cov.seq ?_
                refine Cov.seq ?_
                refine Cov.region rfl ?_
                refine Cov.q .ro (.move rfl) rfl ?_
                refine Cov.q .ro (.move rfl) rfl ?_
                refine Cov.q .ro (.len_sl rfl rfl sl34) rfl ?_
                refine Cov.q .ro (.lss rfl rfl) rfl ?_
                refine Cov.region_end ?_
                refine Cov.cond_dec rfl (fun c21974 => ?_) (fun c21974 => ?_)
                · have r21975 := ifT r21972 c21974; clear r21972
                  refine Cov.skip ?_
                  refine Cov.seq ?_
                  refine Cov.block ?_
                  refine Cov.seq ?_
                  refine Cov.drawL (.q 0 (.q 1 (.q 2 (.q 3 (.q 4 (.q 5 (.q 6 .nil))))))) [_, _, _, _] (by kernel_rfl) (by kernel_rfl) (pick_mem [0, 1, 2, 3] rfl) ?_
                  refine Cov.dq (.fieldAddr 0 rfl fl41_0 ty35.sz rfl) rfl ?_
                  refine Cov.dq (.load_own 2 rfl rfl ty35 rfl) rfl ?_
                  refine Cov.dq (.move rfl) rfl ?_
                  obtain ⟨u21976, hu21976, r21977⟩ := bind_some r21975; clear r21975
                  obtain ⟨c21978, p21979, h21980⟩ := SlR.get s118 hu21976
                  obtain rfl := h21980
                  refine Cov.dq (.idxR s118 rfl rfl hu21976 sl35 ty3.sz) rfl ?_
                  refine Cov.dq (.load_rp p21979 List.mem_cons_self rfl ty3 rfl) rfl ?_
                  refine Cov.dq (.assign rfl) rfl ?_
                  refine Cov.dq (.assign rfl) rfl ?_
                  refine Cov.draw_end ?_
                  refine Cov.seq ?_
                  refine Cov.seq ?_
                  refine Cov.region rfl ?_
                  refine Cov.q .ro (.move rfl) rfl ?_
                  refine Cov.q .ro (.move rfl) rfl ?_
                  obtain ⟨u21981, hu21981, r21982⟩ := bind_some r21977; clear r21977
                  obtain ⟨c21983, p21984, h21985⟩ := SlR.get (SlR.mono e113 s104) hu21981
                  obtain ⟨a21986, k21987, rfl, s21988⟩ := h21985
                  refine Cov.q .ro (.idxR (SlR.mono e113 s104) rfl rfl hu21981 sl34 ty35.sz) rfl ?_
                  refine Cov.q .ro (.load_rp p21984 List.mem_cons_self rfl ty35 rfl) rfl ?_
                  refine Cov.q .ro (.len_sl rfl rfl sl35) rfl ?_
                  refine Cov.q .ro (.eql rfl rfl) rfl ?_
                  refine Cov.region_end ?_
                  refine Cov.prune [(13, _), (2, _), (6, _), (9, _), (11, _), (12, _), (14, _), (15, _), (87, _)] ⟨rfl, rfl, rfl, rfl, rfl, rfl, rfl, rfl, rfl, trivial⟩ ?_
                  refine Cov.cutI (β := Int) (fun y => [(14, .int .i64 y)]) [(13, _), (2, _), (6, _), (9, _), (11, _), (12, _), (15, _)] (fun y => G112 :: Fs) (fun y => []) [_, _, _, _] (fun y => []) [_, _] (fun y => (ref34_Plan_J4 (ref34_Plan_L5 (ref34_Plan_J1 u94.1) x2 u94.1 u108.1 m21973) v21952 x2 u94.1 u21976 v21965 v21953 v21959) y = some r) ⟨rfl, rfl, rfl, rfl, rfl, rfl, rfl, trivial⟩ [0, 1, 2, 3] rfl [0, 1] rfl ?_ ?_
                  · intro v21993 hI
                    have r21995 := hI; clear hI
                    refine Cov.prune [(14, .int .i64 v21993), (13, _), (2, _), (6, _), (9, _), (11, _), (12, _), (15, _)] ⟨rfl, rfl, rfl, rfl, rfl, rfl, rfl, rfl, trivial⟩ ?_
                    refine Cov.same (bl' := [_, _, _, _]) (sl' := [_, _]) (Fs' := G112 :: Fs) rfl rfl rfl ?_
                    unfold ref34_Plan_J4 at r21995
                    try dsimp only at r21995
                    refine Cov.seq ?_
                    refine Cov.seq ?_
                    refine Cov.region rfl ?_
                    refine Cov.q .ro (.assign rfl) rfl ?_
                    refine Cov.region_end ?_
                    refine Cov.cutB (β := Int × Int) (fun y => [(14, .int .i64 y.1)]) [(13, _), (2, _), (6, _), (9, _), (11, _), (12, _), (15, _)] (fun y => G112 :: Fs) (fun y => [(b1, .cells #[.int .i64 y.2, .slice a0_1 x0_1.length k0_1] 28 (0, 0))]) [_, _, _] (fun y => []) [_, _] (fun y => (ref34_Plan_J2 (ref34_Plan_L5 (ref34_Plan_J1 u94.1) x2 u94.1 u108.1 m21973) v21952 u21976 v21953 v21959) y.1 y.2 = some r) ⟨rfl, rfl, rfl, rfl, rfl, rfl, rfl, trivial⟩ [0, 2, 3] rfl [0, 1] rfl ?_ ?_
                    · intro y hI
                      obtain ⟨v22144, v22145⟩ := y
                      have r22147 := hI; clear hI
                      try dsimp only at r22147
                      refine Cov.prune [(14, .int .i64 v22144), (13, _), (2, _), (6, _), (9, _), (11, _), (12, _), (15, _)] ⟨rfl, rfl, rfl, rfl, rfl, rfl, rfl, rfl, trivial⟩ ?_
                      refine Cov.same (bl' := [(b1, .cells #[.int .i64 v22145, .slice a0_1 x0_1.length k0_1] 28 (0, 0)), _, _, _]) (sl' := [_, _]) (Fs' := G112 :: Fs) rfl rfl rfl ?_
                      unfold ref34_Plan_J2 at r22147
                      try dsimp only at r22147
                      refine Cov.drawL (.q 0 (.q 1 (.q 2 (.q 5 (.q 6 (.q 7 (.alt (.e 3 1 (.alt (.e 4 1 (.q 10 (.e 8 1 (.e 9 1 (.e 11 2 (.e 12 2 (.e 13 2 .nil))))))) (.e 8 1 (.e 4 1 (.q 10 (.e 9 1 (.e 11 2 (.e 12 2 (.e 13 2 .nil))))))))) (.e 8 1 (.e 3 1 (.e 4 1 (.q 10 (.e 9 1 (.e 11 2 (.e 12 2 (.e 13 2 .nil))))))))))))))) [_, _, _, _] (by kernel_rfl) (by kernel_rfl) (pick_mem [0, 1, 2, 3] rfl) ?_
                      obtain ⟨u22163, hu22163, r22174⟩ := bind_some r22147; clear r22147
                      obtain ⟨u22172, hu22172, r22175⟩ := bind_some r22174; clear r22174
                      refine Cov.dq (.fieldAddr 1 rfl fl37_1 ty35.sz rfl) rfl ?_
                      refine Cov.dq (.load_own 1 rfl rfl ty35 rfl) rfl ?_
                      refine Cov.dq (.move rfl) rfl ?_
                      refine Cov.dq (.fieldAddr 2 rfl fl37_2 ty35.sz rfl) rfl ?_
                      refine Cov.dq (.load_own 1 rfl rfl ty35 rfl) rfl ?_
                      refine Cov.dq (.move rfl) rfl ?_
                      refine Cov.alt ?_ ?_
                      · refine Cov.lit [_] [(0, _)] .d1 sl35 ty3 rfl rfl rfl rfl rfl rfl (fun b22176 hb22176 => ?_)
                        have o22177 : OL (Rep.int .i64) G112 [.int .i64 v22144] ([v22144] : List Int) := ((OL.cons rfl (Rep.intI .i64 v22144) (OL.nil (Rp' := (Rep.int .i64)))) :)
                        refine Cov.reval 117 (n' := ([v22144] : List Int).length) rfl rfl ?_
                        refine Cov.clsL (HpLe.refl _) (pick_mem [0, 1, 2, 3] rfl) ?_
                        refine Cov.alt ?_ ?_
                        · refine Cov.appO (Q := (Rep.int .i64)) 0 .d1 sl35 ty3 rfl rfl rfl rfl rfl rfl o21957 o22177 rfl rfl rfl B114 hu22163 rfl (fun a22179 k22180 cs22181 o22182 => ?_)
                          refine Cov.clsL (HpLe.refl _) (pick_mem [0, 1, 2, 3] rfl) ?_
                          refine Cov.dq (.fieldAddr 1 rfl fl37_1 ty35.sz rfl) rfl ?_
                          refine Cov.lit [_] [(0, _)] .d1 sl35 ty3 rfl rfl rfl rfl rfl rfl (fun b22184 hb22184 => ?_)
                          have o22185 : OL (Rep.int .i64) G112 [.int .i64 u21976] ([u21976] : List Int) := ((OL.cons rfl (Rep.intI .i64 u21976) (OL.nil (Rp' := (Rep.int .i64)))) :)
                          refine Cov.reval 122 (n' := ([u21976] : List Int).length) rfl rfl ?_
                          refine Cov.clsL (HpLe.refl _) (pick_mem [0, 1, 2, 3] rfl) ?_
                          refine Cov.appO (Q := (Rep.int .i64)) 1 .d1 sl35 ty3 rfl rfl rfl rfl rfl rfl o21963 o22185 rfl rfl rfl B114 hu22172 rfl (fun a22187 k22188 cs22189 o22190 => ?_)
                          refine Cov.clsL (HpLe.refl _) (pick_mem [0, 1, 2, 3] rfl) ?_
                          refine Cov.store 1 [_, _, _] [_, _, _, _] .d2 rfl rfl rfl ty35 rfl rfl rfl rfl ?_
                          refine Cov.q .d2 (.fieldAddr 2 rfl fl37_2 ty35.sz rfl) rfl ?_
                          refine Cov.store 1 [_, _, _] [_, _, _, _] .d2 rfl rfl rfl ty35 rfl rfl rfl rfl ?_
                          refine Cov.draw_end ?_
                          refine Cov.prune [(13, _), (2, _), (6, _), (9, _), (11, _), (12, _)] ⟨rfl, rfl, rfl, rfl, rfl, rfl, trivial⟩ ?_
                          refine Cov.inBlock ?_
                          refine Cov.region rfl ?_
                          refine Cov.q .ro (.move rfl) rfl ?_
                          refine Cov.q .ro (.addw rfl rfl) rfl ?_
                          refine Cov.q .ro (.assign rfl) rfl ?_
                          refine Cov.region_end ?_
                          refine Cov.pull 3 rfl [_, _, _, _] rfl ?_
                          refine Cov.pull 3 rfl [_, _, _, _] rfl ?_
                          refine Cov.pull 2 rfl [_, _, _, _] rfl ?_
                          refine Cov.pull 3 rfl [_, _, _, _] rfl ?_
                          refine Cov.prune _ ?_ (Cov.same rfl rfl rfl (hb21967 (m21973, (w64 (v21952 + 1)), u22163, a22179, k22180, cs22181, u22172, a22187, k22188, cs22189, v22145) ⟨o22182, o22190, r22175⟩ (Nat.lt_succ_self _)))
                          exact ⟨rfl, rfl, rfl, rfl, rfl, rfl, trivial⟩
                        · refine Cov.lit [_] [(0, _)] .d1 sl35 ty3 rfl rfl rfl rfl rfl rfl (fun b22192 hb22192 => ?_)
                          have o22193 : OL (Rep.int .i64) G112 [.int .i64 u21976] ([u21976] : List Int) := ((OL.cons rfl (Rep.intI .i64 u21976) (OL.nil (Rp' := (Rep.int .i64)))) :)
                          refine Cov.reval 122 (n' := ([u21976] : List Int).length) rfl rfl ?_
                          refine Cov.clsL (HpLe.refl _) (pick_mem [0, 1, 2, 3] rfl) ?_
                          refine Cov.pullS 1 rfl [_, _, _, _] rfl ?_
                          refine Cov.appO (Q := (Rep.int .i64)) 1 .d1 sl35 ty3 rfl rfl rfl rfl rfl rfl o21957 o22177 rfl rfl rfl B114 hu22163 rfl (fun a22195 k22196 cs22197 o22198 => ?_)
                          refine Cov.clsL (HpLe.refl _) (pick_mem [0, 1, 2, 3] rfl) ?_
                          refine Cov.dq (.fieldAddr 1 rfl fl37_1 ty35.sz rfl) rfl ?_
                          refine Cov.appO (Q := (Rep.int .i64)) 1 .d1 sl35 ty3 rfl rfl rfl rfl rfl rfl o21963 o22193 rfl rfl rfl B114 hu22172 rfl (fun a22200 k22201 cs22202 o22203 => ?_)
                          refine Cov.clsL (HpLe.refl _) (pick_mem [0, 1, 2, 3] rfl) ?_
                          refine Cov.store 1 [_, _, _] [_, _, _, _] .d2 rfl rfl rfl ty35 rfl rfl rfl rfl ?_
                          refine Cov.q .d2 (.fieldAddr 2 rfl fl37_2 ty35.sz rfl) rfl ?_
                          refine Cov.store 1 [_, _, _] [_, _, _, _] .d2 rfl rfl rfl ty35 rfl rfl rfl rfl ?_
                          refine Cov.draw_end ?_
                          refine Cov.prune [(13, _), (2, _), (6, _), (9, _), (11, _), (12, _)] ⟨rfl, rfl, rfl, rfl, rfl, rfl, trivial⟩ ?_
                          refine Cov.inBlock ?_
                          refine Cov.region rfl ?_
                          refine Cov.q .ro (.move rfl) rfl ?_
                          refine Cov.q .ro (.addw rfl rfl) rfl ?_
                          refine Cov.q .ro (.assign rfl) rfl ?_
                          refine Cov.region_end ?_
                          refine Cov.pull 3 rfl [_, _, _, _] rfl ?_
                          refine Cov.pull 3 rfl [_, _, _, _] rfl ?_
                          refine Cov.pull 2 rfl [_, _, _, _] rfl ?_
                          refine Cov.pull 3 rfl [_, _, _, _] rfl ?_
                          refine Cov.prune _ ?_ (Cov.same rfl rfl rfl (hb21967 (m21973, (w64 (v21952 + 1)), u22163, a22195, k22196, cs22197, u22172, a22200, k22201, cs22202, v22145) ⟨o22198, o22203, r22175⟩ (Nat.lt_succ_self _)))
                          exact ⟨rfl, rfl, rfl, rfl, rfl, rfl, trivial⟩
                      · refine Cov.lit [_] [(0, _)] .d1 sl35 ty3 rfl rfl rfl rfl rfl rfl (fun b22205 hb22205 => ?_)
                        have o22206 : OL (Rep.int .i64) G112 [.int .i64 u21976] ([u21976] : List Int) := ((OL.cons rfl (Rep.intI .i64 u21976) (OL.nil (Rp' := (Rep.int .i64)))) :)
                        refine Cov.reval 122 (n' := ([u21976] : List Int).length) rfl rfl ?_
                        refine Cov.clsL (HpLe.refl _) (pick_mem [0, 1, 2, 3] rfl) ?_
                        refine Cov.lit [_] [(0, _)] .d1 sl35 ty3 rfl rfl rfl rfl rfl rfl (fun b22208 hb22208 => ?_)
                        have o22209 : OL (Rep.int .i64) G112 [.int .i64 v22144] ([v22144] : List Int) := ((OL.cons rfl (Rep.intI .i64 v22144) (OL.nil (Rp' := (Rep.int .i64)))) :)
                        refine Cov.reval 117 (n' := ([v22144] : List Int).length) rfl rfl ?_
                        refine Cov.clsL (HpLe.refl _) (pick_mem [0, 1, 2, 3] rfl) ?_
                        refine Cov.appO (Q := (Rep.int .i64)) 1 .d1 sl35 ty3 rfl rfl rfl rfl rfl rfl o21957 o22209 rfl rfl rfl B114 hu22163 rfl (fun a22211 k22212 cs22213 o22214 => ?_)
                        refine Cov.clsL (HpLe.refl _) (pick_mem [0, 1, 2, 3] rfl) ?_
                        refine Cov.dq (.fieldAddr 1 rfl fl37_1 ty35.sz rfl) rfl ?_
                        refine Cov.appO (Q := (Rep.int .i64)) 1 .d1 sl35 ty3 rfl rfl rfl rfl rfl rfl o21963 o22206 rfl rfl rfl B114 hu22172 rfl (fun a22216 k22217 cs22218 o22219 => ?_)
                        refine Cov.clsL (HpLe.refl _) (pick_mem [0, 1, 2, 3] rfl) ?_
                        refine Cov.store 1 [_, _, _] [_, _, _, _] .d2 rfl rfl rfl ty35 rfl rfl rfl rfl ?_
                        refine Cov.q .d2 (.fieldAddr 2 rfl fl37_2 ty35.sz rfl) rfl ?_
                        refine Cov.store 1 [_, _, _] [_, _, _, _] .d2 rfl rfl rfl ty35 rfl rfl rfl rfl ?_
                        refine Cov.draw_end ?_
                        refine Cov.prune [(13, _), (2, _), (6, _), (9, _), (11, _), (12, _)] ⟨rfl, rfl, rfl, rfl, rfl, rfl, trivial⟩ ?_
                        refine Cov.inBlock ?_
                        refine Cov.region rfl ?_
                        refine Cov.q .ro (.move rfl) rfl ?_
                        refine Cov.q .ro (.addw rfl rfl) rfl ?_
                        refine Cov.q .ro (.assign rfl) rfl ?_
                        refine Cov.region_end ?_
                        refine Cov.pull 3 rfl [_, _, _, _] rfl ?_
                        refine Cov.pull 3 rfl [_, _, _, _] rfl ?_
                        refine Cov.pull 2 rfl [_, _, _, _] rfl ?_
                        refine Cov.pull 3 rfl [_, _, _, _] rfl ?_
                        refine Cov.prune _ ?_ (Cov.same rfl rfl rfl (hb21967 (m21973, (w64 (v21952 + 1)), u22163, a22211, k22212, cs22213, u22172, a22216, k22217, cs22218, v22145) ⟨o22214, o22219, r22175⟩ (Nat.lt_succ_self _)))
                        exact ⟨rfl, rfl, rfl, rfl, rfl, rfl, trivial⟩
                    · intro hb26186
                      refine Cov.block ?_
                      refine Cov.loop2 (α := Nat × Int × Int) (fun y => [(14, .int .i64 y.2.1), (16, .int .i64 y.2.2)]) [(13, _), (2, _), (6, _), (9, _), (11, _), (12, _), (15, _)] (fun y => []) (fun y => []) [_, _, _, _] (fun y => []) [_, _] (fun y => ref34_Plan_L3 (ref34_Plan_J2 (ref34_Plan_L5 (ref34_Plan_J1 u94.1) x2 u94.1 u108.1 m21973) v21952 u21976 v21953 v21959) v21952 x2 u94.1 u21976 v21965 y.1 y.2.1 y.2.2 = some r) (fun y => y.1) (big, v21993, 0) r21995 ⟨rfl, rfl, rfl, rfl, rfl, rfl, rfl, rfl, rfl, trivial⟩ rfl rfl rfl (fun y hI hb26255 => ?_)
                      obtain ⟨n26250, v26252, v26253⟩ := y
                      have r26254 := hI; clear hI
                      try dsimp only at r26254
                      refine Cov.prune [(14, .int .i64 v26252), (16, .int .i64 v26253), (13, _), (2, _), (6, _), (9, _), (11, _), (12, _), (15, _)] ⟨rfl, rfl, rfl, rfl, rfl, rfl, rfl, rfl, rfl, trivial⟩ ?_
                      refine Cov.same (bl' := [_, _, _, _]) (sl' := [_, _]) (Fs' := G112 :: Fs) rfl rfl rfl ?_
                      obtain ⟨m26266, rfl⟩ : ∃ m, n26250 = m + 1 := by cases n26250 with | zero => exact absurd (show (none : Option _) = some _ from r26254) (by simp) | succ m => exact ⟨m, rfl⟩
                      have r26265 : ref34_Plan_B3 (ref34_Plan_J2 (ref34_Plan_L5 (ref34_Plan_J1 u94.1) x2 u94.1 u108.1 m21973) v21952 u21976 v21953 v21959) v21952 x2 u94.1 u21976 v21965 (ref34_Plan_L3 (ref34_Plan_J2 (ref34_Plan_L5 (ref34_Plan_J1 u94.1) x2 u94.1 u108.1 m21973) v21952 u21976 v21953 v21959) v21952 x2 u94.1 u21976 v21965 m26266) v26252 v26253 = some r := r26254; clear r26254; unfold ref34_Plan_B3 at r26265; try dsimp only at r26265
                      refine Cov.seq ?_
                      refine Cov.seq ?_
                      refine Cov.region rfl ?_
                      refine Cov.q .ro (.move rfl) rfl ?_
                      refine Cov.q .ro (.move rfl) rfl ?_
                      refine Cov.q .ro (.move rfl) rfl ?_
                      obtain ⟨u26267, hu26267, r26268⟩ := bind_some r26265; clear r26265
                      obtain ⟨c26269, p26270, h26271⟩ := SlR.get (SlR.mono e113 s104) hu26267
                      obtain ⟨a26272, k26273, rfl, s26274⟩ := h26271
                      refine Cov.q .ro (.idxR (SlR.mono e113 s104) rfl rfl hu26267 sl34 ty35.sz) rfl ?_
                      refine Cov.q .ro (.load_rp p26270 List.mem_cons_self rfl ty35 rfl) rfl ?_
                      refine Cov.q .ro (.len_sl rfl rfl sl35) rfl ?_
                      refine Cov.q .ro (.lss rfl rfl) rfl ?_
                      refine Cov.region_end ?_
                      refine Cov.cond_dec rfl (fun c26275 => ?_) (fun c26275 => ?_)
                      · have r26276 := ifT r26268 c26275; clear r26268
                        refine Cov.skip ?_
                        refine Cov.seq ?_
                        refine Cov.block ?_
                        refine Cov.seq ?_
                        refine Cov.drawL (.q 0 (.q 1 (.q 2 (.q 3 (.q 4 (.q 5 (.q 6 (.q 7 (.q 8 (.q 9 (.q 10 (.q 11 (.q 12 (.q 13 (.q 14 (.q 15 .nil)))))))))))))))) [_, _, _, _] (by kernel_rfl) (by kernel_rfl) (pick_mem [0, 1, 2, 3] rfl) ?_
                        refine Cov.dq (.move rfl) rfl ?_
                        refine Cov.dq (.geq rfl rfl) rfl ?_
                        refine Cov.dq (.move rfl) rfl ?_
                        obtain ⟨u26297, h26298, r26299⟩ := bind_some r26276; clear r26276
                        refine Cov.cutD 13 (β := Unit) (fun y => [(112, .bool u26297)]) [(14, _), (16, _), (13, _), (2, _), (6, _), (9, _), (11, _), (12, _), (15, _)] (fun y => G112 :: Fs) (fun y => []) [_, _, _, _] (fun y => []) [_, _] (fun y => True) ⟨rfl, rfl, rfl, rfl, rfl, rfl, rfl, rfl, rfl, trivial⟩ [0, 1, 2, 3] rfl [0, 1] rfl ?_ ?_
                        · rintro _ _
                          refine Cov.prune [(112, .bool u26297), (14, _), (16, _), (13, _), (2, _), (6, _), (9, _), (11, _), (12, _), (15, _)] ⟨rfl, rfl, rfl, rfl, rfl, rfl, rfl, rfl, rfl, rfl, trivial⟩ ?_
                          refine Cov.same (bl' := [_, _, _, _]) (sl' := [_, _]) (Fs' := G112 :: Fs) rfl rfl rfl ?_
                          refine Cov.draw_end ?_
                          refine Cov.cond rfl (fun c26302 => ?_) (fun c26302 => ?_)
                          · have r26303 := ifT r26299 c26302; clear r26299
                            refine Cov.region rfl ?_
                            refine Cov.q .ro (.move rfl) rfl ?_
                            refine Cov.q .ro (.assign rfl) rfl ?_
                            refine Cov.region_end ?_
                            refine Cov.inBlock ?_
                            refine Cov.region rfl ?_
                            refine Cov.q .ro (.move rfl) rfl ?_
                            refine Cov.q .ro (.addw rfl rfl) rfl ?_
                            refine Cov.q .ro (.assign rfl) rfl ?_
                            refine Cov.region_end ?_
                            refine Cov.prune _ ?_ (Cov.same rfl rfl rfl (hb26255 (m26266, v26253, (w64 (v26253 + 1))) r26303 (Nat.lt_succ_self _)))
                            exact ⟨rfl, rfl, rfl, rfl, rfl, rfl, rfl, rfl, rfl, trivial⟩
                          · have r26304 := ifBF r26299 c26302; clear r26299
                            refine Cov.skip ?_
                            refine Cov.inBlock ?_
                            refine Cov.region rfl ?_
                            refine Cov.q .ro (.move rfl) rfl ?_
                            refine Cov.q .ro (.addw rfl rfl) rfl ?_
                            refine Cov.q .ro (.assign rfl) rfl ?_
                            refine Cov.region_end ?_
                            refine Cov.prune _ ?_ (Cov.same rfl rfl rfl (hb26255 (m26266, v26252, (w64 (v26253 + 1))) r26304 (Nat.lt_succ_self _)))
                            exact ⟨rfl, rfl, rfl, rfl, rfl, rfl, rfl, rfl, rfl, trivial⟩
                        · intro hb26296
                          refine Cov.split 99 rfl (fun c26295 => ?_) (fun c26295 => ?_)
                          · have r26305 := ifT h26298 c26295
                            refine Cov.dgq_on rfl ?_
                            refine Cov.dq (.move rfl) rfl ?_
                            refine Cov.dgq_on rfl ?_
                            refine Cov.dq (.move rfl) rfl ?_
                            refine Cov.dgq_on rfl ?_
                            obtain ⟨u26306, hu26306, r26307⟩ := bind_some r26305; clear r26305
                            obtain ⟨c26308, p26309, h26310⟩ := SlR.get (SlR.mono e113 s104) hu26306
                            obtain ⟨a26311, k26312, rfl, s26313⟩ := h26310
                            refine Cov.dq (.idxR (SlR.mono e113 s104) rfl rfl hu26306 sl34 ty35.sz) rfl ?_
                            refine Cov.dgq_on rfl ?_
                            refine Cov.dq (.load_rp p26309 List.mem_cons_self rfl ty35 rfl) rfl ?_
                            refine Cov.dgq_on rfl ?_
                            refine Cov.dq (.move rfl) rfl ?_
                            refine Cov.dgq_on rfl ?_
                            obtain ⟨u26314, hu26314, r26315⟩ := bind_some r26307; clear r26307
                            obtain ⟨c26316, p26317, h26318⟩ := SlR.get s26313 hu26314
                            obtain rfl := h26318
                            refine Cov.dq (.idxR s26313 rfl rfl hu26314 sl35 ty3.sz) rfl ?_
                            refine Cov.dgq_on rfl ?_
                            refine Cov.dq (.load_rp p26317 List.mem_cons_self rfl ty3 rfl) rfl ?_
                            refine Cov.dgq_on rfl ?_
                            refine Cov.dq (.move rfl) rfl ?_
                            refine Cov.dgq_on rfl ?_
                            refine Cov.dq (.move rfl) rfl ?_
                            refine Cov.dgq_on rfl ?_
                            obtain ⟨u26319, hu26319, r26320⟩ := bind_some r26315; clear r26315
                            obtain ⟨c26321, p26322, h26323⟩ := SlR.get (SlR.mono (HpLe.trans e99 e113) s2) hu26319
                            obtain rfl := h26323
                            refine Cov.dq (.idxR (SlR.mono (HpLe.trans e99 e113) s2) rfl rfl hu26319 sl35 ty3.sz) rfl ?_
                            refine Cov.dgq_on rfl ?_
                            refine Cov.dq (.load_rp p26322 List.mem_cons_self rfl ty3 rfl) rfl ?_
                            refine Cov.dgq_on rfl ?_
                            refine Cov.dq (.eql rfl rfl) rfl ?_
                            refine Cov.dq (.pick_t rfl rfl) rfl ?_
                            refine Cov.prune _ ?_ (Cov.same rfl rfl rfl (hb26296 () trivial))
                            exact ⟨sval r26320, rfl, rfl, rfl, rfl, rfl, rfl, rfl, rfl, rfl, trivial⟩
                          · have r26324 := ifF h26298 c26295
                            refine Cov.dgq_off rfl rfl rfl ?_
                            refine Cov.dgq_off rfl rfl rfl ?_
                            refine Cov.dgq_off rfl rfl rfl ?_
                            refine Cov.dgq_off rfl rfl rfl ?_
                            refine Cov.dgq_off rfl rfl rfl ?_
                            refine Cov.dgq_off rfl rfl rfl ?_
                            refine Cov.dgq_off rfl rfl rfl ?_
                            refine Cov.dgq_off rfl rfl rfl ?_
                            refine Cov.dgq_off rfl rfl rfl ?_
                            refine Cov.dgq_off rfl rfl rfl ?_
                            refine Cov.dgq_off rfl rfl rfl ?_
                            refine Cov.dgq_off rfl rfl rfl ?_
                            refine Cov.dq (.pick_f rfl rfl) rfl ?_
                            refine Cov.prune _ ?_ (Cov.same rfl rfl rfl (hb26296 () trivial))
                            exact ⟨sval r26324, rfl, rfl, rfl, rfl, rfl, rfl, rfl, rfl, rfl, trivial⟩
                      · have r26325 := ifF r26268 c26275; clear r26268
                        refine Cov.exit rfl ?_
                        refine Cov.pull 3 rfl [_, _, _, _] rfl ?_
                        refine Cov.pull 3 rfl [_, _, _, _] rfl ?_
                        refine Cov.pull 2 rfl [_, _, _, _] rfl ?_
                        refine Cov.pull 3 rfl [_, _, _, _] rfl ?_
                        refine Cov.prune _ ?_ (Cov.same rfl rfl rfl (hb26186 (v26252, v21965) r26325))
                        exact ⟨rfl, rfl, rfl, rfl, rfl, rfl, rfl, rfl, trivial⟩
                  · intro hb26326
                    refine Cov.cond_dec rfl (fun c26327 => ?_) (fun c26327 => ?_)
                    · have r26328 := ifT r21982 c26327; clear r21982
                      refine Cov.region rfl ?_
                      refine Cov.q .ro (.assign rfl) rfl ?_
                      refine Cov.region_end ?_
                      refine Cov.prune _ ?_ (Cov.same rfl rfl rfl (hb26326 ((-1)) r26328))
                      exact ⟨rfl, rfl, rfl, rfl, rfl, rfl, rfl, rfl, trivial⟩
                    · have r26329 := ifF r21982 c26327; clear r21982
                      refine Cov.skip ?_
                      refine Cov.prune _ ?_ (Cov.same rfl rfl rfl (hb26326 (0) r26329))
                      exact ⟨rfl, rfl, rfl, rfl, rfl, rfl, rfl, rfl, trivial⟩
                · have r26330 := ifF r21972 c21974; clear r21972
                  refine Cov.exit rfl ?_
                  refine Cov.prune _ ?_ (Cov.same rfl rfl rfl (hb13240 (v21953, a21954, k21955, cs21956, v21959, a21960, k21961, cs21962, v21965) ⟨o21957, o21963, r26330⟩))
                  exact ⟨rfl, rfl, trivial⟩
        · intro hb26331
          refine Cov.block ?_
          refine Cov.loop2 (α := Nat × Int) (fun y => [(8, .int .i64 y.2)]) [(1, _), (2, _), (3, _), (6, _)] (fun y => []) (fun y => []) [_, _] (fun y => []) [] (fun y => ref34_Plan_L7 (ref34_Plan_J6 x1 x2 x0_1) x1 x2 x0_0 y.1 y.2 = some r) (fun y => y.1) (big, 0) r13 ⟨rfl, rfl, rfl, rfl, rfl, trivial⟩ rfl rfl rfl (fun y hI hb26369 => ?_)
          obtain ⟨n26365, v26367⟩ := y
          have r26368 := hI; clear hI
          try dsimp only at r26368
          refine Cov.prune [(8, .int .i64 v26367), (1, _), (2, _), (3, _), (6, _)] ⟨rfl, rfl, rfl, rfl, rfl, trivial⟩ ?_
          refine Cov.same (bl' := [_, _]) (sl' := []) (Fs' := G :: Fs) rfl rfl rfl ?_
          obtain ⟨m26375, rfl⟩ : ∃ m, n26365 = m + 1 := by cases n26365 with | zero => exact absurd (show (none : Option _) = some _ from r26368) (by simp) | succ m => exact ⟨m, rfl⟩
          have r26374 : ref34_Plan_B7 (ref34_Plan_J6 x1 x2 x0_1) x1 x2 x0_0 (ref34_Plan_L7 (ref34_Plan_J6 x1 x2 x0_1) x1 x2 x0_0 m26375) v26367 = some r := r26368; clear r26368; unfold ref34_Plan_B7 at r26374; try dsimp only at r26374
          refine Cov.seq ?_
          refine Cov.seq ?_
          refine Cov.region rfl ?_
          refine Cov.q .ro (.move rfl) rfl ?_
          refine Cov.q .ro (.move rfl) rfl ?_
          refine Cov.q .ro (.len_sl rfl rfl sl35) rfl ?_
          refine Cov.q .ro (.lss rfl rfl) rfl ?_
          refine Cov.region_end ?_
          refine Cov.cond_dec rfl (fun c26376 => ?_) (fun c26376 => ?_)
          · have r26377 := ifT r26374 c26376; clear r26374
            refine Cov.skip ?_
            refine Cov.seq ?_
            refine Cov.block ?_
            refine Cov.seq ?_
            refine Cov.region rfl ?_
            refine Cov.q .ro (.move rfl) rfl ?_
            refine Cov.q .ro (.move rfl) rfl ?_
            obtain ⟨u26378, hu26378, r26379⟩ := bind_some r26377; clear r26377
            obtain ⟨c26380, p26381, h26382⟩ := SlR.get s2 hu26378
            obtain rfl := h26382
            refine Cov.q .ro (.idxR s2 rfl rfl hu26378 sl35 ty3.sz) rfl ?_
            refine Cov.q .ro (.load_rp p26381 List.mem_cons_self rfl ty3 rfl) rfl ?_
            refine Cov.q .ro (.lss rfl rfl) rfl ?_
            refine Cov.q .ro (.move rfl) rfl ?_
            obtain ⟨u26390, h26391, r26392⟩ := bind_some r26379; clear r26379
            refine Cov.cutR 7 (β := Unit) (fun y => [(47, .bool u26390)]) [(8, _), (1, _), (2, _), (3, _), (6, _)] (fun y => G :: Fs) (fun y => []) [_, _] (fun y => []) [] (fun y => True) ⟨rfl, rfl, rfl, rfl, rfl, trivial⟩ [0, 1] rfl [] rfl ?_ ?_
            · rintro _ _
              refine Cov.prune [(47, .bool u26390), (8, _), (1, _), (2, _), (3, _), (6, _)] ⟨rfl, rfl, rfl, rfl, rfl, rfl, trivial⟩ ?_
              refine Cov.same (bl' := [_, _]) (sl' := []) (Fs' := G :: Fs) rfl rfl rfl ?_
              refine Cov.region_end ?_
              refine Cov.cond rfl (fun c26395 => ?_) (fun c26395 => ?_)
              · have r26396 := ifT r26392 c26395; clear r26392
                refine Cov.seq ?_
                refine Cov.region rfl ?_
                refine Cov.q .ro (.build [_, _, _] [] ty37 pl37 rfl rfl) rfl ?_
                refine Cov.store 0 [_, _, _] [_, _] .ro rfl rfl rfl ty37 rfl rfl rfl rfl ?_
                refine Cov.q .ro (.assign rfl) rfl ?_
                refine Cov.region_end ?_
                cases r26396
                refine Cov.retWD 2 (c := ⟨10, none⟩) (.inr ⟨_, rfl⟩) [.cell 6 37, .tmp 7] [_, _] rfl Try.func10 Try.results10 ⟨RV.cell_a 0 [_, _, _] rfl rfl ty37 rfl, RV.tmp rfl, trivial⟩ (fun _ h => List.mem_cons_of_mem _ h) List.mem_cons_self B0 (by subst hS0; simp [blks]) (fun G' hg => ⟨none, 0, none, 0, none, 0, rfl, rfl, rfl, (SlR.mono hg (SlR.nil (Rp' := (Rep.sl (Rep.int .i64))))), (SlR.mono hg (SlR.nil (Rp' := (Rep.int .i64)))), (SlR.mono hg (SlR.nil (Rp' := (Rep.int .i64))))⟩)
              · have r26397 := ifBF r26392 c26395; clear r26392
                refine Cov.skip ?_
                refine Cov.inBlock ?_
                refine Cov.region rfl ?_
                refine Cov.q .ro (.move rfl) rfl ?_
                refine Cov.q .ro (.addw rfl rfl) rfl ?_
                refine Cov.q .ro (.assign rfl) rfl ?_
                refine Cov.region_end ?_
                refine Cov.prune _ ?_ (Cov.same rfl rfl rfl (hb26369 (m26375, (w64 (v26367 + 1))) r26397 (Nat.lt_succ_self _)))
                exact ⟨rfl, rfl, rfl, rfl, rfl, trivial⟩
            · intro hb26389
              refine Cov.split 40 rfl (fun c26388 => ?_) (fun c26388 => ?_)
              · have r26398 := ifT h26391 c26388
                refine Cov.g_off rfl rfl rfl ?_
                refine Cov.g_off rfl rfl rfl ?_
                refine Cov.g_off rfl rfl rfl ?_
                refine Cov.g_off rfl rfl rfl ?_
                refine Cov.g_off rfl rfl rfl ?_
                refine Cov.g_off rfl rfl rfl ?_
                refine Cov.q .ro (.pick_t rfl rfl) rfl ?_
                refine Cov.prune _ ?_ (Cov.same rfl rfl rfl (hb26389 () trivial))
                exact ⟨sval r26398, rfl, rfl, rfl, rfl, rfl, trivial⟩
              · have r26399 := ifF h26391 c26388
                refine Cov.g_on rfl ?_
                refine Cov.q .ro (.move rfl) rfl ?_
                refine Cov.g_on rfl ?_
                refine Cov.q .ro (.move rfl) rfl ?_
                refine Cov.g_on rfl ?_
                obtain ⟨u26400, hu26400, r26401⟩ := bind_some r26399; clear r26399
                obtain ⟨c26402, p26403, h26404⟩ := SlR.get s2 hu26400
                obtain rfl := h26404
                refine Cov.q .ro (.idxR s2 rfl rfl hu26400 sl35 ty3.sz) rfl ?_
                refine Cov.g_on rfl ?_
                refine Cov.q .ro (.load_rp p26403 List.mem_cons_self rfl ty3 rfl) rfl ?_
                refine Cov.g_on rfl ?_
                refine Cov.q .ro (.move rfl) rfl ?_
                refine Cov.g_on rfl ?_
                refine Cov.q .ro (.geq rfl rfl) rfl ?_
                refine Cov.q .ro (.pick_f rfl rfl) rfl ?_
                refine Cov.prune _ ?_ (Cov.same rfl rfl rfl (hb26389 () trivial))
                exact ⟨sval r26401, rfl, rfl, rfl, rfl, rfl, trivial⟩
          · have r26405 := ifF r26374 c26376; clear r26374
            refine Cov.exit rfl ?_
            refine Cov.pull 1 rfl [_, _] rfl ?_
            refine Cov.prune _ ?_ (Cov.same rfl rfl rfl (hb26331 (x0_0) r26405))
            exact ⟨rfl, rfl, rfl, rfl, trivial⟩
    · intro hb8
      refine Cov.split 23 rfl (fun c7 => ?_) (fun c7 => ?_)
      · refine Cov.g_off rfl rfl rfl ?_
        refine Cov.g_off rfl rfl rfl ?_
        refine Cov.g_off rfl rfl rfl ?_
        refine Cov.q .ro (.pick_t rfl rfl) rfl ?_
        refine Cov.prune _ ?_ (Cov.same rfl rfl rfl (hb8 () trivial))
        exact ⟨dor_t c7, rfl, rfl, rfl, rfl, trivial⟩
      · refine Cov.g_on rfl ?_
        refine Cov.q .ro (.move rfl) rfl ?_
        refine Cov.g_on rfl ?_
        refine Cov.q .ro (.len_sl rfl rfl sl35) rfl ?_
        refine Cov.g_on rfl ?_
        refine Cov.q .ro (.eql rfl rfl) rfl ?_
        refine Cov.q .ro (.pick_f rfl rfl) rfl ?_
        refine Cov.prune _ ?_ (Cov.same rfl rfl rfl (hb8 () trivial))
        exact ⟨dor_f c7, rfl, rfl, rfl, rfl, trivial⟩
  · intro hb4
    refine Cov.split 19 rfl (fun c3 => ?_) (fun c3 => ?_)
    · refine Cov.g_off rfl rfl rfl ?_
      refine Cov.g_off rfl rfl rfl ?_
      refine Cov.q .ro (.pick_t rfl rfl) rfl ?_
      refine Cov.prune _ ?_ (Cov.same rfl rfl rfl (hb4 () trivial))
      exact ⟨dor_t c3, rfl, rfl, rfl, rfl, trivial⟩
    · refine Cov.g_on rfl ?_
      refine Cov.q .ro (.move rfl) rfl ?_
      refine Cov.g_on rfl ?_
      refine Cov.q .ro (.gtr rfl rfl) rfl ?_
      refine Cov.q .ro (.pick_f rfl rfl) rfl ?_
      refine Cov.prune _ ?_ (Cov.same rfl rfl rfl (hb4 () trivial))
      exact ⟨dor_f c3, rfl, rfl, rfl, rfl, trivial⟩
end Go.Proofs.Ytnfalgmfmiolbaa
end

section
namespace Go.Proofs.Ytnfalgmfmiolbaa
open Go.RowKit
set_option linter.unusedSimpArgs false
set_option linter.unusedVariables false
set_option synthInstance.maxSize 2000
set_option synthInstance.maxHeartbeats 400000
set_option maxHeartbeats 4000000 in
set_option maxRecDepth 100000 in
theorem law43_BoundsFails_c {Fs : List Hp} {G : Hp} {a0 : Option Addr} {k0 : Nat} {x0 : List Int} {r : Bool} (hG : G ∈ Fs) (s0 : SlR (Rep.int .u8) G a0 k0 x0) (h : law43_BoundsFails x0 = some r) : RetS Try.prog 3 #[.slice a0 x0.length k0] Fs [] [] (fun v bo so => v = .bool r ∧ bo = [] ∧ so = []) := by
  unfold law43_BoundsFails at h
  try dsimp only at h
  refine RetS.of (vs := [_]) Try.func3 rfl Try.ntmps3 [(0, _)] ⟨rfl, trivial⟩ rfl hG fun w0 S0 hS0 B0 => ?_
  refine Cov.seq ?_
  refine Cov.region rfl ?_
  refine Cov.q .ro (.assign rfl) rfl ?_
  refine Cov.region_end ?_
  refine Cov.seq ?_
  refine Cov.seq ?_
  refine Cov.region rfl ?_
  obtain ⟨u1, hu1, r2⟩ := bind_some h; clear h
  refine Cov.callS (b1 := []) (b2 := []) (s1 := []) [] [] .ro rfl rfl Try.call5 rfl rfl (law43_sane_c (G := G) List.mem_cons_self  hu1) rfl (fun v4 bo so h3 => ?_)
  obtain ⟨rfl, rfl, rfl⟩ := h3
  refine Cov.same (bl' := []) (sl' := []) rfl rfl rfl ?_
  refine Cov.q .ro (.not rfl) rfl ?_
  refine Cov.region_end ?_
  refine Cov.cond rfl (fun c5 => ?_) (fun c5 => ?_)
  · have r6 := ifT r2 c5; clear r2
    refine Cov.seq ?_
    refine Cov.region rfl ?_
    refine Cov.q .ro (.assign rfl) rfl ?_
    refine Cov.region_end ?_
    cases r6
    refine Cov.retS (c := ⟨3, none⟩) (.inr ⟨_, rfl⟩) [.tmp 2] [_] rfl Try.func3 Try.results3 ⟨RV.tmp rfl, trivial⟩ (fun _ h => List.mem_cons_of_mem _ h) ⟨rfl, rfl, rfl⟩
  · have r7 := ifBF r2 c5; clear r2
    refine Cov.skip ?_
    refine Cov.seq ?_
    refine Cov.region rfl ?_
    refine Cov.q .ro (.move rfl) rfl ?_
    obtain ⟨u8, hu8, r9⟩ := bind_some r7; clear r7
    refine Cov.callS (b1 := []) (b2 := []) (s1 := []) [_] [] .ro rfl rfl Try.call6 rfl rfl (play_New_c (G := G) List.mem_cons_self s0 hu8) rfl (fun v11 bo so h10 => ?_)
    obtain ⟨a13, k14, b12, rfl, rfl, rfl, s15⟩ := h10
    refine Cov.same (bl' := [_]) (sl' := []) rfl rfl rfl ?_
    refine Cov.q .ro (.assign rfl) rfl ?_
    refine Cov.region_end ?_
    refine Cov.seq ?_
    refine Cov.region rfl ?_
    refine Cov.q .ro (.move rfl) rfl ?_
    obtain ⟨u16, hu16, r17⟩ := bind_some r9; clear r9
    refine Cov.callW (b1 := [_]) (b2 := []) (s1 := []) [_] [] .ro rfl rfl Try.call7 rfl rfl (play_Dice_Hashing_c (G := G) List.mem_cons_self s15 hu16) rfl B0 (fun v19 bo so G20 e21 B22 h18 => ?_)
    obtain ⟨a24, k25, a27, k28, rfl, rfl, rfl, s26, s29⟩ := h18
    refine Cov.same (bl' := [_]) (sl' := []) rfl rfl rfl ?_
    refine Cov.alloc .ro ty28 rfl (fun b30 hb30 => ?_)
    refine Cov.store 0 [_, _] [_, _] .ro rfl rfl rfl ty28 rfl rfl rfl rfl ?_
    refine Cov.region_end ?_
    refine Cov.seq ?_
    refine Cov.region rfl ?_
    refine Cov.q .ro (.move rfl) rfl ?_
    obtain ⟨u31, hu31, r32⟩ := bind_some r17; clear r17
    refine Cov.pull 1 rfl [_, _] rfl ?_
    refine Cov.callS (b1 := [_]) (b2 := [_]) (s1 := []) [_, _] [] .ro rfl rfl Try.call8 rfl rfl (play_Dice_Pick_c (G := G20) List.mem_cons_self s29 hu31) rfl (fun v34 bo so h33 => ?_)
    obtain ⟨a35, k36, rfl, rfl, rfl, s37⟩ := h33
    refine Cov.same (bl' := [_, _]) (sl' := []) rfl rfl rfl ?_
    refine Cov.q .ro (.addw rfl rfl) rfl ?_
    refine Cov.q .ro (.assign rfl) rfl ?_
    refine Cov.region_end ?_
    refine Cov.seq ?_
    refine Cov.region rfl ?_
    refine Cov.q .ro (.load_own_a 1 [_, _] rfl rfl ty28 rfl) rfl ?_
    refine Cov.q .ro (.move rfl) rfl ?_
    obtain ⟨u38, hu38, r39⟩ := bind_some r32; clear r32
    refine Cov.callS (b1 := []) (b2 := [_, _]) (s1 := []) [_, _, _] [] .ro rfl rfl Try.call9 rfl rfl (bounds_Failure_c (G := G20) List.mem_cons_self s26 hu38) rfl (fun v41 bo so h40 => ?_)
    obtain ⟨rfl, rfl, rfl⟩ := h40
    refine Cov.same (bl' := [_, _]) (sl' := []) rfl rfl rfl ?_
    refine Cov.q .ro (.move rfl) rfl ?_
    refine Cov.q .ro (.extract rfl rfl) rfl ?_
    refine Cov.q .ro (.extract rfl rfl) rfl ?_
    refine Cov.q .ro (.extract rfl rfl) rfl ?_
    refine Cov.q .ro (.assign rfl) rfl ?_
    refine Cov.q .ro (.assign rfl) rfl ?_
    refine Cov.q .ro (.assign rfl) rfl ?_
    refine Cov.region_end ?_
    refine Cov.prune [(4, _), (5, _), (6, _), (7, _), (8, _)] ⟨rfl, rfl, rfl, rfl, rfl, trivial⟩ ?_
    refine Cov.seq ?_
    refine Cov.seq ?_
    refine Cov.region rfl ?_
    refine Cov.q .ro (.fieldAddr 0 rfl fl28_0 ty3.sz rfl) rfl ?_
    refine Cov.q .ro (.load_own 1 rfl rfl ty3 rfl) rfl ?_
    refine Cov.q .ro (.lss rfl rfl) rfl ?_
    refine Cov.region_end ?_
    refine Cov.cond_dec rfl (fun c42 => ?_) (fun c42 => ?_)
    · have r43 := ifT r39 c42; clear r39
      refine Cov.seq ?_
      refine Cov.region rfl ?_
      refine Cov.q .ro (.move rfl) rfl ?_
      refine Cov.q .ro (.neq rfl rfl) rfl ?_
      refine Cov.q .ro (.move rfl) rfl ?_
      refine Cov.cutR 4 (β := Unit) (fun y => [(42, .bool (decide ((u38.2.2 ≠ 0) ∨ (u38.1 = u38.2.1))))]) [] (fun y => G20 :: Fs) (fun y => []) [_, _] (fun y => []) [] (fun y => True) trivial [0, 1] rfl [] rfl ?_ ?_
      · rintro _ _
        refine Cov.prune [(42, .bool (decide ((u38.2.2 ≠ 0) ∨ (u38.1 = u38.2.1))))] ⟨rfl, trivial⟩ ?_
        refine Cov.same (bl' := [_, _]) (sl' := []) (Fs' := G20 :: Fs) rfl rfl rfl ?_
        refine Cov.q .ro (.assign rfl) rfl ?_
        refine Cov.region_end ?_
        cases r43
        refine Cov.drop 2 0 [] _ rfl rfl ?_
        refine Cov.retS (c := ⟨3, none⟩) (.inr ⟨_, rfl⟩) [.tmp 2] [_] rfl Try.func3 Try.results3 ⟨RV.tmp rfl, trivial⟩ (fun _ h => List.mem_cons_of_mem _ h) ⟨rfl, rfl, rfl⟩
      · intro hb45
        refine Cov.split 38 rfl (fun c44 => ?_) (fun c44 => ?_)
        · refine Cov.g_off rfl rfl rfl ?_
          refine Cov.g_off rfl rfl rfl ?_
          refine Cov.g_off rfl rfl rfl ?_
          refine Cov.q .ro (.pick_t rfl rfl) rfl ?_
          refine Cov.prune _ ?_ (Cov.same rfl rfl rfl (hb45 () trivial))
          exact ⟨dor_t c44, trivial⟩
        · refine Cov.g_on rfl ?_
          refine Cov.q .ro (.move rfl) rfl ?_
          refine Cov.g_on rfl ?_
          refine Cov.q .ro (.move rfl) rfl ?_
          refine Cov.g_on rfl ?_
          refine Cov.q .ro (.eql rfl rfl) rfl ?_
          refine Cov.q .ro (.pick_f rfl rfl) rfl ?_
          refine Cov.prune _ ?_ (Cov.same rfl rfl rfl (hb45 () trivial))
          exact ⟨dor_f c44, trivial⟩
    · have r48 := ifF r39 c42; clear r39
      refine Cov.skip ?_
      refine Cov.seq ?_
      refine Cov.region rfl ?_
      refine Cov.q .ro (.assign rfl) rfl ?_
      refine Cov.q .ro (.assign rfl) rfl ?_
      refine Cov.region_end ?_
      refine Cov.seq ?_
      refine Cov.seq ?_
      refine Cov.region rfl ?_
      refine Cov.q .ro (.assign rfl) rfl ?_
      refine Cov.region_end ?_
      refine Cov.cutB (β := Hp × Int × Int × Int × Int) (fun y => [(9, .int .i64 y.2.1), (10, .int .i64 y.2.2.1)]) [(6, _), (7, _), (8, _)] (fun y => y.1 :: Fs) (fun y => [(b12, .cells #[.slice a35 u31.2.1.length k36, .int .i64 y.2.2.2.1] 66 (0, 0)), (b30, .cells #[.int .i64 y.2.2.2.2, .slice a24 u16.1.2.length k25] 28 (0, 0))]) [] (fun y => []) [] (fun y => HpLe G20 y.1 ∧ Bd w0 S0 Fs y.1 ∧ (law43_BoundsFails_J1 u38.1 u38.2.1 u38.2.2) y.2.1 y.2.2.1 y.2.2.2.1 y.2.2.2.2 = some r) ⟨rfl, rfl, rfl, trivial⟩ [] rfl [] rfl ?_ ?_
      · intro y hI
        obtain ⟨G462, v466, v467, v468, v469⟩ := y
        obtain ⟨e463, B464, r471⟩ := hI
        try dsimp only at e463 B464 r471
        refine Cov.prune [(9, .int .i64 v466), (10, .int .i64 v467), (6, _), (7, _), (8, _)] ⟨rfl, rfl, rfl, rfl, rfl, trivial⟩ ?_
        refine Cov.same (bl' := [(b12, .cells #[.slice a35 u31.2.1.length k36, .int .i64 v468] 66 (0, 0)), (b30, .cells #[.int .i64 v469, .slice a24 u16.1.2.length k25] 28 (0, 0))]) (sl' := []) (Fs' := G462 :: Fs) rfl rfl rfl ?_
        unfold law43_BoundsFails_J1 at r471
        try dsimp only at r471
        refine Cov.seq ?_
        refine Cov.region rfl ?_
        refine Cov.q .ro (.move rfl) rfl ?_
        refine Cov.q .ro (.eql rfl rfl) rfl ?_
        refine Cov.q .ro (.move rfl) rfl ?_
        refine Cov.cutR 4 (β := Unit) (fun y => [(90, .bool (decide ((u38.2.2 = 0) ∧ (u38.1 = v466))))]) [(10, _), (7, _)] (fun y => G462 :: Fs) (fun y => []) [_, _] (fun y => []) [] (fun y => True) ⟨rfl, rfl, trivial⟩ [0, 1] rfl [] rfl ?_ ?_
        · rintro _ _
          refine Cov.prune [(90, .bool (decide ((u38.2.2 = 0) ∧ (u38.1 = v466)))), (10, _), (7, _)] ⟨rfl, rfl, rfl, trivial⟩ ?_
          refine Cov.same (bl' := [_, _]) (sl' := []) (Fs' := G462 :: Fs) rfl rfl rfl ?_
          refine Cov.q .ro (.move rfl) rfl ?_
          refine Cov.cutR 4 (β := Unit) (fun y => [(95, .bool (decide (((u38.2.2 = 0) ∧ (u38.1 = v466)) ∧ (u38.2.1 = v467))))]) [] (fun y => G462 :: Fs) (fun y => []) [_, _] (fun y => []) [] (fun y => True) trivial [0, 1] rfl [] rfl ?_ ?_
          · rintro _ _
            refine Cov.prune [(95, .bool (decide (((u38.2.2 = 0) ∧ (u38.1 = v466)) ∧ (u38.2.1 = v467))))] ⟨rfl, trivial⟩ ?_
            refine Cov.same (bl' := [_, _]) (sl' := []) (Fs' := G462 :: Fs) rfl rfl rfl ?_
            refine Cov.q .ro (.assign rfl) rfl ?_
            refine Cov.region_end ?_
            cases r471
            refine Cov.drop 2 0 [] _ rfl rfl ?_
            refine Cov.retS (c := ⟨3, none⟩) (.inr ⟨_, rfl⟩) [.tmp 2] [_] rfl Try.func3 Try.results3 ⟨RV.tmp rfl, trivial⟩ (fun _ h => List.mem_cons_of_mem _ h) ⟨rfl, rfl, rfl⟩
          · intro hb482
            refine Cov.split 91 rfl (fun c481 => ?_) (fun c481 => ?_)
            · refine Cov.g_on rfl ?_
              refine Cov.q .ro (.move rfl) rfl ?_
              refine Cov.g_on rfl ?_
              refine Cov.q .ro (.move rfl) rfl ?_
              refine Cov.g_on rfl ?_
              refine Cov.q .ro (.eql rfl rfl) rfl ?_
              refine Cov.q .ro (.pick_t rfl rfl) rfl ?_
              refine Cov.prune _ ?_ (Cov.same rfl rfl rfl (hb482 () trivial))
              exact ⟨dand_t c481, trivial⟩
            · refine Cov.g_off rfl rfl rfl ?_
              refine Cov.g_off rfl rfl rfl ?_
              refine Cov.g_off rfl rfl rfl ?_
              refine Cov.q .ro (.pick_f rfl rfl) rfl ?_
              refine Cov.prune _ ?_ (Cov.same rfl rfl rfl (hb482 () trivial))
              exact ⟨dand_f c481, trivial⟩
        · intro hb478
          refine Cov.split 86 rfl (fun c477 => ?_) (fun c477 => ?_)
          · refine Cov.g_on rfl ?_
            refine Cov.q .ro (.move rfl) rfl ?_
            refine Cov.g_on rfl ?_
            refine Cov.q .ro (.move rfl) rfl ?_
            refine Cov.g_on rfl ?_
            refine Cov.q .ro (.eql rfl rfl) rfl ?_
            refine Cov.q .ro (.pick_t rfl rfl) rfl ?_
            refine Cov.prune _ ?_ (Cov.same rfl rfl rfl (hb478 () trivial))
            exact ⟨dand_t c477, rfl, rfl, trivial⟩
          · refine Cov.g_off rfl rfl rfl ?_
            refine Cov.g_off rfl rfl rfl ?_
            refine Cov.g_off rfl rfl rfl ?_
            refine Cov.q .ro (.pick_f rfl rfl) rfl ?_
            refine Cov.prune _ ?_ (Cov.same rfl rfl rfl (hb478 () trivial))
            exact ⟨dand_f c477, rfl, rfl, trivial⟩
      · intro hb485
        refine Cov.block ?_
        refine Cov.pull 1 rfl [_, _] rfl ?_
        refine Cov.pull 1 rfl [_, _] rfl ?_
        refine Cov.loop2 (α := Nat × Hp × Int × Int × Int × Int × Int) (fun y => [(9, .int .i64 y.2.2.1), (10, .int .i64 y.2.2.2.1), (11, .int .i64 y.2.2.2.2.1)]) [(4, _), (5, _), (6, _), (7, _), (8, _)] (fun y => [y.2.1]) (fun y => [(b12, .cells #[.slice a35 u31.2.1.length k36, .int .i64 y.2.2.2.2.2.1] 66 (0, 0)), (b30, .cells #[.int .i64 y.2.2.2.2.2.2, .slice a24 u16.1.2.length k25] 28 (0, 0))]) [] (fun y => []) [] (fun y => HpLe G20 y.2.1 ∧ Bd w0 S0 Fs y.2.1 ∧ law43_BoundsFails_L4 (law43_BoundsFails_J1 u38.1 u38.2.1 u38.2.2) (w64 (2 + u31.1)) u16.1.2 y.1 y.2.2.1 y.2.2.2.1 y.2.2.2.2.1 y.2.2.2.2.2.1 y.2.2.2.2.2.2 = some r) (fun y => y.1) (big, G20, 0, 0, 0, u31.2.2, u16.1.1) ⟨(HpLe.refl _), B22, r48⟩ ⟨rfl, rfl, rfl, rfl, rfl, rfl, rfl, rfl, trivial⟩ rfl rfl rfl (fun y hI hb697 => ?_)
        obtain ⟨n685, G687, v691, v692, v693, v694, v695⟩ := y
        obtain ⟨e688, B689, r696⟩ := hI
        try dsimp only at e688 B689 r696
        refine Cov.prune [(9, .int .i64 v691), (10, .int .i64 v692), (11, .int .i64 v693), (4, _), (5, _), (6, _), (7, _), (8, _)] ⟨rfl, rfl, rfl, rfl, rfl, rfl, rfl, rfl, trivial⟩ ?_
        refine Cov.same (bl' := [(b12, .cells #[.slice a35 u31.2.1.length k36, .int .i64 v694] 66 (0, 0)), (b30, .cells #[.int .i64 v695, .slice a24 u16.1.2.length k25] 28 (0, 0))]) (sl' := []) (Fs' := G687 :: Fs) rfl rfl rfl ?_
        obtain ⟨m705, rfl⟩ : ∃ m, n685 = m + 1 := by cases n685 with | zero => exact absurd (show (none : Option _) = some _ from r696) (by simp) | succ m => exact ⟨m, rfl⟩
        have r704 : law43_BoundsFails_B4 (law43_BoundsFails_J1 u38.1 u38.2.1 u38.2.2) (w64 (2 + u31.1)) u16.1.2 (law43_BoundsFails_L4 (law43_BoundsFails_J1 u38.1 u38.2.1 u38.2.2) (w64 (2 + u31.1)) u16.1.2 m705) v691 v692 v693 v694 v695 = some r := r696; clear r696; unfold law43_BoundsFails_B4 at r704; try dsimp only at r704
        refine Cov.seq ?_
        refine Cov.seq ?_
        refine Cov.region rfl ?_
        refine Cov.q .ro (.move rfl) rfl ?_
        refine Cov.q .ro (.move rfl) rfl ?_
        refine Cov.q .ro (.lss rfl rfl) rfl ?_
        refine Cov.region_end ?_
        refine Cov.cond_dec rfl (fun c706 => ?_) (fun c706 => ?_)
        · have r707 := ifT r704 c706; clear r704
          refine Cov.skip ?_
          refine Cov.seq ?_
          refine Cov.block ?_
          refine Cov.seq ?_
          refine Cov.region rfl ?_
          refine Cov.q .ro (.move rfl) rfl ?_
          refine Cov.q .ro (.addw rfl rfl) rfl ?_
          refine Cov.q .ro (.assign rfl) rfl ?_
          refine Cov.region_end ?_
          refine Cov.block ?_
          refine Cov.loop2 (α := Nat × Hp × Int × Int × Int) (fun y => [(9, .int .i64 y.2.2.1), (10, .int .i64 y.2.2.2.1), (12, .int .i64 y.2.2.2.2)]) [(11, _), (4, _), (5, _), (6, _), (7, _), (8, _)] (fun y => [y.2.1]) (fun y => []) [_, _] (fun y => []) [] (fun y => HpLe G687 y.2.1 ∧ Bd w0 S0 Fs y.2.1 ∧ law43_BoundsFails_L3 (law43_BoundsFails_L4 (law43_BoundsFails_J1 u38.1 u38.2.1 u38.2.2) (w64 (2 + u31.1)) u16.1.2 m705) v693 (w64 (2 + u31.1)) v694 v695 u16.1.2 y.1 y.2.2.1 y.2.2.2.1 y.2.2.2.2 = some r) (fun y => y.1) (big, G687, v691, v692, (w64 (v693 + 1))) ⟨(HpLe.refl _), B689, r707⟩ ⟨rfl, rfl, rfl, rfl, rfl, rfl, rfl, rfl, rfl, trivial⟩ rfl rfl rfl (fun y hI hb805 => ?_)
          obtain ⟨n795, G797, v801, v802, v803⟩ := y
          obtain ⟨e798, B799, r804⟩ := hI
          try dsimp only at e798 B799 r804
          refine Cov.prune [(9, .int .i64 v801), (10, .int .i64 v802), (12, .int .i64 v803), (11, _), (4, _), (5, _), (6, _), (7, _), (8, _)] ⟨rfl, rfl, rfl, rfl, rfl, rfl, rfl, rfl, rfl, trivial⟩ ?_
          refine Cov.same (bl' := [_, _]) (sl' := []) (Fs' := G797 :: Fs) rfl rfl rfl ?_
          obtain ⟨m816, rfl⟩ : ∃ m, n795 = m + 1 := by cases n795 with | zero => exact absurd (show (none : Option _) = some _ from r804) (by simp) | succ m => exact ⟨m, rfl⟩
          have r815 : law43_BoundsFails_B3 (law43_BoundsFails_L4 (law43_BoundsFails_J1 u38.1 u38.2.1 u38.2.2) (w64 (2 + u31.1)) u16.1.2 m705) v693 (w64 (2 + u31.1)) v694 v695 u16.1.2 (law43_BoundsFails_L3 (law43_BoundsFails_L4 (law43_BoundsFails_J1 u38.1 u38.2.1 u38.2.2) (w64 (2 + u31.1)) u16.1.2 m705) v693 (w64 (2 + u31.1)) v694 v695 u16.1.2 m816) v801 v802 v803 = some r := r804; clear r804; unfold law43_BoundsFails_B3 at r815; try dsimp only at r815
          refine Cov.seq ?_
          refine Cov.seq ?_
          refine Cov.region rfl ?_
          refine Cov.q .ro (.move rfl) rfl ?_
          refine Cov.q .ro (.move rfl) rfl ?_
          refine Cov.q .ro (.lss rfl rfl) rfl ?_
          refine Cov.region_end ?_
          refine Cov.cond_dec rfl (fun c817 => ?_) (fun c817 => ?_)
          · have r818 := ifT r815 c817; clear r815
            refine Cov.skip ?_
            refine Cov.seq ?_
            refine Cov.block ?_
            refine Cov.seq ?_
            refine Cov.region rfl ?_
            refine Cov.q .ro (.move rfl) rfl ?_
            refine Cov.q .ro (.addw rfl rfl) rfl ?_
            refine Cov.q .ro (.assign rfl) rfl ?_
            refine Cov.region_end ?_
            refine Cov.seq ?_
            refine Cov.seq ?_
            refine Cov.region rfl ?_
            refine Cov.q .ro (.load_own_a 1 [_, _] rfl rfl ty28 rfl) rfl ?_
            refine Cov.q .ro (.move rfl) rfl ?_
            refine Cov.q .ro (.move rfl) rfl ?_
            refine Cov.q .ro (.move rfl) rfl ?_
            refine Cov.lit [_, _] [(0, _), (1, _)] .ro sl35 ty3 rfl rfl rfl rfl rfl rfl (fun b819 hb819 => ?_)
            have o820 : OL (Rep.int .i64) G797 [.int .i64 v693, .int .i64 v803] ([v693, v803] : List Int) := ((OL.cons rfl (Rep.intI .i64 v693) (OL.cons rfl (Rep.intI .i64 v803) (OL.nil (Rp' := (Rep.int .i64))))) :)
            refine Cov.reval 62 (n' := ([v693, v803] : List Int).length) rfl rfl ?_
            refine Cov.freezeR 0 rfl rfl o820 [] rfl B799 (fun G822 e823 B824 s825 => ?_)
            obtain ⟨u827, hu827, r828⟩ := bind_some r818; clear r818
            refine Cov.callW (b1 := []) (b2 := [_, _]) (s1 := []) [_, _, _] [] .ro rfl rfl Try.call10 rfl rfl (ref34_Plan_c (G := G822) List.mem_cons_self (SlR.mono (HpLe.trans (HpLe.trans e688 e798) e823) s26) s825 hu827) rfl B824 (fun v830 bo so G831 e832 B833 h829 => ?_)
            obtain ⟨a835, k836, a838, k839, a841, k842, rfl, rfl, rfl, s837, s840, s843⟩ := h829
            refine Cov.same (bl' := [_, _]) (sl' := []) rfl rfl rfl ?_
            refine Cov.q .ro (.move rfl) rfl ?_
            refine Cov.q .ro (.extract rfl rfl) rfl ?_
            refine Cov.q .ro (.extract rfl rfl) rfl ?_
            refine Cov.alloc .ro ty37 rfl (fun b844 hb844 => ?_)
            refine Cov.store 0 [_, _, _] [_, _, _] .ro rfl rfl rfl ty37 rfl rfl rfl rfl ?_
            refine Cov.q .ro (.assign rfl) rfl ?_
            refine Cov.region_end ?_
            refine Cov.prune [(9, _), (10, _), (12, _), (11, _), (4, _), (5, _), (6, _), (7, _), (8, _), (14, _)] ⟨rfl, rfl, rfl, rfl, rfl, rfl, rfl, rfl, rfl, rfl, trivial⟩ ?_
            refine Cov.seq ?_
            refine Cov.region rfl ?_
            refine Cov.q .ro (.move rfl) rfl ?_
            refine Cov.q .ro (.neq rfl rfl) rfl ?_
            refine Cov.region_end ?_
            refine Cov.cutI (β := Int) (fun y => [(9, .int .i64 y)]) [(10, _), (12, _), (11, _), (4, _), (5, _), (6, _), (7, _), (8, _)] (fun y => G831 :: Fs) (fun y => []) [_, _, _] (fun y => []) [] (fun y => (law43_BoundsFails_J2 (law43_BoundsFails_L3 (law43_BoundsFails_L4 (law43_BoundsFails_J1 u38.1 u38.2.1 u38.2.2) (w64 (2 + u31.1)) u16.1.2 m705) v693 (w64 (2 + u31.1)) v694 v695 u16.1.2 m816) (w64 (v802 + 1)) v803 v693 v695 u16.1.2) y = some r) ⟨rfl, rfl, rfl, rfl, rfl, rfl, rfl, rfl, trivial⟩ [0, 1, 2] rfl [] rfl ?_ ?_
            · intro v849 hI
              have r851 := hI; clear hI
              refine Cov.prune [(9, .int .i64 v849), (10, _), (12, _), (11, _), (4, _), (5, _), (6, _), (7, _), (8, _)] ⟨rfl, rfl, rfl, rfl, rfl, rfl, rfl, rfl, rfl, trivial⟩ ?_
              refine Cov.same (bl' := [_, _, _]) (sl' := []) (Fs' := G831 :: Fs) rfl rfl rfl ?_
              unfold law43_BoundsFails_J2 at r851
              try dsimp only at r851
              refine Cov.seq ?_
              refine Cov.region rfl ?_
              refine Cov.q .ro (.load_own_a 2 [_, _] rfl rfl ty28 rfl) rfl ?_
              refine Cov.q .ro (.move rfl) rfl ?_
              refine Cov.q .ro (.move rfl) rfl ?_
              refine Cov.lit [_, _] [(0, _), (1, _)] .ro sl35 ty3 rfl rfl rfl rfl rfl rfl (fun b866 hb866 => ?_)
              have o867 : OL (Rep.int .i64) G831 [.int .i64 v693, .int .i64 v803] ([v693, v803] : List Int) := ((OL.cons rfl (Rep.intI .i64 v693) (OL.cons rfl (Rep.intI .i64 v803) (OL.nil (Rp' := (Rep.int .i64))))) :)
              refine Cov.reval 74 (n' := ([v693, v803] : List Int).length) rfl rfl ?_
              refine Cov.freezeR 0 rfl rfl o867 [] rfl B833 (fun G869 e870 B871 s872 => ?_)
              obtain ⟨u874, hu874, r875⟩ := bind_some r851; clear r851
              refine Cov.callW (b1 := []) (b2 := [_, _, _]) (s1 := []) [_, _] [] .ro rfl rfl Try.call11 rfl rfl (ref19_Assign_c (G := G869) List.mem_cons_self (SlR.mono (HpLe.trans (HpLe.trans (HpLe.trans (HpLe.trans e688 e798) e823) e832) e870) s26) s872 hu874) rfl B871 (fun v877 bo so G878 e879 B880 h876 => ?_)
              obtain ⟨a882, k883, rfl, rfl, rfl, s884⟩ := h876
              refine Cov.same (bl' := [_, _, _]) (sl' := []) rfl rfl rfl ?_
              refine Cov.q .ro (.move rfl) rfl ?_
              refine Cov.q .ro (.extract rfl rfl) rfl ?_
              refine Cov.q .ro (.extract rfl rfl) rfl ?_
              refine Cov.alloc .ro ty41 rfl (fun b885 hb885 => ?_)
              refine Cov.store 0 [_] [_, _, _, _] .ro rfl rfl rfl ty41 rfl rfl rfl rfl ?_
              refine Cov.q .ro (.assign rfl) rfl ?_
              refine Cov.region_end ?_
              refine Cov.seq ?_
              refine Cov.region rfl ?_
              refine Cov.q .ro (.move rfl) rfl ?_
              refine Cov.q .ro (.neq rfl rfl) rfl ?_
              refine Cov.q .ro (.move rfl) rfl ?_
              refine Cov.cutR 3 (β := Unit) (fun y => [(83, .bool (decide ((u874.2 ≠ 0) ∧ (u874.2 ≠ 15))))]) [(9, _), (10, _), (12, _), (11, _), (4, _), (5, _), (6, _), (7, _), (8, _)] (fun y => G878 :: Fs) (fun y => []) [_, _, _, _] (fun y => []) [] (fun y => True) ⟨rfl, rfl, rfl, rfl, rfl, rfl, rfl, rfl, rfl, trivial⟩ [0, 1, 2, 3] rfl [] rfl ?_ ?_
              · rintro _ _
                refine Cov.prune [(83, .bool (decide ((u874.2 ≠ 0) ∧ (u874.2 ≠ 15)))), (9, _), (10, _), (12, _), (11, _), (4, _), (5, _), (6, _), (7, _), (8, _)] ⟨rfl, rfl, rfl, rfl, rfl, rfl, rfl, rfl, rfl, rfl, trivial⟩ ?_
                refine Cov.same (bl' := [_, _, _, _]) (sl' := []) (Fs' := G878 :: Fs) rfl rfl rfl ?_
                refine Cov.region_end ?_
                refine Cov.cond_dec rfl (fun c890 => ?_) (fun c890 => ?_)
                · have r891 := ifT r875 c890; clear r875
                  refine Cov.seq ?_
                  refine Cov.region rfl ?_
                  refine Cov.q .ro (.assign rfl) rfl ?_
                  refine Cov.region_end ?_
                  cases r891
                  refine Cov.drop 4 0 [] _ rfl rfl ?_
                  refine Cov.retS (c := ⟨3, none⟩) (.inr ⟨_, rfl⟩) [.tmp 2] [_] rfl Try.func3 Try.results3 ⟨RV.tmp rfl, trivial⟩ (fun _ h => List.mem_cons_of_mem _ h) ⟨rfl, rfl, rfl⟩
                · have r892 := ifF r875 c890; clear r875
                  refine Cov.skip ?_
                  refine Cov.inBlock ?_
                  refine Cov.region rfl ?_
                  refine Cov.q .ro (.move rfl) rfl ?_
                  refine Cov.q .ro (.addw rfl rfl) rfl ?_
                  refine Cov.q .ro (.assign rfl) rfl ?_
                  refine Cov.region_end ?_
                  refine Cov.drop 2 0 [_, _] _ rfl rfl ?_
                  refine Cov.prune _ ?_ (Cov.same rfl rfl rfl (hb805 (m816, G878, v849, (w64 (v802 + 1)), (w64 (v803 + 1))) ⟨(HpLe.trans (HpLe.trans (HpLe.trans (HpLe.trans e798 e823) e832) e870) e879), B880, r892⟩ (Nat.lt_succ_self _)))
                  exact ⟨rfl, rfl, rfl, rfl, rfl, rfl, rfl, rfl, rfl, trivial⟩
              · intro hb887
                refine Cov.split 80 rfl (fun c886 => ?_) (fun c886 => ?_)
                · refine Cov.g_on rfl ?_
                  refine Cov.q .ro (.move rfl) rfl ?_
                  refine Cov.g_on rfl ?_
                  refine Cov.q .ro (.neq rfl rfl) rfl ?_
                  refine Cov.q .ro (.pick_t rfl rfl) rfl ?_
                  refine Cov.prune _ ?_ (Cov.same rfl rfl rfl (hb887 () trivial))
                  exact ⟨dand_t c886, rfl, rfl, rfl, rfl, rfl, rfl, rfl, rfl, rfl, trivial⟩
                · refine Cov.g_off rfl rfl rfl ?_
                  refine Cov.g_off rfl rfl rfl ?_
                  refine Cov.q .ro (.pick_f rfl rfl) rfl ?_
                  refine Cov.prune _ ?_ (Cov.same rfl rfl rfl (hb887 () trivial))
                  exact ⟨dand_f c886, rfl, rfl, rfl, rfl, rfl, rfl, rfl, rfl, rfl, trivial⟩
            · intro hb893
              refine Cov.cond_dec rfl (fun c894 => ?_) (fun c894 => ?_)
              · have r895 := ifT r828 c894; clear r828
                refine Cov.region rfl ?_
                refine Cov.q .ro (.move rfl) rfl ?_
                refine Cov.q .ro (.addw rfl rfl) rfl ?_
                refine Cov.q .ro (.assign rfl) rfl ?_
                refine Cov.region_end ?_
                refine Cov.prune _ ?_ (Cov.same rfl rfl rfl (hb893 ((w64 (v801 + 1))) r895))
                exact ⟨rfl, rfl, rfl, rfl, rfl, rfl, rfl, rfl, rfl, trivial⟩
              · have r896 := ifF r828 c894; clear r828
                refine Cov.skip ?_
                refine Cov.prune _ ?_ (Cov.same rfl rfl rfl (hb893 (v801) r896))
                exact ⟨rfl, rfl, rfl, rfl, rfl, rfl, rfl, rfl, rfl, trivial⟩
          · have r897 := ifF r815 c817; clear r815
            refine Cov.exit rfl ?_
            refine Cov.inBlock ?_
            refine Cov.region rfl ?_
            refine Cov.q .ro (.move rfl) rfl ?_
            refine Cov.q .ro (.addw rfl rfl) rfl ?_
            refine Cov.q .ro (.assign rfl) rfl ?_
            refine Cov.region_end ?_
            refine Cov.prune _ ?_ (Cov.same rfl rfl rfl (hb697 (m705, G797, v801, v802, (w64 (v693 + 1)), v694, v695) ⟨(HpLe.trans e688 e798), B799, r897⟩ (Nat.lt_succ_self _)))
            exact ⟨rfl, rfl, rfl, rfl, rfl, rfl, rfl, rfl, trivial⟩
        · have r898 := ifF r704 c706; clear r704
          refine Cov.exit rfl ?_
          refine Cov.prune _ ?_ (Cov.same rfl rfl rfl (hb485 (G687, v691, v692, v694, v695) ⟨e688, B689, r898⟩))
          exact ⟨rfl, rfl, rfl, rfl, rfl, trivial⟩
end Go.Proofs.Ytnfalgmfmiolbaa
end

section
namespace Go.Proofs.Ytnfalgmfmiolbaa
set_option linter.unusedVariables false
def slices_IndexFunc_Lintint_B1 (z25 : Int → Option Bool) (rec18 : Option Int) (x28 : Int) (i18 : Nat) : Option Int :=
  (z25 x28).bind fun u33 => if (u33 = true) then (some (i18 : Int)) else
 rec18
def slices_IndexFunc_Lintint_L1 (z25 : Int → Option Bool) : (List Int) → Nat → Option Int
  | [], i18 => some (-1)
  | x28 :: xs, i18 => slices_IndexFunc_Lintint_B1 z25 (slices_IndexFunc_Lintint_L1 z25 xs (i18 + 1)) x28 i18
def slices_IndexFunc_Lintint (x0 : (List Int)) (x1 : Int → Option Bool) : Option Int :=
  slices_IndexFunc_Lintint_L1 x1 x0 0
def slices_ContainsFunc_Lintint (x0 : (List Int)) (x1 : Int → Option Bool) : Option Bool :=
  (slices_IndexFunc_Lintint x0 x1).bind fun u1 => some (decide (0 ≤ u1))
def cuckoo_item (x0 : Int) : Option Bool :=
  some (decide ((0 ≤ x0) ∧ (x0 < 2147483647)))
def cuckoo_asked_f1 (x0 : Int) : Option Bool :=
  (cuckoo_item x0).bind fun u1 => some (!u1)
def cuckoo_asked (x0 : (Int × (List (Int × Int)))) (x1 : (List Int)) : Option Int :=
  (cuckoo_Check x0).bind fun u2 => if (u2 ≠ 0) then (some u2) else
(slices_ContainsFunc_Lintint x1 cuckoo_asked_f1).bind fun u9 => if (u9 = true) then (some 1) else
 some 0
def slices_Clone_Lintint (x0 : (List Int)) : Option (List Int) :=
  (lapp ([] : List Int) x0).bind fun u11 => some u11
def cuckoo_placing_rest_J1 (z82 : Int) (z83 : List (List Int)) (z85 : List Bool) (v74 : List Int) : Option Bool :=
  (cuckoo_placing_all (z83, v74, z85) z82).bind fun u90 => some u90.1
def cuckoo_placing_rest_B2 (kx80 : (List Int) → Option Bool) (z138 : List Bool) (rec122 : (List Int) → Option Bool) (x140 : Int) (i122 : Nat) (v126 : List Int) : Option Bool :=
  (lidx z138 (i122 : Int)).bind fun u142 => if ((!u142) = true) then ((lidx v126 (i122 : Int)).bind fun u149 => (lupd v126 (i122 : Int) (-1)).bind fun u154 => rec122 u154) else
 rec122 v126
def cuckoo_placing_rest_L2 (kx80 : (List Int) → Option Bool) (z138 : List Bool) : (List Int) → Nat → (List Int) → Option Bool
  | [], i122, v126 => kx80 v126
  | x140 :: xs, i122, v126 => cuckoo_placing_rest_B2 kx80 z138 (cuckoo_placing_rest_L2 kx80 z138 xs (i122 + 1)) x140 i122 v126
def cuckoo_placing_rest (x0 : ((List (List Int)) × (List Int) × (List Bool))) (x1 : Int) : Option Bool :=
  (slices_Clone_Lintint x0.2.1).bind fun u3 => cuckoo_placing_rest_L2 (cuckoo_placing_rest_J1 x1 x0.1 x0.2.2) x0.2.2 u3 0 u3
def cuckoo_placing_first_B1 (rec172 : (List Int) → (List Bool) → Option (Bool × (List Int) × (List Bool))) (z288 : Int) (z289 : List (List Int)) (rec270 : (List Int) → (List Bool) → Option (Bool × (List Int) × (List Bool))) (x294 : Int) (v274 : List Int) (v280 : List Bool) : Option (Bool × (List Int) × (List Bool)) :=
  (lidx v280 x294).bind fun u299 => if (u299 = true) then (rec270 v274 v280) else
(lidx v280 x294).bind fun u307 => (lupd v280 x294 true).bind fun u312 => (lidx v274 x294).bind fun u318 => (lupd v274 x294 z288).bind fun u323 => (cuckoo_placing_rest (z289, u323, u312) (w64 (z288 + 1))).bind fun u329 => if (u329 = true) then (rec172 u323 u312) else
(lidx u312 x294).bind fun u336 => (lupd u312 x294 false).bind fun u341 => (lidx u323 x294).bind fun u347 => (lupd u323 x294 (-1)).bind fun u352 => rec270 u352 u341
def cuckoo_placing_first_L1 (rec172 : (List Int) → (List Bool) → Option (Bool × (List Int) × (List Bool))) (z288 : Int) (z289 : List (List Int)) : (List Int) → (List Int) → (List Bool) → Option (Bool × (List Int) × (List Bool))
  | [], v274, v280 => some (false, v274, v280)
  | x294 :: xs, v274, v280 => cuckoo_placing_first_B1 rec172 z288 z289 (cuckoo_placing_first_L1 rec172 z288 z289 xs) x294 v274 v280
def cuckoo_placing_first_B2 (z190 : List (List Int)) (rec172 : (List Int) → (List Bool) → Option (Bool × (List Int) × (List Bool))) (x193 : (List Int)) (i172 : Nat) (v176 : List Int) (v182 : List Bool) : Option (Bool × (List Int) × (List Bool)) :=
  cuckoo_placing_first_L1 rec172 (i172 : Int) z190 x193 v176 v182
def cuckoo_placing_first_L2 (z190 : List (List Int)) : (List (List Int)) → Nat → (List Int) → (List Bool) → Option (Bool × (List Int) × (List Bool))
  | [], i172, v176, v182 => some (true, v176, v182)
  | x193 :: xs, i172, v176, v182 => cuckoo_placing_first_B2 z190 (cuckoo_placing_first_L2 z190 xs (i172 + 1)) x193 i172 v176 v182
def cuckoo_placing_first (x0 : ((List (List Int)) × (List Int) × (List Bool))) : Option (Bool × (List Int) × (List Bool)) :=
  cuckoo_placing_first_L2 x0.1 x0.1 0 x0.2.1 x0.2.2
def cuckoo_Assign (x0 : (Int × (List (Int × Int)))) (x1 : (List Int)) : Option ((List Int) × Int) :=
  (cuckoo_asked x0 x1).bind fun u3 => if (u3 ≠ 0) then (some (([] : List Int), u3)) else
 if (x0.1 < (x1.length : Int)) then (some (([] : List Int), 4)) else
(cuckoo_start x0 x1).bind fun u13 => (cuckoo_placing_first u13).bind fun u43 => if ((!u43.1) = true) then (some (([] : List Int), 15)) else
 some (u43.2.1, 0)
end Go.Proofs.Ytnfalgmfmiolbaa
end

section
namespace Go.Proofs.Ytnfalgmfmiolbaa
theorem nz_ok {y : Int} (h : y ≠ 0) : nz y = some () := by unfold nz; rw [if_neg h]
theorem lidx_ok {α : Type} {l : List α} {i : Int} (d : α) (h0 : 0 ≤ i) (h1 : i < l.length) : lidx l i = some (l.getD i.toNat d) := by
  refine lidx_of h0 ?_
  rw [List.getD_eq_getElem?_getD]
  have : i.toNat < l.length := by omega
  simp [this]
theorem lapp_ok {α : Type} {l m : List α} (h : l.length + m.length ≤ 16777216) : lapp l m = some (l ++ m) := by unfold lapp; rw [if_pos h]
theorem lsub_ok {α : Type} {l : List α} {i j : Int} (h0 : 0 ≤ i) (h1 : i ≤ j) (h2 : j ≤ l.length) : lsub l i j = some ((l.drop i.toNat).take (j - i).toNat) := by unfold lsub; rw [if_pos ⟨h0, h1, h2⟩]
theorem lupd_ok {α : Type} {l : List α} {i : Int} {y : α} (h0 : 0 ≤ i) (h1 : i < l.length) : lupd l i y = some (l.set i.toNat y) := by unfold lupd; rw [if_pos ⟨h0, h1⟩]
end Go.Proofs.Ytnfalgmfmiolbaa
end

section
namespace Go.Proofs.Ytnfalgmfmiolbaa
set_option linter.unusedVariables false
def at' {α : Type} (d : α) (l : List α) (b : Int) : α := l.getD b.toNat d
theorem at_idx {α : Type} (d : α) {l : List α} {b : Int} (h0 : 0 ≤ b) (h1 : b < l.length) : lidx l b = some (at' d l b) := lidx_ok d h0 h1
theorem at_set {α : Type} (d : α) {l : List α} {b c : Int} {y : α} (h0 : 0 ≤ b) (h1 : b < l.length) (hc : 0 ≤ c) : at' d (l.set b.toNat y) c = if c = b then y else at' d l c := by
  unfold at'
  rw [List.getD_eq_getElem?_getD, List.getElem?_set]
  by_cases h : c = b
  · subst h; rw [if_pos rfl, if_pos rfl, if_pos (by omega)]; rfl
  · rw [if_neg (by omega), if_neg h, List.getD_eq_getElem?_getD]
theorem at_mem {α : Type} (d : α) {l : List α} {b : Int} (h0 : 0 ≤ b) (h1 : b < l.length) : at' d l b ∈ l := by
  unfold at'
  rw [List.getD_eq_getElem?_getD, List.getElem?_eq_getElem (by omega)]
  exact List.getElem_mem _
theorem at_of_mem {α : Type} (d : α) {l : List α} {x : α} (h : x ∈ l) : ∃ b : Int, 0 ≤ b ∧ b < l.length ∧ at' d l b = x := by
  obtain ⟨i, hi, rfl⟩ := List.getElem_of_mem h
  refine ⟨i, by omega, by omega, ?_⟩
  unfold at'
  rw [Int.toNat_natCast, List.getD_eq_getElem?_getD, List.getElem?_eq_getElem hi]; rfl
theorem count_setN {α : Type} [DecidableEq α] (d j y : α) : ∀ (l : List α) (n : Nat), n < l.length → (l.set n y).count j + (if l.getD n d = j then 1 else 0) = l.count j + (if y = j then 1 else 0)
  | [], n, h => by simp at h
  | x :: l, 0, h => by
    simp only [List.set_cons_zero, List.getD_cons_zero, List.count_cons, beq_iff_eq]
    omega
  | x :: l, n + 1, h => by
    have := count_setN d j y l n (by simpa using h)
    simp only [List.set_cons_succ, List.getD_cons_succ, List.count_cons]
    omega
theorem count_set' {α : Type} [DecidableEq α] (d : α) (j y : α) {l : List α} {b : Int} (h0 : 0 ≤ b) (h1 : b < l.length) : (l.set b.toNat y).count j + (if at' d l b = j then 1 else 0) = l.count j + (if y = j then 1 else 0) :=
  count_setN d j y l b.toNat (by omega)
theorem count_false_lt {l : List Bool} {b : Int} (h0 : 0 ≤ b) (h1 : b < l.length) (h : at' false l b = false) : (l.set b.toNat true).count false + 1 = l.count false := by
  have := count_set' false false true h0 h1
  rw [h] at this
  simpa using this
theorem count_le_of {s t : List Bool} (hl : s.length = t.length) (h : ∀ b : Int, 0 ≤ b → b < s.length → at' false s b = true → at' false t b = true) : t.count false ≤ s.count false := by
  induction s generalizing t with
  | nil => cases t with
    | nil => simp
    | cons _ _ => simp at hl
  | cons x s ih =>
    cases t with
    | nil => simp at hl
    | cons y t =>
      simp only [List.length_cons, Nat.add_right_cancel_iff] at hl
      have h1 := ih hl fun b h0 hb ht => by
        have := h (b + 1) (by omega) (by simp; omega)
        have e : (b + 1).toNat = b.toNat + 1 := by omega
        simp only [at', e, List.getD_cons_succ] at this
        exact this ht
      have h2 := h 0 (by omega) (by simp only [List.length_cons]; omega)
      simp only [at', Int.toNat_zero, List.getD_cons_zero] at h2
      simp only [List.count_cons]
      cases x <;> cases y
      · simp; omega
      · simp; omega
      · exact absurd (h2 rfl) (by simp)
      · simp; omega
def HomesOK (B : Int) (homes : List (List Int)) : Prop := ∀ l ∈ homes, ∀ b ∈ l, 0 ≤ b ∧ b < B
def BkOK (B : Int) (homes : List (List Int)) (bk : List Int) : Prop := (bk.length : Int) = B ∧ ∀ v ∈ bk, -1 ≤ v ∧ v < homes.length
abbrev Bk := List Int
structure Won (B : Int) (homes : List (List Int)) (fixed seen : List Bool) (i : Int) (bk bk' : Bk) : Prop where
  ok : BkOK B homes bk'
  still : ∀ b, 0 ≤ b → b < B → (at' false seen b = true ∨ at' false fixed b = true) → at' (-1) bk' b = at' (-1) bk b
  kept : ∀ b, 0 ≤ b → b < B → 0 ≤ at' (-1) bk b → 0 ≤ at' (-1) bk' b
  edge : ∀ b, 0 ≤ b → b < B → at' (-1) bk' b = at' (-1) bk b ∨ (0 ≤ at' (-1) bk' b ∧ b ∈ at' [] homes (at' (-1) bk' b))
  count : ∀ j, 0 ≤ j → bk'.count j = bk.count j + if i = j then 1 else 0
structure Lost (B : Int) (homes : List (List Int)) (fixed seen seen' : List Bool) (hs : List Int) (bk : Bk) : Prop where
  all : ∀ b ∈ hs, at' false fixed b = true ∨ at' false seen' b = true
  closed : ∀ b, 0 ≤ b → b < B → at' false seen' b = true → at' false seen b = false → 0 ≤ at' (-1) bk b ∧ at' false fixed b = false ∧ ∀ c ∈ at' [] homes (at' (-1) bk b), at' false fixed c = true ∨ at' false seen' c = true
def SeenLe (B : Int) (s t : List Bool) : Prop := ∀ b, 0 ≤ b → b < B → at' false s b = true → at' false t b = true
theorem place_loop (B : Int) (homes : List (List Int)) (fixed : List Bool) (hh : HomesOK B homes) (hf : (fixed.length : Int) = B) (i : Int) (hi : 0 ≤ i ∧ i < homes.length) (m : Nat)
    (ih : ∀ (i : Int) (seen : List Bool) (bk : Bk), 0 ≤ i → i < homes.length → (seen.length : Int) = B → BkOK B homes bk → seen.count false < m → ∃ r bk' seen', cuckoo_placing_place_R m (homes, bk, fixed) i seen = some (r, bk', seen') ∧ (seen'.length : Int) = B ∧ SeenLe B seen seen' ∧
      (r = true → Won B homes fixed seen i bk bk') ∧ (r = false → bk' = bk ∧ Lost B homes fixed seen seen' (at' [] homes i) bk)) :
    ∀ (hs : List Int) (seen : List Bool) (bk : Bk), (∀ b ∈ hs, b ∈ at' [] homes i) → (seen.length : Int) = B → BkOK B homes bk → seen.count false < m + 1 →
      ∃ r bk' seen', cuckoo_placing_place_L1 (cuckoo_placing_place_R m) i homes fixed hs seen bk = some (r, bk', seen') ∧ (seen'.length : Int) = B ∧ SeenLe B seen seen' ∧
        (r = true → Won B homes fixed seen i bk bk') ∧ (r = false → bk' = bk ∧ Lost B homes fixed seen seen' hs bk)
  | [], seen, bk, _, hs, hb, _ => ⟨false, bk, seen, rfl, hs, fun _ _ _ h => h, by simp, fun _ => ⟨rfl, by simp, fun b _ _ h1 h2 => by rw [h1] at h2; cases h2⟩⟩
  | b :: hs, seen, bk, hm, hs', hb, hc => by
    have hbi : b ∈ at' [] homes i := hm b List.mem_cons_self
    obtain ⟨b0, bB⟩ := hh _ (at_mem [] hi.1 hi.2) b hbi
    have ih2 := fun seen bk => place_loop B homes fixed hh hf i hi m ih hs seen bk (fun c h => hm c (List.mem_cons_of_mem _ h))
    rw [cuckoo_placing_place_L1]
    unfold cuckoo_placing_place_B1
    rw [at_idx false b0 (by omega), at_idx false b0 (by omega)]
    simp only [Option.bind_some]
    have hskip : (at' false seen b = true ∨ at' false fixed b = true) → ∃ r bk' seen', cuckoo_placing_place_L1 (cuckoo_placing_place_R m) i homes fixed hs seen bk = some (r, bk', seen') ∧ (seen'.length : Int) = B ∧ SeenLe B seen seen' ∧
        (r = true → Won B homes fixed seen i bk bk') ∧ (r = false → bk' = bk ∧ Lost B homes fixed seen seen' (b :: hs) bk) := fun hsf => by
      obtain ⟨r, bk', seen', e, h1, h2, h3, h4⟩ := ih2 seen bk hs' hb hc
      refine ⟨r, bk', seen', e, h1, h2, h3, fun hr => ⟨(h4 hr).1, fun c hc' => ?_, (h4 hr).2.closed⟩⟩
      rcases List.mem_cons.1 hc' with rfl | hc'
      · rcases hsf with h | h
        · exact .inr (h2 _ b0 bB h)
        · exact .inl h
      · exact (h4 hr).2.all c hc'
    by_cases h1 : at' false seen b = true
    · rw [if_pos h1]; simp only [Option.bind_some, if_true]; exact hskip (.inl h1)
    · rw [if_neg h1]
      simp only [Option.bind_some]
      by_cases h2 : at' false fixed b = true
      · rw [if_pos h2]; exact hskip (.inr h2)
      · rw [if_neg h2, at_idx (-1) b0 (by rw [hb.1]; exact bB)]
        simp only [Option.bind_some]
        have h1' : at' false seen b = false := by simpa using h1
        have h2' : at' false fixed b = false := by simpa using h2
        have hbl : b < bk.length := by rw [hb.1]; exact bB
        by_cases h3 : at' (-1) bk b < 0
        · rw [if_pos h3, lupd_ok b0 hbl]
          simp only [Option.bind_some]
          refine ⟨true, _, seen, rfl, hs', fun _ _ _ h => h, fun _ => ⟨⟨by simpa using hb.1, fun v hv => ?_⟩, fun c c0 cB hc' => ?_, fun c c0 cB hc' => ?_, fun c c0 cB => ?_, fun j hj => ?_⟩, by simp⟩
          · rcases List.mem_or_eq_of_mem_set hv with h | rfl
            · exact hb.2 v h
            · omega
          · rw [at_set (-1) b0 hbl c0]
            split
            · rename_i e; subst e; rcases hc' with h | h
              · rw [h1'] at h; cases h
              · rw [h2'] at h; cases h
            · rfl
          · rw [at_set (-1) b0 hbl c0]; split
            · exact hi.1
            · exact hc'
          · rw [at_set (-1) b0 hbl c0]; split
            · rename_i e; subst e; exact .inr ⟨hi.1, hbi⟩
            · exact .inl rfl
          · have := count_set' (-1) j i b0 hbl
            rw [if_neg (by omega : ¬ at' (-1) bk b = j)] at this
            simpa using this
        · rw [if_neg h3, lupd_ok b0 (by omega)]
          simp only [Option.bind_some]
          have hlt : b < seen.length := by omega
          have ho := hb.2 _ (at_mem (-1) b0 hbl)
          obtain ⟨r, bk1, seen1, e1, l1, m1, w1, f1⟩ := ih (at' (-1) bk b) (seen.set b.toNat true) bk (by omega) ho.2 (by simpa using hs') hb (by have := count_false_lt b0 hlt h1'; omega)
          rw [e1]
          simp only [Option.bind_some]
          have hsb : at' false (seen.set b.toNat true) b = true := by rw [at_set false b0 hlt b0, if_pos rfl]
          have hle : SeenLe B seen (seen.set b.toNat true) := fun c c0 cB h => by rw [at_set false b0 hlt c0]; split; rfl; exact h
          cases r with
          | true =>
            have hw := w1 rfl
            have hb1 : b < bk1.length := by rw [hw.ok.1]; exact bB
            rw [if_pos rfl, at_idx (-1) b0 hb1]
            simp only [Option.bind_some]
            rw [lupd_ok b0 hb1]
            simp only [Option.bind_some]
            have hst : at' (-1) bk1 b = at' (-1) bk b := hw.still b b0 bB (.inl hsb)
            refine ⟨true, _, seen1, rfl, l1, fun c c0 cB h => m1 c c0 cB (hle c c0 cB h), fun _ => ⟨⟨by simpa using hw.ok.1, fun v hv => ?_⟩, fun c c0 cB hc' => ?_, fun c c0 cB hc' => ?_, fun c c0 cB => ?_, fun j hj => ?_⟩, by simp⟩
            · rcases List.mem_or_eq_of_mem_set hv with h | rfl
              · exact hw.ok.2 v h
              · omega
            · rw [at_set (-1) b0 hb1 c0]
              split
              · rename_i e; subst e; rcases hc' with h | h
                · rw [h1'] at h; cases h
                · rw [h2'] at h; cases h
              · exact hw.still c c0 cB (hc'.imp (hle c c0 cB) id)
            · rw [at_set (-1) b0 hb1 c0]; split
              · exact hi.1
              · exact hw.kept c c0 cB hc'
            · rw [at_set (-1) b0 hb1 c0]; split
              · rename_i e; subst e; exact .inr ⟨hi.1, hbi⟩
              · exact hw.edge c c0 cB
            · have h5 := count_set' (-1) j i b0 hb1
              have h6 := hw.count j hj
              rw [hst] at h5
              omega
          | false =>
            rw [if_neg (by simp)]
            obtain ⟨rfl, hlost⟩ := f1 rfl
            have hcle := count_le_of (s := seen.set b.toNat true) (t := seen1) (by rw [List.length_set]; omega) (fun c c0 cl h => m1 c c0 (by simp at cl; omega) h)
            have hcl := count_false_lt b0 hlt h1'
            obtain ⟨r, bk2, seen2, e2, l2, m2, w2, f2⟩ := ih2 seen1 bk1 l1 hb (by omega)
            refine ⟨r, bk2, seen2, e2, l2, fun c c0 cB h => m2 c c0 cB (m1 c c0 cB (hle c c0 cB h)), fun hr => ?_, fun hr => ?_⟩
            · have hw := w2 hr
              exact ⟨hw.ok, fun c c0 cB hc' => hw.still c c0 cB (hc'.imp (fun h => m1 c c0 cB (hle c c0 cB h)) id), hw.kept, hw.edge, hw.count⟩
            · obtain ⟨rfl, hl2⟩ := f2 hr
              refine ⟨rfl, fun c hc' => ?_, fun c c0 cB hs2 hs0 => ?_⟩
              · rcases List.mem_cons.1 hc' with rfl | hc'
                · exact .inr (m2 _ b0 bB (m1 _ b0 bB hsb))
                · exact hl2.all c hc'
              · have hup : ∀ x ∈ at' [] homes (at' (-1) bk2 c), 0 ≤ at' (-1) bk2 c → (at' false fixed x = true ∨ at' false seen1 x = true) → at' false fixed x = true ∨ at' false seen2 x = true := fun x hx h0 h => by
                  have hv := hb.2 _ (at_mem (-1) c0 (by rw [hb.1]; exact cB))
                  obtain ⟨x0, xB⟩ := hh _ (at_mem [] h0 hv.2) x hx
                  exact h.imp id (m2 x x0 xB)
                by_cases hs1 : at' false seen1 c = true
                · by_cases hcb : c = b
                  · subst hcb
                    refine ⟨by omega, h2', fun x hx => hup x hx (by omega) (hlost.all x hx)⟩
                  · have hs3 : at' false (seen.set b.toNat true) c = false := by rw [at_set false b0 hlt c0, if_neg hcb]; exact hs0
                    obtain ⟨g1, g2, g3⟩ := hlost.closed c c0 cB hs1 hs3
                    exact ⟨g1, g2, fun x hx => hup x hx g1 (g3 x hx)⟩
                · exact hl2.closed c c0 cB hs2 (by simpa using hs1)
theorem place_ok (B : Int) (homes : List (List Int)) (fixed : List Bool) (hh : HomesOK B homes) (hf : (fixed.length : Int) = B) : ∀ (m : Nat) (i : Int) (seen : List Bool) (bk : Bk), 0 ≤ i → i < homes.length → (seen.length : Int) = B → BkOK B homes bk → seen.count false < m →
    ∃ r bk' seen', cuckoo_placing_place_R m (homes, bk, fixed) i seen = some (r, bk', seen') ∧ (seen'.length : Int) = B ∧ SeenLe B seen seen' ∧ (r = true → Won B homes fixed seen i bk bk') ∧ (r = false → bk' = bk ∧ Lost B homes fixed seen seen' (at' [] homes i) bk)
  | 0, i, seen, bk, _, _, _, _, h => by omega
  | m + 1, i, seen, bk, h0, h1, hs, hb, hc => by
    rw [cuckoo_placing_place_R]
    unfold cuckoo_placing_place_B2
    rw [at_idx [] h0 h1]
    simp only [Option.bind_some]
    exact place_loop B homes fixed hh hf i ⟨h0, h1⟩ m (place_ok B homes fixed hh hf m) _ seen bk (fun _ h => h) hs hb hc
end Go.Proofs.Ytnfalgmfmiolbaa
namespace Go.Proofs.Ytnfalgmfmiolbaa
set_option linter.unusedVariables false
theorem pig : ∀ {l m : List Int}, l.Nodup → (∀ x ∈ l, x ∈ m) → l.length ≤ m.length
  | [], m, _, _ => by simp
  | x :: l, m, hn, hs => by
    obtain ⟨h1, h2⟩ := List.nodup_cons.1 hn
    have hx := hs x List.mem_cons_self
    have h3 := pig (l := l) (m := m.erase x) h2 fun y hy => by
      have hne : y ≠ x := fun e => h1 (e ▸ hy)
      exact (List.mem_erase_of_ne hne).2 (hs y (List.mem_cons_of_mem _ hy))
    have h4 := List.length_erase_of_mem hx
    have h5 : 0 < m.length := List.length_pos_of_mem hx
    simp only [List.length_cons]; omega
theorem nodup_map {α β : Type} {f : α → β} : ∀ {l : List α}, l.Nodup → (∀ x ∈ l, ∀ y ∈ l, f x = f y → x = y) → (l.map f).Nodup
  | [], _, _ => by simp
  | x :: l, hn, hi => by
    obtain ⟨h1, h2⟩ := List.nodup_cons.1 hn
    rw [List.map_cons, List.nodup_cons]
    refine ⟨fun hm => ?_, nodup_map h2 fun a ha b hb => hi a (List.mem_cons_of_mem _ ha) b (List.mem_cons_of_mem _ hb)⟩
    obtain ⟨y, hy, e⟩ := List.mem_map.1 hm
    have := hi y (List.mem_cons_of_mem _ hy) x List.mem_cons_self e
    exact h1 (this ▸ hy)
theorem at_count {l : List Int} {b c j : Int} (hb : 0 ≤ b ∧ b < l.length) (hc : 0 ≤ c ∧ c < l.length) (h1 : at' (-1) l b = j) (h2 : at' (-1) l c = j) (hne : b ≠ c) : 2 ≤ l.count j := by
  have h3 := count_set' (-1) j (j + 1) hb.1 hb.2
  rw [if_pos h1, if_neg (by omega)] at h3
  have h4 : at' (-1) (l.set b.toNat (j + 1)) c = j := by rw [at_set (-1) hb.1 hb.2 hc.1, if_neg (fun e => hne e.symm)]; exact h2
  have h5 := at_mem (-1) (l := l.set b.toNat (j + 1)) hc.1 (by simpa using hc.2)
  rw [h4] at h5
  have := List.count_pos_iff.2 h5
  omega
theorem at_count1 {l : List Int} {b j : Int} (hb : 0 ≤ b ∧ b < l.length) (h1 : at' (-1) l b = j) : 1 ≤ l.count j := List.count_pos_iff.2 (h1 ▸ at_mem (-1) hb.1 hb.2)
def Places (homes : List (List Int)) (fixed : List Bool) (a : Int) (f : Int → Int) : Prop :=
  (∀ j, a ≤ j → j < homes.length → f j ∈ at' [] homes j ∧ at' false fixed (f j) = false) ∧ ∀ j k, a ≤ j → j < homes.length → a ≤ k → k < homes.length → f j = f k → j = k
def Placeable (homes : List (List Int)) (fixed : List Bool) (a : Int) : Prop := ∃ f, Places homes fixed a f
structure Stand (B : Int) (homes : List (List Int)) (fixed : List Bool) (a i : Int) (bk : Bk) : Prop where
  ok : BkOK B homes bk
  le : ∀ j, 0 ≤ j → bk.count j ≤ 1
  one : ∀ j, a ≤ j → j < i → bk.count j = 1
  none : ∀ j, i ≤ j → bk.count j = 0
  free : ∀ b, 0 ≤ b → b < B → at' false fixed b = false → 0 ≤ at' (-1) bk b → a ≤ at' (-1) bk b ∧ b ∈ at' [] homes (at' (-1) bk b)
  fix : ∀ b, 0 ≤ b → b < B → at' false fixed b = true → at' (-1) bk b < a
theorem Stand.places {B : Int} {homes : List (List Int)} {fixed : List Bool} {a : Int} {bk : Bk} (ha : 0 ≤ a) (h : Stand B homes fixed a homes.length bk) : Placeable homes fixed a := by
  classical
  have hex : ∀ j, a ≤ j → j < homes.length → ∃ b, 0 ≤ b ∧ b < B ∧ at' (-1) bk b = j := fun j h1 h2 => by
    have hm : j ∈ bk := List.count_pos_iff.1 (by rw [h.one j h1 h2]; omega)
    obtain ⟨b, h3, h4, h5⟩ := at_of_mem (-1) hm
    exact ⟨b, h3, by rw [← h.ok.1]; exact h4, h5⟩
  refine ⟨fun j => if hj : ∃ b, 0 ≤ b ∧ b < B ∧ at' (-1) bk b = j then hj.choose else 0, fun j h1 h2 => ?_, fun j k h1 h2 h3 h4 e => ?_⟩
  · have hj := hex j h1 h2
    have := hj.choose_spec
    simp only [dif_pos hj]
    obtain ⟨b0, bB, hb⟩ := this
    by_cases hfx : at' false fixed hj.choose = true
    · have := h.fix _ b0 bB hfx; omega
    · have hfx' : at' false fixed hj.choose = false := by simpa using hfx
      refine ⟨?_, hfx'⟩
      have := (h.free _ b0 bB hfx' (by omega)).2
      rwa [hb] at this
  · have hj := hex j h1 h2
    have hk := hex k h3 h4
    simp only [dif_pos hj, dif_pos hk] at e
    rw [← hj.choose_spec.2.2, ← hk.choose_spec.2.2, e]
theorem no_way {B : Int} {homes : List (List Int)} {fixed seen seen' : List Bool} {a i : Int} {bk : Bk} (hh : HomesOK B homes) (hs : Stand B homes fixed a i bk) (ha : 0 ≤ a ∧ a ≤ i) (hi : i < homes.length) (h0 : ∀ b, 0 ≤ b → b < B → at' false seen b = false)
    (hl : Lost B homes fixed seen seen' (at' [] homes i) bk) : ¬ Placeable homes fixed a := by
  rintro ⟨f, hf1, hf2⟩
  let R : List Int := ((List.range B.toNat).map fun (b : Nat) => (b : Int)).filter fun b => at' false seen' b
  have hR : ∀ b, b ∈ R ↔ (0 ≤ b ∧ b < B) ∧ at' false seen' b = true := fun b => by
    simp only [R, List.mem_filter, List.mem_map, List.mem_range]
    constructor
    · rintro ⟨⟨n, hn, rfl⟩, h⟩; exact ⟨⟨by omega, by omega⟩, h⟩
    · rintro ⟨⟨h1, h2⟩, h⟩; exact ⟨⟨b.toNat, by omega, by omega⟩, h⟩
  have hRn : R.Nodup := List.Pairwise.filter _ (nodup_map List.nodup_range fun x _ y _ e => by omega)
  have hcl : ∀ b ∈ R, 0 ≤ at' (-1) bk b ∧ at' false fixed b = false ∧ ∀ c ∈ at' [] homes (at' (-1) bk b), at' false fixed c = true ∨ at' false seen' c = true := fun b hb => by
    obtain ⟨⟨b0, bB⟩, h⟩ := (hR b).1 hb
    exact hl.closed b b0 bB h (h0 b b0 bB)
  have hin : ∀ b ∈ R, a ≤ at' (-1) bk b ∧ at' (-1) bk b < i := fun b hb => by
    obtain ⟨⟨b0, bB⟩, h⟩ := (hR b).1 hb
    obtain ⟨g1, g2, _⟩ := hcl b hb
    refine ⟨(hs.free b b0 bB g2 g1).1, ?_⟩
    rcases Int.lt_or_le (at' (-1) bk b) i with h | h
    · exact h
    · have h1 := hs.none _ h
      have h2 := at_count1 (l := bk) ⟨b0, by rw [hs.ok.1]; exact bB⟩ rfl
      omega
  -- the items that are in the way, and the new one
  have hXn : (i :: R.map fun b => at' (-1) bk b).Nodup := by
    refine List.nodup_cons.2 ⟨fun hm => ?_, nodup_map hRn fun x hx y hy e => ?_⟩
    · obtain ⟨b, hb, e⟩ := List.mem_map.1 hm
      have := (hin b hb).2; omega
    · rcases Decidable.em (x = y) with h | h
      · exact h
      · obtain ⟨⟨x0, xB⟩, _⟩ := (hR x).1 hx
        obtain ⟨⟨y0, yB⟩, _⟩ := (hR y).1 hy
        have h1 := at_count (l := bk) ⟨x0, by rw [hs.ok.1]; exact xB⟩ ⟨y0, by rw [hs.ok.1]; exact yB⟩ rfl e.symm h
        have h2 := hs.one _ (hin x hx).1 (hin x hx).2
        omega
  have hXr : ∀ x ∈ (i :: R.map fun b => at' (-1) bk b), (a ≤ x ∧ x < homes.length) ∧ f x ∈ R := fun x hx => by
    rcases List.mem_cons.1 hx with rfl | hx
    · obtain ⟨h1, h2⟩ := hf1 x ha.2 hi
      refine ⟨⟨ha.2, hi⟩, (hR _).2 ⟨hh _ (at_mem [] (by omega) hi) _ h1, ?_⟩⟩
      rcases hl.all _ h1 with h | h
      · rw [h2] at h; cases h
      · exact h
    · obtain ⟨b, hb, rfl⟩ := List.mem_map.1 hx
      have hr := hin b hb
      obtain ⟨h1, h2⟩ := hf1 _ hr.1 (by omega)
      refine ⟨⟨hr.1, by omega⟩, (hR _).2 ⟨hh _ (at_mem [] (by omega) (by omega)) _ h1, ?_⟩⟩
      rcases (hcl b hb).2.2 _ h1 with h | h
      · rw [h2] at h; cases h
      · exact h
  have h1 := pig (nodup_map (f := f) hXn fun x hx y hy e => hf2 x y (hXr x hx).1.1 (hXr x hx).1.2 (hXr y hy).1.1 (hXr y hy).1.2 e) (m := R) (fun y hy => by
    obtain ⟨x, hx, rfl⟩ := List.mem_map.1 hy
    exact (hXr x hx).2)
  simp at h1
  omega
theorem Stand.won {B : Int} {homes : List (List Int)} {fixed seen : List Bool} {a i : Int} {bk bk' : Bk} (hs : Stand B homes fixed a i bk) (ha : 0 ≤ a ∧ a ≤ i) (hw : Won B homes fixed seen i bk bk') : Stand B homes fixed a (i + 1) bk' where
  ok := hw.ok
  le j h := by
    rw [hw.count j h]
    by_cases he : i = j
    · rw [if_pos he, hs.none j (by omega)]; omega
    · rw [if_neg he]; exact hs.le j h
  one j h1 h2 := by
    rw [hw.count j (by omega)]
    by_cases h : i = j
    · rw [if_pos h, hs.none j (by omega)]
    · rw [if_neg h, hs.one j h1 (by omega)]
  none j h := by rw [hw.count j (by omega), if_neg (by omega), hs.none j (by omega)]
  free b b0 bB hf hb := by
    rcases hw.edge b b0 bB with h | ⟨_, h⟩
    · rw [h] at hb ⊢; exact hs.free b b0 bB hf hb
    · refine ⟨?_, h⟩
      -- it is i, or stood somewhere
      rcases Int.lt_or_le (at' (-1) bk' b) a with hlt | hge
      · exfalso
        have hne : i ≠ at' (-1) bk' b := by omega
        have h1 := hw.count _ hb
        rw [if_neg hne] at h1
        have h2 := at_count1 (l := bk') ⟨b0, by rw [hw.ok.1]; exact bB⟩ rfl
        have hm : at' (-1) bk' b ∈ bk := List.count_pos_iff.1 (by omega)
        obtain ⟨c, c0, cB, hc⟩ := at_of_mem (-1) hm
        have cB' : c < B := by rw [← hs.ok.1]; exact cB
        by_cases hfc : at' false fixed c = true
        · -- c is fixed, and holds it still; so do two buckets
          have h3 := hw.still c c0 cB' (.inr hfc)
          have hbc : b ≠ c := fun e => by subst e; rw [hf] at hfc; cases hfc
          have h4 := at_count (l := bk') ⟨b0, by rw [hw.ok.1]; exact bB⟩ ⟨c0, by rw [hw.ok.1]; exact cB'⟩ rfl (by rw [h3, hc]) hbc
          have h5 := hs.le _ hb
          omega
        · have := (hs.free c c0 cB' (by simpa using hfc) (by rw [hc]; exact hb)).1
          rw [hc] at this; omega
      · exact hge
  fix b b0 bB hf := by rw [hw.still b b0 bB (.inr hf)]; exact hs.fix b b0 bB hf
theorem all_L (B : Int) (homes : List (List Int)) (fixed : List Bool) (hh : HomesOK B homes) (hf : (fixed.length : Int) = B) (hB : B ≤ 1000) (hn : (homes.length : Int) ≤ 100000) (a : Int) (ha : 0 ≤ a) :
    ∀ (m : Nat) (i : Int) (bk : Bk), a ≤ i → i ≤ homes.length → (homes.length : Int) - i < m → Stand B homes fixed a i bk →
      ∃ r bk', cuckoo_placing_all_L1 homes fixed m i bk = some (r, bk') ∧ (r = true → Stand B homes fixed a homes.length bk' ∧ ∀ b, 0 ≤ b → b < B → at' false fixed b = true → at' (-1) bk' b = at' (-1) bk b) ∧ (r = true ↔ Placeable homes fixed a)
  | 0, i, bk, _, h2, h3, _ => by omega
  | m + 1, i, bk, h1, h2, h3, hs => by
    rw [cuckoo_placing_all_L1]
    unfold cuckoo_placing_all_B1
    by_cases hi : i < homes.length
    · rw [if_pos hi]
      have hbl := hs.ok.1
      have hmk : lmk (bk.length : Int) false = some (List.replicate bk.length false) := by
        unfold lmk; rw [if_pos (by omega), Int.toNat_natCast]
      rw [hmk]
      simp only [Option.bind_some]
      have h0 : ∀ b, 0 ≤ b → b < B → at' false (List.replicate bk.length false) b = false := fun b b0 bB => by
        unfold at'
        rw [List.getD_eq_getElem?_getD, List.getElem?_replicate]; split <;> rfl
      obtain ⟨r, bk1, seen1, e, l1, m1, w1, f1⟩ := place_ok B homes fixed hh hf big i (List.replicate bk.length false) bk (by omega) hi (by simpa using hbl) hs.ok (by
        have := List.count_le_length (a := false) (l := List.replicate bk.length false)
        rw [List.length_replicate] at this
        simp only [big]; omega)
      unfold cuckoo_placing_place
      rw [e]
      simp only [Option.bind_some]
      cases r with
      | true =>
        simp only [Bool.not_true, Bool.false_eq_true, if_false]
        rw [w64_id (by omega) (by omega)]
        have hw := w1 rfl
        obtain ⟨r, bk2, e2, g1, g2⟩ := all_L B homes fixed hh hf hB hn a ha m (i + 1) bk1 (by omega) (by omega) (by omega) (hs.won ⟨ha, h1⟩ hw)
        exact ⟨r, bk2, e2, fun hr => ⟨(g1 hr).1, fun b b0 bB hb => by rw [(g1 hr).2 b b0 bB hb, hw.still b b0 bB (.inr hb)]⟩, g2⟩
      | false =>
        simp only [Bool.not_false, if_true]
        obtain ⟨rfl, hl⟩ := f1 rfl
        exact ⟨false, bk1, rfl, by simp, by simp [no_way hh hs ⟨ha, h1⟩ hi h0 hl]⟩
    · rw [if_neg hi]
      have : i = homes.length := by omega
      subst this
      exact ⟨true, bk, rfl, fun _ => ⟨hs, fun _ _ _ _ => rfl⟩, by simp [hs.places ha]⟩
theorem all_ok {B : Int} {homes : List (List Int)} {fixed : List Bool} (hh : HomesOK B homes) (hf : (fixed.length : Int) = B) (hB : B ≤ 1000) (hn : (homes.length : Int) ≤ 100000) {a : Int} (ha : 0 ≤ a ∧ a ≤ homes.length) {bk : Bk} (hs : Stand B homes fixed a a bk) :
    ∃ r bk', cuckoo_placing_all (homes, bk, fixed) a = some (r, bk') ∧ (r = true → Stand B homes fixed a homes.length bk' ∧ ∀ b, 0 ≤ b → b < B → at' false fixed b = true → at' (-1) bk' b = at' (-1) bk b) ∧ (r = true ↔ Placeable homes fixed a) := by
  unfold cuckoo_placing_all
  exact all_L B homes fixed hh hf hB hn a ha.1 big a bk (Int.le_refl _) ha.2 (by simp only [big]; omega) hs
end Go.Proofs.Ytnfalgmfmiolbaa
namespace Go.Proofs.Ytnfalgmfmiolbaa
set_option linter.unusedVariables false
structure Fst (B : Int) (homes : List (List Int)) (fixed : List Bool) (i : Int) (bk : Bk) : Prop where
  ok : BkOK B homes bk
  len : (fixed.length : Int) = B
  le : ∀ j, 0 ≤ j → bk.count j ≤ 1
  fix : ∀ b, 0 ≤ b → b < B → (at' false fixed b = true ↔ 0 ≤ at' (-1) bk b)
  lt : ∀ b, 0 ≤ b → b < B → at' (-1) bk b < i
theorem Fst.stand {B : Int} {homes : List (List Int)} {fixed : List Bool} {i : Int} {bk : Bk} (h : Fst B homes fixed i bk) : Stand B homes fixed i i bk where
  ok := h.ok
  le := h.le
  one j h1 h2 := by omega
  none j hj := by
    rcases Nat.eq_zero_or_pos (bk.count j) with h0 | h0
    · exact h0
    · obtain ⟨b, b0, bB, e⟩ := at_of_mem (-1) (List.count_pos_iff.1 h0)
      have := h.lt b b0 (by rw [← h.ok.1]; exact bB)
      omega
  free b b0 bB hf hb := by have := (h.fix b b0 bB).2 hb; rw [hf] at this; cases this
  fix b b0 bB _ := h.lt b b0 bB
theorem set_at {α : Type} (d : α) {l : List α} {b : Int} {y : α} (h0 : 0 ≤ b) (h1 : b < l.length) (h : at' d l b = y) : l.set b.toNat y = l := by
  have hlt : b.toNat < l.length := by omega
  have : l[b.toNat] = y := by
    rw [← h]; unfold at'; rw [List.getD_eq_getElem?_getD, List.getElem?_eq_getElem hlt]; rfl
  rw [← this]; exact List.set_getElem_self hlt
theorem rest_loop {B : Int} {homes : List (List Int)} {fixed : List Bool} {i : Int} {bk : Bk} (h : Fst B homes fixed i bk) (kx : List Int → Option Bool) : ∀ (xs : List Int) (n : Nat), bk.drop n = xs → cuckoo_placing_rest_L2 kx fixed xs n bk = kx bk
  | [], n, _ => rfl
  | x :: xs, n, hd => by
    have hn : n < bk.length := by
      rcases Nat.lt_or_ge n bk.length with h | h
      · exact h
      · rw [List.drop_eq_nil_of_le h] at hd; cases hd
    have hd' : bk.drop (n + 1) = xs := by rw [← List.drop_drop, hd]; rfl
    have hb := h.ok.1
    have hl := h.len
    rw [cuckoo_placing_rest_L2]
    unfold cuckoo_placing_rest_B2
    rw [at_idx false (by omega) (by omega)]
    simp only [Option.bind_some]
    by_cases hf : at' false fixed (n : Int) = true
    · rw [hf]; simp only [Bool.not_true, Bool.false_eq_true, if_false]
      exact rest_loop h kx xs (n + 1) hd'
    · have hf' : at' false fixed (n : Int) = false := by simpa using hf
      rw [hf']; simp only [Bool.not_false, if_true]
      have hneg : at' (-1) bk (n : Int) = -1 := by
        have h1 : ¬ 0 ≤ at' (-1) bk (n : Int) := fun hh => hf ((h.fix n (by omega) (by omega)).2 hh)
        have h2 := (h.ok.2 _ (at_mem (-1) (l := bk) (b := (n : Int)) (by omega) (by omega))).1
        omega
      rw [at_idx (-1) (by omega) (by omega), lupd_ok (by omega) (by omega)]
      simp only [Option.bind_some]
      rw [set_at (-1) (by omega) (by omega) hneg]
      exact rest_loop h kx xs (n + 1) hd'
theorem rest_ok {B : Int} {homes : List (List Int)} {fixed : List Bool} {i : Int} {bk : Bk} (hh : HomesOK B homes) (hB : B ≤ 1000) (hn : (homes.length : Int) ≤ 100000) (hi : 0 ≤ i ∧ i ≤ homes.length) (h : Fst B homes fixed i bk) :
    ∃ r, cuckoo_placing_rest (homes, bk, fixed) i = some r ∧ (r = true ↔ Placeable homes fixed i) := by
  obtain ⟨r, bk', e, _, h2⟩ := all_ok hh h.len hB hn hi h.stand
  refine ⟨r, ?_, h2⟩
  have hb := h.ok.1
  unfold cuckoo_placing_rest slices_Clone_Lintint
  rw [lapp_ok (by simp; omega)]
  simp only [Option.bind_some, List.nil_append]
  rw [rest_loop h _ bk 0 rfl]
  unfold cuckoo_placing_rest_J1
  rw [e]; rfl
theorem Fst.take {B : Int} {homes : List (List Int)} {fixed : List Bool} {i b : Int} {bk : Bk} (h : Fst B homes fixed i bk) (hi : 0 ≤ i ∧ i < homes.length) (hb : 0 ≤ b ∧ b < B) (hf : at' false fixed b = false) : Fst B homes (fixed.set b.toNat true) (i + 1) (bk.set b.toNat i) := by
  have hbl : b < bk.length := by rw [h.ok.1]; exact hb.2
  have hfl : b < fixed.length := by rw [h.len]; exact hb.2
  have hneg : ¬ 0 ≤ at' (-1) bk b := fun hh => by have := (h.fix b hb.1 hb.2).2 hh; rw [hf] at this; cases this
  refine ⟨⟨by simpa using h.ok.1, fun v hv => ?_⟩, by simpa using h.len, fun j hj => ?_, fun c c0 cB => ?_, fun c c0 cB => ?_⟩
  · rcases List.mem_or_eq_of_mem_set hv with h1 | rfl
    · exact h.ok.2 v h1
    · omega
  · have h1 := count_set' (-1) j i hb.1 hbl
    rw [if_neg (by omega : ¬ at' (-1) bk b = j)] at h1
    by_cases he : i = j
    · rw [if_pos he] at h1
      have := h.stand.none j (by omega)
      omega
    · rw [if_neg he] at h1; have := h.le j hj; omega
  · rw [at_set false hb.1 hfl c0, at_set (-1) hb.1 hbl c0]
    by_cases he : c = b
    · rw [if_pos he, if_pos he]; simp; exact hi.1
    · rw [if_neg he, if_neg he]; exact h.fix c c0 cB
  · rw [at_set (-1) hb.1 hbl c0]; split
    · omega
    · have := h.lt c c0 cB; omega
theorem Placeable.step {homes : List (List Int)} {fixed : List Bool} {i : Int} {B : Int} (hh : HomesOK B homes) (hf : (fixed.length : Int) = B) (hi : 0 ≤ i ∧ i < homes.length) :
    Placeable homes fixed i ↔ ∃ b ∈ at' [] homes i, at' false fixed b = false ∧ Placeable homes (fixed.set b.toNat true) (i + 1) := by
  constructor
  · rintro ⟨f, h1, h2⟩
    obtain ⟨hm, hfr⟩ := h1 i (Int.le_refl _) hi.2
    obtain ⟨b0, bB⟩ := hh _ (at_mem [] hi.1 hi.2) _ hm
    refine ⟨f i, hm, hfr, f, fun j hj hn => ?_, fun j k hj hn hk hkn e => h2 j k (by omega) hn (by omega) hkn e⟩
    obtain ⟨hm2, hfr2⟩ := h1 j (by omega) hn
    obtain ⟨c0, cB⟩ := hh _ (at_mem [] (by omega) hn) _ hm2
    refine ⟨hm2, ?_⟩
    rw [at_set false b0 (by omega) c0, if_neg]
    · exact hfr2
    · intro e; have := h2 j i (by omega) hn (Int.le_refl _) hi.2 e; omega
  · rintro ⟨b, hm, hfr, f, h1, h2⟩
    obtain ⟨b0, bB⟩ := hh _ (at_mem [] hi.1 hi.2) _ hm
    have hne : ∀ j, i + 1 ≤ j → j < homes.length → f j ≠ b := fun j hj hn e => by
      obtain ⟨hm2, hfr2⟩ := h1 j hj hn
      rw [e, at_set false b0 (by omega) b0, if_pos rfl] at hfr2; cases hfr2
    refine ⟨fun j => if j = i then b else f j, fun j hj hn => ?_, fun j k hj hn hk hkn e => ?_⟩
    · by_cases he : j = i
      · subst he; simp only [if_true]; exact ⟨hm, hfr⟩
      · simp only [if_neg he]
        obtain ⟨hm2, hfr2⟩ := h1 j (by omega) hn
        obtain ⟨c0, cB⟩ := hh _ (at_mem [] (by omega) hn) _ hm2
        rw [at_set false b0 (by omega) c0, if_neg (hne j (by omega) hn)] at hfr2
        exact ⟨hm2, hfr2⟩
    · by_cases he : j = i <;> by_cases hek : k = i
      · omega
      · simp only [he, if_true, if_neg hek] at e; exact absurd e.symm (hne k (by omega) hkn)
      · simp only [hek, if_true, if_neg he] at e; exact absurd e (hne j (by omega) hn)
      · simp only [if_neg he, if_neg hek] at e; exact h2 j k (by omega) hn (by omega) hkn e
def Greedy (homes : List (List Int)) : Int → List (List Int) → List Bool → Bk → Prop
  | _, [], _, _ => True
  | i, h :: hs, fixed, bk => ∃ pre b post, h = pre ++ b :: post ∧ at' false fixed b = false ∧ at' (-1) bk b = i ∧ (∀ c ∈ pre, at' false fixed c = true ∨ ¬ Placeable homes (fixed.set c.toNat true) (i + 1)) ∧
    Placeable homes (fixed.set b.toNat true) (i + 1) ∧ Greedy homes (i + 1) hs (fixed.set b.toNat true) bk
theorem first_L1 {B : Int} {homes : List (List Int)} (hh : HomesOK B homes) (hB : B ≤ 1000) (hn : (homes.length : Int) ≤ 100000) (i : Int) (hi : 0 ≤ i ∧ i < homes.length) (rec : List Int → List Bool → Option (Bool × List Int × List Bool)) {fixed : List Bool} {bk : Bk} (h : Fst B homes fixed i bk) :
    ∀ hs : List Int, (∀ b ∈ hs, 0 ≤ b ∧ b < B) →
      (cuckoo_placing_first_L1 rec i homes hs bk fixed = some (false, bk, fixed) ∧ ∀ c ∈ hs, at' false fixed c = true ∨ ¬ Placeable homes (fixed.set c.toNat true) (i + 1)) ∨
      ∃ pre b post, hs = pre ++ b :: post ∧ at' false fixed b = false ∧ (∀ c ∈ pre, at' false fixed c = true ∨ ¬ Placeable homes (fixed.set c.toNat true) (i + 1)) ∧ Placeable homes (fixed.set b.toNat true) (i + 1) ∧
        cuckoo_placing_first_L1 rec i homes hs bk fixed = rec (bk.set b.toNat i) (fixed.set b.toNat true)
  | [], _ => .inl ⟨rfl, by simp⟩
  | b :: hs, hr => by
    obtain ⟨b0, bB⟩ := hr b List.mem_cons_self
    have hbl : b < bk.length := by rw [h.ok.1]; exact bB
    have hfl : b < fixed.length := by rw [h.len]; exact bB
    have ih := first_L1 hh hB hn i hi rec h hs fun c hc => hr c (List.mem_cons_of_mem _ hc)
    have hskip : (at' false fixed b = true ∨ ¬ Placeable homes (fixed.set b.toNat true) (i + 1)) → cuckoo_placing_first_L1 rec i homes (b :: hs) bk fixed = cuckoo_placing_first_L1 rec i homes hs bk fixed →
        (cuckoo_placing_first_L1 rec i homes (b :: hs) bk fixed = some (false, bk, fixed) ∧ ∀ c ∈ b :: hs, at' false fixed c = true ∨ ¬ Placeable homes (fixed.set c.toNat true) (i + 1)) ∨
      ∃ pre b' post, b :: hs = pre ++ b' :: post ∧ at' false fixed b' = false ∧ (∀ c ∈ pre, at' false fixed c = true ∨ ¬ Placeable homes (fixed.set c.toNat true) (i + 1)) ∧ Placeable homes (fixed.set b'.toNat true) (i + 1) ∧
        cuckoo_placing_first_L1 rec i homes (b :: hs) bk fixed = rec (bk.set b'.toNat i) (fixed.set b'.toNat true) := fun hno e => by
      rw [e]
      rcases ih with ⟨h1, h2⟩ | ⟨pre, b', post, h1, h2, h3, h4, h5⟩
      · exact .inl ⟨h1, fun c hc => by rcases List.mem_cons.1 hc with rfl | hc; exact hno; exact h2 c hc⟩
      · exact .inr ⟨b :: pre, b', post, by rw [h1]; rfl, h2, fun c hc => by rcases List.mem_cons.1 hc with rfl | hc; exact hno; exact h3 c hc, h4, h5⟩
    by_cases hf : at' false fixed b = true
    · refine hskip (.inl hf) ?_
      rw [cuckoo_placing_first_L1]
      unfold cuckoo_placing_first_B1
      rw [at_idx false b0 hfl, hf]; simp only [Option.bind_some, if_true]
    · have hf' : at' false fixed b = false := by simpa using hf
      have hneg : at' (-1) bk b = -1 := by
        have h1 : ¬ 0 ≤ at' (-1) bk b := fun hh => hf ((h.fix b b0 bB).2 hh)
        have h2 := (h.ok.2 _ (at_mem (-1) b0 hbl)).1
        omega
      obtain ⟨r, e, hr2⟩ := rest_ok hh hB hn (i := i + 1) (by omega) (h.take hi ⟨b0, bB⟩ hf')
      have heq : cuckoo_placing_first_L1 rec i homes (b :: hs) bk fixed = if r = true then rec (bk.set b.toNat i) (fixed.set b.toNat true) else cuckoo_placing_first_L1 rec i homes hs bk fixed := by
        rw [cuckoo_placing_first_L1]
        unfold cuckoo_placing_first_B1
        rw [at_idx false b0 hfl, hf']
        simp only [Option.bind_some, Bool.false_eq_true, if_false]
        rw [lupd_ok b0 hfl, at_idx (-1) b0 hbl, lupd_ok b0 hbl]
        simp only [Option.bind_some]
        rw [w64_id (by omega) (by omega), e]
        simp only [Option.bind_some]
        rw [at_idx false b0 (by simpa using hfl), lupd_ok b0 (by simpa using hfl), at_idx (-1) b0 (by simpa using hbl), lupd_ok b0 (by simpa using hbl)]
        simp only [Option.bind_some, List.set_set]
        rw [set_at false b0 hfl hf', set_at (-1) b0 hbl hneg]
      cases r with
      | true => rw [if_pos rfl] at heq; exact .inr ⟨[], b, hs, rfl, hf', by simp, hr2.1 rfl, heq⟩
      | false => rw [if_neg (by simp)] at heq; exact hskip (.inr fun hp => by have := hr2.2 hp; cases this) heq
theorem first_L2 {B : Int} {homes : List (List Int)} (hh : HomesOK B homes) (hB : B ≤ 1000) (hn : (homes.length : Int) ≤ 100000) : ∀ (hs : List (List Int)) (n : Nat) (fixed : List Bool) (bk : Bk), homes.drop n = hs → Fst B homes fixed n bk → n ≤ homes.length →
    ∃ r bk' fixed', cuckoo_placing_first_L2 homes hs n bk fixed = some (r, bk', fixed') ∧ (r = true ↔ Placeable homes fixed n) ∧ (r = true → Fst B homes fixed' homes.length bk' ∧ (∀ b, 0 ≤ b → b < B → at' false fixed b = true → at' (-1) bk' b = at' (-1) bk b) ∧ Greedy homes n hs fixed bk')
  | [], n, fixed, bk, hd, h, hle => by
    have : homes.length ≤ n := List.drop_eq_nil_iff.1 hd
    have e : n = homes.length := by omega
    subst e
    exact ⟨true, bk, fixed, rfl, by simp; exact h.stand.places (by omega), fun _ => ⟨h, fun _ _ _ _ => rfl, trivial⟩⟩
  | l :: hs, n, fixed, bk, hd, h, hle => by
    have hlt : n < homes.length := by
      rcases Nat.lt_or_ge n homes.length with h | h
      · exact h
      · rw [List.drop_eq_nil_of_le h] at hd; cases hd
    have hd' : homes.drop (n + 1) = hs := by rw [← List.drop_drop, hd]; rfl
    have hl : at' [] homes (n : Int) = l := by
      unfold at'
      rw [Int.toNat_natCast, List.getD_eq_getElem?_getD, List.getElem?_eq_getElem hlt]
      rw [List.drop_eq_getElem_cons hlt] at hd
      exact (List.cons.inj hd).1
    have hi : 0 ≤ (n : Int) ∧ (n : Int) < homes.length := ⟨by omega, by omega⟩
    have hlr : ∀ b ∈ l, 0 ≤ b ∧ b < B := hl ▸ hh _ (at_mem [] hi.1 hi.2)
    rw [cuckoo_placing_first_L2]
    unfold cuckoo_placing_first_B2
    have hst := Placeable.step hh h.len hi
    rw [hl] at hst
    rcases first_L1 hh hB hn n hi (cuckoo_placing_first_L2 homes hs (n + 1)) h l hlr with ⟨h1, h2⟩ | ⟨pre, b, post, h1, h2, h3, h4, h5⟩
    · refine ⟨false, bk, fixed, h1, ?_, by simp⟩
      rw [hst]
      simp only [Bool.false_eq_true, false_iff, not_exists, not_and]
      intro b hb hf hp
      rcases h2 b hb with h | h
      · rw [hf] at h; cases h
      · exact h hp
    · obtain ⟨b0, bB⟩ := hlr b (by rw [h1]; simp)
      have hfl : b < fixed.length := by rw [h.len]; exact bB
      have ht := h.take hi ⟨b0, bB⟩ h2
      obtain ⟨r, bk', fixed', e, g1, g2⟩ := first_L2 hh hB hn hs (n + 1) (fixed.set b.toNat true) (bk.set b.toNat (n : Int)) hd' (by exact_mod_cast ht) (by omega)
      have hp : Placeable homes (fixed.set b.toNat true) ((n + 1 : Nat) : Int) := by exact_mod_cast h4
      have hr := g1.2 hp
      refine ⟨r, bk', fixed', by rw [h5]; exact e, ⟨fun _ => hst.2 ⟨b, by rw [h1]; simp, h2, h4⟩, fun _ => hr⟩, fun hr => ?_⟩
      obtain ⟨k1, k2, k3⟩ := g2 hr
      have hbl : b < bk.length := by rw [h.ok.1]; exact bB
      refine ⟨k1, fun c c0 cB hc => ?_, pre, b, post, h1, h2, ?_, h3, h4, by exact_mod_cast k3⟩
      · have hcb : c ≠ b := fun e => by subst e; rw [h2] at hc; cases hc
        rw [k2 c c0 cB (by rw [at_set false b0 hfl c0, if_neg hcb]; exact hc), at_set (-1) b0 hbl c0, if_neg hcb]
      · rw [k2 b b0 bB (by rw [at_set false b0 hfl b0, if_pos rfl]), at_set (-1) b0 hbl b0, if_pos rfl]
end Go.Proofs.Ytnfalgmfmiolbaa
namespace Go.Proofs.Ytnfalgmfmiolbaa
set_option linter.unusedVariables false
def toL (v : Int) : List Int := if v < 0 then [] else [v]
structure Rel (B : Int) (fixed : List Bool) (used : List Int) (bk : Bk) (inn : List (List Int)) : Prop where
  ul : (used.length : Int) = B
  il : (inn.length : Int) = B
  u : ∀ b, 0 ≤ b → b < B → at' 0 used b = if at' false fixed b = true then 1 else 0
  n : ∀ b, 0 ≤ b → b < B → at' [] inn b = if at' false fixed b = true then [] else toL (at' (-1) bk b)
def SeenR (B : Int) (fixed s t : List Bool) : Prop := (t.length : Int) = B ∧ ∀ b, 0 ≤ b → b < B → at' false fixed b = false → at' false t b = at' false s b
theorem SeenR.set {B : Int} {fixed s t : List Bool} (h : SeenR B fixed s t) {b : Int} (hb : 0 ≤ b ∧ b < B) (hs : (s.length : Int) = B) : SeenR B fixed (s.set b.toNat true) (t.set b.toNat true) :=
  ⟨by simpa using h.1, fun c c0 cB hf => by rw [at_set false hb.1 (by rw [h.1]; exact hb.2) c0, at_set false hb.1 (by rw [hs]; exact hb.2) c0, h.2 c c0 cB hf]⟩
theorem SeenR.setF {B : Int} {fixed s t : List Bool} (h : SeenR B fixed s t) {b : Int} (hb : 0 ≤ b ∧ b < B) (hf : at' false fixed b = true) : SeenR B fixed s (t.set b.toNat true) :=
  ⟨by simpa using h.1, fun c c0 cB hc => by rw [at_set false hb.1 (by rw [h.1]; exact hb.2) c0, if_neg (fun e => by subst e; rw [hf] at hc; cases hc)]; exact h.2 c c0 cB hc⟩
theorem Rel.set {B : Int} {fixed : List Bool} {used : List Int} {bk : Bk} {inn : List (List Int)} (h : Rel B fixed used bk inn) (hbl : (bk.length : Int) = B) {b i : Int} (hb : 0 ≤ b ∧ b < B) (hf : at' false fixed b = false) (hi : 0 ≤ i) : Rel B fixed used (bk.set b.toNat i) (inn.set b.toNat [i]) :=
  ⟨h.ul, by simpa using h.il, h.u, fun c c0 cB => by
    rw [at_set [] hb.1 (by rw [h.il]; exact hb.2) c0, at_set (-1) hb.1 (by omega) c0]
    by_cases e : c = b
    · subst e; rw [if_pos rfl, if_pos rfl, hf]; simp [toL]; omega
    · rw [if_neg e, if_neg e]; exact h.n c c0 cB⟩
def RefP (B : Int) (fixed : List Bool) (used : List Int) (inn : List (List Int)) (r : Bool) (bk' : Bk) (s' : List Bool) (x : Option (Bool × List (List Int) × List Bool)) : Prop :=
  ∃ inn' t', x = some (r, inn', t') ∧ (r = true → Rel B fixed used bk' inn') ∧ (r = false → inn' = inn ∧ SeenR B fixed s' t')
theorem sim_loop (B : Int) (homes : List (List Int)) (fixed : List Bool) (used : List Int) (hh : HomesOK B homes) (hf : (fixed.length : Int) = B) (i : Int) (hi : 0 ≤ i ∧ i < homes.length) (m : Nat)
    (ih : ∀ (i : Int) (s t : List Bool) (bk : Bk) (inn : List (List Int)) (r : Bool) (bk' : Bk) (s' : List Bool), 0 ≤ i → i < homes.length → (s.length : Int) = B → BkOK B homes bk → s.count false < m → Rel B fixed used bk inn → SeenR B fixed s t → cuckoo_placing_place_R m (homes, bk, fixed) i s = some (r, bk', s') →
      RefP B fixed used inn r bk' s' (ref19_place_R m homes inn used 1 i t)) :
    ∀ (hs : List Int) (s t : List Bool) (bk : Bk) (inn : List (List Int)) (r : Bool) (bk' : Bk) (s' : List Bool), (∀ b ∈ hs, b ∈ at' [] homes i) → (s.length : Int) = B → BkOK B homes bk → s.count false < m + 1 → Rel B fixed used bk inn → SeenR B fixed s t → cuckoo_placing_place_L1 (cuckoo_placing_place_R m) i homes fixed hs s bk = some (r, bk', s') →
      RefP B fixed used inn r bk' s' (ref19_place_L2 (ref19_place_R m) homes used 1 i inn hs t)
  | [], s, t, bk, inn, r, bk', s', _, _, _, _, hr, ht, h => by
    rw [cuckoo_placing_place_L1] at h
    cases h
    exact ⟨inn, t, rfl, by simp, fun _ => ⟨rfl, ht⟩⟩
  | b :: hs, s, t, bk, inn, r, bk', s', hm, hsl, hb, hc, hr, ht, h => by
    have hbi : b ∈ at' [] homes i := hm b List.mem_cons_self
    obtain ⟨b0, bB⟩ := hh _ (at_mem [] hi.1 hi.2) b hbi
    have ih2 := fun s t bk inn r bk' s' => sim_loop B homes fixed used hh hf i hi m ih hs s t bk inn r bk' s' (fun c h => hm c (List.mem_cons_of_mem _ h))
    have htl := ht.1
    have hbk := hb.1
    rw [cuckoo_placing_place_L1] at h
    unfold cuckoo_placing_place_B1 at h
    rw [at_idx false b0 (by omega), at_idx false b0 (by omega)] at h
    simp only [Option.bind_some] at h
    rw [ref19_place_L2]
    unfold ref19_place_B2
    rw [at_idx false b0 (by omega)]
    simp only [Option.bind_some]
    have hu := hr.u b b0 bB
    have hn := hr.n b b0 bB
    have hul := hr.ul
    have hil := hr.il
    by_cases hfx : at' false fixed b = true
    · -- a bucket that is fixed
      have h' : cuckoo_placing_place_L1 (cuckoo_placing_place_R m) i homes fixed hs s bk = some (r, bk', s') := by
        rw [hfx] at h
        by_cases h1 : at' false s b = true
        · rw [if_pos h1] at h; simpa using h
        · rw [if_neg h1] at h; simpa using h
      by_cases h1 : at' false t b = true
      · rw [if_pos h1]; exact ih2 s t bk inn r bk' s' hsl hb hc hr ht h'
      · rw [if_neg h1, lupd_ok b0 (by omega)]
        simp only [Option.bind_some]
        rw [at_idx 0 b0 (by omega), at_idx [] b0 (by omega)]
        simp only [Option.bind_some]
        rw [hu, hn, hfx]
        simp only [if_true, List.length_nil]
        rw [if_neg (by rw [w64_id (by omega) (by omega)]; omega)]
        rw [ref19_place_L1]
        exact ih2 s _ bk inn r bk' s' hsl hb hc hr (ht.setF ⟨b0, bB⟩ hfx) h'
    · have hfx' : at' false fixed b = false := by simpa using hfx
      rw [ht.2 b b0 bB hfx']
      by_cases h1 : at' false s b = true
      · rw [if_pos h1] at h ⊢
        simp only [Option.bind_some, if_true] at h
        exact ih2 s t bk inn r bk' s' hsl hb hc hr ht h
      · have h1' : at' false s b = false := by simpa using h1
        rw [if_neg h1] at h ⊢
        simp only [Option.bind_some] at h
        rw [if_neg hfx, at_idx (-1) b0 (by omega)] at h
        simp only [Option.bind_some] at h
        rw [lupd_ok b0 (by omega)]
        simp only [Option.bind_some]
        rw [at_idx 0 b0 (by omega), at_idx [] b0 (by omega)]
        simp only [Option.bind_some]
        rw [hfx'] at hu hn
        simp only [Bool.false_eq_true, if_false] at hu hn
        rw [hu, hn]
        by_cases h3 : at' (-1) bk b < 0
        · rw [if_pos h3, lupd_ok b0 (by omega)] at h
          simp only [Option.bind_some] at h
          cases h
          have htL : toL (at' (-1) bk b) = [] := by unfold toL; rw [if_pos h3]
          rw [htL]
          simp only [List.length_nil]
          rw [if_pos (by rw [w64_id (by omega) (by omega)]; omega), lapp_ok (by simp)]
          simp only [Option.bind_some, List.nil_append]
          rw [lupd_ok b0 (by omega)]
          simp only [Option.bind_some]
          exact ⟨_, _, rfl, fun _ => hr.set hbk ⟨b0, bB⟩ hfx' hi.1, by simp⟩
        · rw [if_neg h3, lupd_ok b0 (by omega)] at h
          simp only [Option.bind_some] at h
          have htL : toL (at' (-1) bk b) = [at' (-1) bk b] := by unfold toL; rw [if_neg h3]
          rw [htL]
          simp only [List.length_singleton]
          rw [if_neg (by rw [w64_id (by omega) (by omega)]; omega), ref19_place_L1]
          unfold ref19_place_B1
          have hlt : b < s.length := by omega
          have ho := hb.2 _ (at_mem (-1) b0 (by omega : b < (bk.length : Int)))
          have hcl := count_false_lt b0 hlt h1'
          obtain ⟨r1, bk1, s1, e1, l1, m1, w1, f1⟩ := place_ok B homes fixed hh hf m (at' (-1) bk b) (s.set b.toNat true) bk (by omega) ho.2 (by simpa using hsl) hb (by omega)
          rw [e1] at h
          simp only [Option.bind_some] at h
          obtain ⟨inn1, t1, e2, g1, g2⟩ := ih (at' (-1) bk b) _ _ bk inn r1 bk1 s1 (by omega) ho.2 (by simpa using hsl) hb (by omega) hr (ht.set ⟨b0, bB⟩ hsl) e1
          rw [e2]
          simp only [Option.bind_some]
          cases r1 with
          | true =>
            have hw := w1 rfl
            have hr1 := g1 rfl
            have hb1 := hw.ok.1
            have hil1 := hr1.il
            rw [if_pos rfl, at_idx (-1) b0 (by omega)] at h
            simp only [Option.bind_some] at h
            rw [lupd_ok b0 (by omega)] at h
            simp only [Option.bind_some] at h
            cases h
            rw [if_pos rfl, at_idx [] b0 (by omega)]
            simp only [Option.bind_some]
            have hst : at' (-1) bk1 b = at' (-1) bk b := hw.still b b0 bB (.inl (by rw [at_set false b0 hlt b0, if_pos rfl]))
            have hn1 := hr1.n b b0 bB
            rw [hfx', hst, htL] at hn1
            simp only [Bool.false_eq_true, if_false] at hn1
            rw [hn1]
            have hx : lidx [at' (-1) bk b] ((0 : Nat) : Int) = some (at' (-1) bk b) := rfl
            have hy : lupd [at' (-1) bk b] ((0 : Nat) : Int) i = some [i] := rfl
            rw [hx]
            simp only [Option.bind_some]
            rw [hy]
            simp only [Option.bind_some]
            rw [lupd_ok b0 (by omega)]
            simp only [Option.bind_some]
            exact ⟨_, _, rfl, fun _ => hr1.set hb1 ⟨b0, bB⟩ hfx' hi.1, by simp⟩
          | false =>
            rw [if_neg (by simp)] at h
            rw [if_neg (by simp), ref19_place_L1]
            obtain ⟨rfl, hlost⟩ := f1 rfl
            obtain ⟨rfl, ht1⟩ := g2 rfl
            have hcle := count_le_of (s := s.set b.toNat true) (t := s1) (by rw [List.length_set]; omega) (fun c c0 cl h => m1 c c0 (by simp at cl; omega) h)
            exact ih2 s1 t1 bk1 inn1 r bk' s' l1 hb (by omega) hr ht1 h
theorem sim_ok (B : Int) (homes : List (List Int)) (fixed : List Bool) (used : List Int) (hh : HomesOK B homes) (hf : (fixed.length : Int) = B) : ∀ (m : Nat) (i : Int) (s t : List Bool) (bk : Bk) (inn : List (List Int)) (r : Bool) (bk' : Bk) (s' : List Bool), 0 ≤ i → i < homes.length → (s.length : Int) = B → BkOK B homes bk → s.count false < m → Rel B fixed used bk inn → SeenR B fixed s t → cuckoo_placing_place_R m (homes, bk, fixed) i s = some (r, bk', s') →
      RefP B fixed used inn r bk' s' (ref19_place_R m homes inn used 1 i t)
  | 0, i, s, t, bk, inn, r, bk', s', _, _, _, _, h, _, _, _ => by omega
  | m + 1, i, s, t, bk, inn, r, bk', s', h0, h1, hs, hb, hc, hr, ht, h => by
    rw [cuckoo_placing_place_R] at h
    unfold cuckoo_placing_place_B2 at h
    rw [at_idx [] h0 h1] at h
    simp only [Option.bind_some] at h
    rw [ref19_place_R]
    unfold ref19_place_B3
    rw [at_idx [] h0 h1]
    simp only [Option.bind_some]
    exact sim_loop B homes fixed used hh hf i ⟨h0, h1⟩ m (sim_ok B homes fixed used hh hf m) _ s t bk inn r bk' s' (fun _ h => h) hs hb hc hr ht h
end Go.Proofs.Ytnfalgmfmiolbaa
namespace Go.Proofs.Ytnfalgmfmiolbaa
set_option linter.unusedVariables false
def UsedOf (B : Int) (fixed : List Bool) (used : List Int) : Prop := (used.length : Int) = B ∧ (fixed.length : Int) = B ∧ ∀ b, 0 ≤ b → b < B → at' 0 used b = if at' false fixed b = true then 1 else 0
theorem at_rep {α : Type} (d x : α) {n : Nat} {b : Int} (h0 : 0 ≤ b) (h1 : b < n) : at' d (List.replicate n x) b = x := by
  unfold at'; rw [List.getD_eq_getElem?_getD, List.getElem?_replicate, if_pos (by omega)]; rfl
theorem poss_L {B : Int} {homes : List (List Int)} {fixed : List Bool} {used : List Int} (hh : HomesOK B homes) (hB : 0 ≤ B ∧ B ≤ 1000) (hf : (fixed.length : Int) = B) :
    ∀ (hs : List (List Int)) (n : Nat) (bk : Bk) (inn : List (List Int)), homes.drop n = hs → n ≤ homes.length → Stand B homes fixed 0 n bk → Rel B fixed used bk inn →
      ∃ r, ref19_Possible_L1 homes B 1 used hs n inn = some r ∧ (r = true ↔ Placeable homes fixed 0)
  | [], n, bk, inn, hd, hle, hs, hr => by
    have : homes.length ≤ n := List.drop_eq_nil_iff.1 hd
    have e : n = homes.length := by omega
    subst e
    exact ⟨true, rfl, by simp [hs.places (Int.le_refl _)]⟩
  | x :: hs', n, bk, inn, hd, hle, hs, hr => by
    have hlt : n < homes.length := by
      rcases Nat.lt_or_ge n homes.length with h | h
      · exact h
      · rw [List.drop_eq_nil_of_le h] at hd; cases hd
    have hd' : homes.drop (n + 1) = hs' := by rw [← List.drop_drop, hd]; rfl
    rw [ref19_Possible_L1]
    unfold ref19_Possible_B1
    have hmk : lmk B false = some (List.replicate B.toNat false) := by unfold lmk; rw [if_pos (by omega)]
    rw [hmk]
    simp only [Option.bind_some]
    have hsl : ((List.replicate B.toNat false).length : Int) = B := by simp; omega
    have h0 : ∀ b, 0 ≤ b → b < B → at' false (List.replicate B.toNat false) b = false := fun b b0 bB => at_rep false false b0 (by omega)
    have hcnt : (List.replicate B.toNat false).count false < big := by
      have := List.count_le_length (a := false) (l := List.replicate B.toNat false)
      rw [List.length_replicate] at this
      simp only [big]; omega
    obtain ⟨r1, bk1, s1, e1, l1, m1, w1, f1⟩ := place_ok B homes fixed hh hf big n (List.replicate B.toNat false) bk (by omega) (by omega) hsl hs.ok hcnt
    obtain ⟨inn1, t1, e2, g1, g2⟩ := sim_ok B homes fixed used hh hf big n _ (List.replicate B.toNat false) bk inn r1 bk1 s1 (by omega) (by omega) hsl hs.ok hcnt hr ⟨hsl, fun _ _ _ _ => rfl⟩ e1
    unfold ref19_place
    rw [e2]
    simp only [Option.bind_some]
    cases r1 with
    | true =>
      rw [if_pos rfl]
      exact poss_L hh hB hf hs' (n + 1) bk1 inn1 hd' (by omega) (by exact_mod_cast hs.won ⟨Int.le_refl _, by omega⟩ (w1 rfl)) (g1 rfl)
    | false =>
      rw [if_neg (by simp)]
      exact ⟨false, rfl, by simp [no_way hh hs ⟨Int.le_refl _, by omega⟩ (by omega) h0 (f1 rfl).2]⟩
theorem poss_ok {B : Int} {homes : List (List Int)} {fixed : List Bool} {used : List Int} (hh : HomesOK B homes) (hB : 0 ≤ B ∧ B ≤ 1000) (hu : UsedOf B fixed used) : ∃ r, ref19_Possible homes B 1 used = some r ∧ (r = true ↔ Placeable homes fixed 0) := by
  unfold ref19_Possible
  have hmk : lmk B ([] : List Int) = some (List.replicate B.toNat []) := by unfold lmk; rw [if_pos (by omega)]
  rw [hmk]
  simp only [Option.bind_some]
  have hall : ∀ b, 0 ≤ b → b < B → at' (-1) (List.replicate B.toNat (-1 : Int)) b = -1 := fun b b0 bB => at_rep _ _ b0 (by omega)
  refine poss_L hh hB hu.2.1 homes 0 (List.replicate B.toNat (-1)) _ rfl (Nat.zero_le _) ⟨⟨by simp; omega, fun v hv => ?_⟩, fun j hj => ?_, fun j h1 h2 => by omega, fun j hj => ?_, fun b b0 bB _ h => ?_, fun b b0 bB _ => ?_⟩ ⟨hu.1, by simp; omega, hu.2.2, fun b b0 bB => ?_⟩
  · rw [(List.mem_replicate.1 hv).2]; omega
  · rw [List.count_replicate, if_neg (by simp; omega)]; omega
  · rw [List.count_replicate, if_neg (by simp; omega)]
  · rw [hall b b0 bB] at h; omega
  · rw [hall b b0 bB]; omega
  · rw [at_rep _ _ b0 (by omega), hall b b0 bB]; simp [toL]
theorem placeable_drop {homes : List (List Int)} {fixed : List Bool} {a : Nat} (ha : a ≤ homes.length) : Placeable (homes.drop a) fixed 0 ↔ Placeable homes fixed a := by
  have hat : ∀ j : Int, 0 ≤ j → at' [] (homes.drop a) j = at' [] homes (j + a) := fun j hj => by
    unfold at'
    rw [List.getD_eq_getElem?_getD, List.getD_eq_getElem?_getD, List.getElem?_drop]
    congr 2; omega
  have hlen : ((homes.drop a).length : Int) = homes.length - a := by simp; omega
  constructor
  · rintro ⟨f, h1, h2⟩
    refine ⟨fun j => f (j - a), fun j hj hn => ?_, fun j k hj hn hk hkn e => ?_⟩
    · have := h1 (j - a) (by omega) (by omega)
      rw [hat _ (by omega), show j - a + a = j from by omega] at this
      exact this
    · have := h2 (j - a) (k - a) (by omega) (by omega) (by omega) (by omega) e
      omega
  · rintro ⟨f, h1, h2⟩
    refine ⟨fun j => f (j + a), fun j hj hn => ?_, fun j k hj hn hk hkn e => ?_⟩
    · rw [hat _ hj]; exact h1 (j + a) (by omega) (by omega)
    · have := h2 (j + a) (k + a) (by omega) (by omega) (by omega) (by omega) e
      omega
def GreedyL (homes : List (List Int)) : Int → List (List Int) → List Bool → List Int → Prop
  | _, [], _, bs => bs = []
  | i, h :: hs, fixed, bs => ∃ pre b post bs', bs = b :: bs' ∧ h = pre ++ b :: post ∧ at' false fixed b = false ∧ (∀ c ∈ pre, at' false fixed c = true ∨ ¬ Placeable homes (fixed.set c.toNat true) (i + 1)) ∧
    Placeable homes (fixed.set b.toNat true) (i + 1) ∧ GreedyL homes (i + 1) hs (fixed.set b.toNat true) bs'
theorem UsedOf.take {B : Int} {fixed : List Bool} {used : List Int} (h : UsedOf B fixed used) {b : Int} (hb : 0 ≤ b ∧ b < B) : UsedOf B (fixed.set b.toNat true) (used.set b.toNat 1) :=
  ⟨by simpa using h.1, by simpa using h.2.1, fun c c0 cB => by
    rw [at_set 0 hb.1 (by rw [h.1]; exact hb.2) c0, at_set false hb.1 (by rw [h.2.1]; exact hb.2) c0]
    by_cases e : c = b
    · rw [if_pos e, if_pos e]; rfl
    · rw [if_neg e, if_neg e]; exact h.2.2 c c0 cB⟩
theorem rfirst_L1 {B : Int} {homes : List (List Int)} (hh : HomesOK B homes) (hB : 0 ≤ B ∧ B ≤ 1000) (hn : (homes.length : Int) ≤ 100000) (i : Nat) (hi : i < homes.length) (rec : List Int → List Int → Option (List Int × Bool)) {fixed : List Bool} {used : List Int} (hu : UsedOf B fixed used) (out : List Int) (ho : out.length ≤ 100000) :
    ∀ hs : List Int, (∀ b ∈ hs, 0 ≤ b ∧ b < B) → (∃ b ∈ hs, at' false fixed b = false ∧ Placeable homes (fixed.set b.toNat true) (i + 1)) →
      ∃ pre b post, hs = pre ++ b :: post ∧ at' false fixed b = false ∧ (∀ c ∈ pre, at' false fixed c = true ∨ ¬ Placeable homes (fixed.set c.toNat true) (i + 1)) ∧ Placeable homes (fixed.set b.toNat true) (i + 1) ∧
        ref19_First_L1 rec i homes B 1 out hs used = rec (out ++ [b]) (used.set b.toNat 1)
  | [], _, h => by obtain ⟨b, hb, _⟩ := h; cases hb
  | b :: hs, hr, hex => by
    obtain ⟨b0, bB⟩ := hr b List.mem_cons_self
    have hul := hu.1
    have hub := hu.2.2 b b0 bB
    have hbl : b < (used.length : Int) := by omega
    have hskip : (at' false fixed b = true ∨ ¬ Placeable homes (fixed.set b.toNat true) (i + 1)) → ref19_First_L1 rec i homes B 1 out (b :: hs) used = ref19_First_L1 rec i homes B 1 out hs used →
        ∃ pre b' post, b :: hs = pre ++ b' :: post ∧ at' false fixed b' = false ∧ (∀ c ∈ pre, at' false fixed c = true ∨ ¬ Placeable homes (fixed.set c.toNat true) (i + 1)) ∧ Placeable homes (fixed.set b'.toNat true) (i + 1) ∧
        ref19_First_L1 rec i homes B 1 out (b :: hs) used = rec (out ++ [b']) (used.set b'.toNat 1) := fun hno e => by
      obtain ⟨pre, b', post, h1, h2, h3, h4, h5⟩ := rfirst_L1 hh hB hn i hi rec hu out ho hs (fun c hc => hr c (List.mem_cons_of_mem _ hc)) (by
        obtain ⟨c, hc, h1, h2⟩ := hex
        rcases List.mem_cons.1 hc with rfl | hc
        · rcases hno with h | h
          · rw [h] at h1; cases h1
          · exact absurd h2 h
        · exact ⟨c, hc, h1, h2⟩)
      exact ⟨b :: pre, b', post, by rw [h1]; rfl, h2, fun c hc => by rcases List.mem_cons.1 hc with rfl | hc; exact hno; exact h3 c hc, h4, by rw [e]; exact h5⟩
    by_cases hf : at' false fixed b = true
    · refine hskip (.inl hf) ?_
      rw [ref19_First_L1]
      unfold ref19_First_B1
      rw [at_idx 0 b0 hbl, hub, if_pos hf]
      simp only [Option.bind_some, if_true]
    · have hf' : at' false fixed b = false := by simpa using hf
      rw [if_neg hf] at hub
      have hsub : lsub homes (w64 ((i : Int) + 1)) (homes.length : Int) = some (homes.drop (i + 1)) := by
        rw [w64_id (by omega) (by omega), lsub_ok (by omega) (by omega) (by omega)]
        congr 1
        rw [show ((i : Int) + 1).toNat = i + 1 from by omega, show ((homes.length : Int) - ((i : Int) + 1)).toNat = homes.length - (i + 1) from by omega]
        exact List.take_of_length_le (by simp)
      have hhd : HomesOK B (homes.drop (i + 1)) := fun l hl => hh l (List.mem_of_mem_drop hl)
      obtain ⟨r, e, hr2⟩ := poss_ok hhd hB (hu.take ⟨b0, bB⟩)
      rw [placeable_drop (by omega)] at hr2
      have heq : ref19_First_L1 rec i homes B 1 out (b :: hs) used = if r = true then rec (out ++ [b]) (used.set b.toNat 1) else ref19_First_L1 rec i homes B 1 out hs used := by
        rw [ref19_First_L1]
        unfold ref19_First_B1
        rw [at_idx 0 b0 hbl, hub]
        simp only [Option.bind_some]
        rw [if_neg (by omega), show w64 (0 + 1) = 1 from by rw [w64_id (by omega) (by omega)]; rfl, lupd_ok b0 hbl]
        simp only [Option.bind_some]
        rw [hsub]
        simp only [Option.bind_some]
        rw [e]
        simp only [Option.bind_some]
        rw [lapp_ok (by simp; omega), at_idx 0 b0 (by simpa using hbl), at_set 0 b0 hbl b0, if_pos rfl]
        simp only [Option.bind_some]
        rw [show w64 (1 - 1) = 0 from by rw [w64_id (by omega) (by omega)]; rfl, lupd_ok b0 (by simpa using hbl)]
        simp only [Option.bind_some, List.set_set]
        rw [set_at 0 b0 hbl hub]
      cases r with
      | true => rw [if_pos rfl] at heq; exact ⟨[], b, hs, rfl, hf', by simp, by exact_mod_cast hr2.1 rfl, heq⟩
      | false => rw [if_neg (by simp)] at heq; exact hskip (.inr fun hp => by have := hr2.2 (by exact_mod_cast hp); cases this) heq
theorem rfirst_L2 {B : Int} {homes : List (List Int)} (hh : HomesOK B homes) (hB : 0 ≤ B ∧ B ≤ 1000) (hn : (homes.length : Int) ≤ 100000) : ∀ (hs : List (List Int)) (n : Nat) (fixed : List Bool) (used out : List Int), homes.drop n = hs → UsedOf B fixed used → out.length = n → n ≤ homes.length → Placeable homes fixed n →
    ∃ bs, ref19_First_L2 homes B 1 hs n out used = some (out ++ bs, true) ∧ GreedyL homes n hs fixed bs
  | [], n, fixed, used, out, hd, hu, hl, hle, hp => ⟨[], by simp [ref19_First_L2], rfl⟩
  | l :: hs, n, fixed, used, out, hd, hu, hl, hle, hp => by
    have hlt : n < homes.length := by
      rcases Nat.lt_or_ge n homes.length with h | h
      · exact h
      · rw [List.drop_eq_nil_of_le h] at hd; cases hd
    have hd' : homes.drop (n + 1) = hs := by rw [← List.drop_drop, hd]; rfl
    have hat : at' [] homes (n : Int) = l := by
      unfold at'
      rw [Int.toNat_natCast, List.getD_eq_getElem?_getD, List.getElem?_eq_getElem hlt]
      rw [List.drop_eq_getElem_cons hlt] at hd
      exact (List.cons.inj hd).1
    have hi : 0 ≤ (n : Int) ∧ (n : Int) < homes.length := ⟨by omega, by omega⟩
    have hlr : ∀ b ∈ l, 0 ≤ b ∧ b < B := hat ▸ hh _ (at_mem [] hi.1 hi.2)
    have hst := (Placeable.step hh hu.2.1 hi).1 hp
    rw [hat] at hst
    obtain ⟨pre, b, post, h1, h2, h3, h4, h5⟩ := rfirst_L1 hh hB hn n hlt (ref19_First_L2 homes B 1 hs (n + 1)) hu out (by omega) l hlr hst
    obtain ⟨b0, bB⟩ := hlr b (by rw [h1]; simp)
    obtain ⟨bs, e, hg⟩ := rfirst_L2 hh hB hn hs (n + 1) (fixed.set b.toNat true) (used.set b.toNat 1) (out ++ [b]) hd' (hu.take ⟨b0, bB⟩) (by simp [hl]) (by omega) (by exact_mod_cast h4)
    refine ⟨b :: bs, ?_, pre, b, post, bs, rfl, h1, h2, h3, h4, by exact_mod_cast hg⟩
    rw [ref19_First_L2]
    unfold ref19_First_B2
    rw [h5, e]
    simp
end Go.Proofs.Ytnfalgmfmiolbaa
namespace Go.Proofs.Ytnfalgmfmiolbaa
set_option linter.unusedVariables false
abbrev Hsh := Int × List (Int × Int)
def PairOK (p : Int × Int) : Prop := 0 ≤ p.1 ∧ p.1 < 2147483647 ∧ 0 ≤ p.2 ∧ p.2 < 2147483647
def HshOK (h : Hsh) : Prop := 1 ≤ h.1 ∧ h.1 ≤ 64 ∧ 1 ≤ h.2.length ∧ h.2.length ≤ 4 ∧ ∀ p ∈ h.2, PairOK p
def ItemOK (n : Int) : Prop := 0 ≤ n ∧ n < 2147483647
def homeL (h : Hsh) (n : Int) : List Int := h.2.map fun p => (p.1 * n + p.2) % 2147483647 % h.1
theorem check_L : ∀ ps : List (Int × Int), (cuckoo_Check_L1 ps = some 0 ∧ ∀ p ∈ ps, PairOK p) ∨ (cuckoo_Check_L1 ps = some 2 ∧ ¬ ∀ p ∈ ps, PairOK p)
  | [] => .inl ⟨rfl, by simp⟩
  | p :: ps => by
    rw [cuckoo_Check_L1]
    unfold cuckoo_Check_B1
    split
    · rename_i h
      refine .inr ⟨rfl, fun ha => ?_⟩
      have := ha p List.mem_cons_self
      unfold PairOK at this; omega
    · rename_i h
      have hp : PairOK p := by unfold PairOK; omega
      rcases check_L ps with ⟨e, h1⟩ | ⟨e, h1⟩
      · exact .inl ⟨e, fun q hq => by rcases List.mem_cons.1 hq with rfl | hq; exact hp; exact h1 q hq⟩
      · exact .inr ⟨e, fun ha => h1 fun q hq => ha q (List.mem_cons_of_mem _ hq)⟩
theorem check_ok (h : Hsh) : (cuckoo_Check h = some 0 ∧ HshOK h) ∨ (cuckoo_Check h = some 2 ∧ ¬ HshOK h) := by
  unfold cuckoo_Check
  split
  · rename_i hh
    refine .inr ⟨rfl, fun ha => ?_⟩
    unfold HshOK at ha; omega
  · rename_i hh
    rcases check_L h.2 with ⟨e, h1⟩ | ⟨e, h1⟩
    · exact .inl ⟨e, by omega, by omega, by omega, by omega, h1⟩
    · exact .inr ⟨e, fun ha => h1 ha.2.2.2.2⟩
theorem rcheck_L : ∀ ps, ref19_Check_L1 ps = cuckoo_Check_L1 ps
  | [] => rfl
  | p :: ps => by rw [ref19_Check_L1, cuckoo_Check_L1, rcheck_L ps]; rfl
theorem rcheck (h : Hsh) : ref19_Check h = cuckoo_Check h := by
  unfold ref19_Check cuckoo_Check; rw [rcheck_L]
theorem home_at {a b n B : Int} (ha : PairOK (a, b)) (hn : ItemOK n) (hB : 1 ≤ B) : Int.tmod (Int.tmod (w64 ((w64 (a * n)) + b)) 2147483647) B = (a * n + b) % 2147483647 % B := by
  unfold PairOK at ha; unfold ItemOK at hn
  dsimp only at ha
  have h1 : 0 ≤ a * n := Int.mul_nonneg ha.1 hn.1
  have h2 : a * n ≤ 2147483647 * 2147483647 := Int.mul_le_mul (by omega) (by omega) hn.1 (by omega)
  have e1 : (a * n + b).tmod 2147483647 = (a * n + b) % 2147483647 := Int.tmod_eq_emod_of_nonneg (by omega)
  rw [w64_id (x := a * n) (by omega) (by omega), w64_id (by omega) (by omega), e1, Int.tmod_eq_emod_of_nonneg (Int.emod_nonneg _ (by omega))]
theorem homes_L {B n : Int} (hB : 1 ≤ B) (hn : ItemOK n) : ∀ (ps : List (Int × Int)) (acc : List Int), (∀ p ∈ ps, PairOK p) → acc.length + ps.length ≤ 100 → cuckoo_homes_L1 n B ps acc = some (acc ++ ps.map fun p => (p.1 * n + p.2) % 2147483647 % B)
  | [], acc, _, _ => by simp [cuckoo_homes_L1]
  | p :: ps, acc, hp, hl => by
    rw [cuckoo_homes_L1]
    unfold cuckoo_homes_B1
    simp only [List.length_cons] at hl
    rw [nz_ok (by omega), lapp_ok (by simp; omega)]
    simp only [Option.bind_some]
    rw [homes_L hB hn ps _ (fun q hq => hp q (List.mem_cons_of_mem _ hq)) (by simp; omega), home_at (hp p List.mem_cons_self) hn hB]
    simp
theorem homes_ok {h : Hsh} (hk : HshOK h) {n : Int} (hn : ItemOK n) : cuckoo_homes h n = some (homeL h n) := by
  unfold cuckoo_homes
  have h4 := hk.2.2.2.1
  rw [homes_L hk.1 hn h.2 [] hk.2.2.2.2 (by simp; omega)]
  rfl
theorem rhomes_L {B n : Int} (hB : 1 ≤ B) (hn : ItemOK n) : ∀ (ps : List (Int × Int)) (acc : List Int), (∀ p ∈ ps, PairOK p) → acc.length + ps.length ≤ 100 → ref19_Homes_L1 n B ps acc = some (acc ++ ps.map (fun p => (p.1 * n + p.2) % 2147483647 % B), 0)
  | [], acc, _, _ => by simp [ref19_Homes_L1]
  | p :: ps, acc, hp, hl => by
    rw [ref19_Homes_L1]
    unfold ref19_Homes_B1
    simp only [List.length_cons] at hl
    rw [nz_ok (by omega), lapp_ok (by simp; omega)]
    simp only [Option.bind_some]
    rw [rhomes_L hB hn ps _ (fun q hq => hp q (List.mem_cons_of_mem _ hq)) (by simp; omega), home_at (hp p List.mem_cons_self) hn hB]
    simp
theorem rhomes_ok {h : Hsh} (hk : HshOK h) {n : Int} (hn : ItemOK n) : ref19_Homes h n = some (homeL h n, 0) := by
  unfold ref19_Homes
  rcases check_ok h with ⟨e, _⟩ | ⟨_, e⟩
  · rw [rcheck, e]
    simp only [Option.bind_some]
    have h4 := hk.2.2.2.1
    have := hn.1; have := hn.2
    rw [if_neg (by simp), if_neg (by omega), rhomes_L hk.1 hn h.2 [] hk.2.2.2.2 (by simp; omega)]
    rfl
  · exact absurd hk e
theorem rhomes_bad {h : Hsh} (hk : HshOK h) {n : Int} (hn : ¬ ItemOK n) : ref19_Homes h n = some ([], 1) := by
  unfold ref19_Homes
  rcases check_ok h with ⟨e, _⟩ | ⟨_, e⟩
  · rw [rcheck, e]
    simp only [Option.bind_some]
    rw [if_neg (by simp), if_pos (by unfold ItemOK at hn; omega)]
  · exact absurd hk e
theorem homeL_range {h : Hsh} (hk : HshOK h) (n : Int) : ∀ b ∈ homeL h n, 0 ≤ b ∧ b < h.1 := fun b hb => by
  obtain ⟨p, _, rfl⟩ := List.mem_map.1 hb
  have := hk.1
  exact ⟨Int.emod_nonneg _ (by omega), Int.emod_lt_of_pos _ (by omega)⟩
theorem homesOK {h : Hsh} (hk : HshOK h) (l : List Int) : HomesOK h.1 (l.map (homeL h)) := fun x hx b hb => by
  obtain ⟨n, _, rfl⟩ := List.mem_map.1 hx
  exact homeL_range hk n b hb
theorem ask_L : ∀ (l : List Int) (i : Nat), (∃ r : Int, slices_IndexFunc_Lintint_L1 cuckoo_asked_f1 l i = some r ∧ (0 ≤ r ↔ ∃ n ∈ l, ¬ ItemOK n))
  | [], i => ⟨-1, rfl, by simp⟩
  | n :: l, i => by
    rw [slices_IndexFunc_Lintint_L1]
    unfold slices_IndexFunc_Lintint_B1 cuckoo_asked_f1 cuckoo_item
    simp only [Option.bind_some]
    by_cases hn : ItemOK n
    · have hd : (decide ((0 ≤ n) ∧ (n < 2147483647))) = true := decide_eq_true hn
      rw [hd]
      simp only [Bool.not_true, Bool.false_eq_true, if_false]
      obtain ⟨r, e, h⟩ := ask_L l (i + 1)
      refine ⟨r, e, h.trans ⟨fun ⟨m, hm, h⟩ => ⟨m, List.mem_cons_of_mem _ hm, h⟩, fun ⟨m, hm, h⟩ => ?_⟩⟩
      rcases List.mem_cons.1 hm with rfl | hm
      · exact absurd hn h
      · exact ⟨m, hm, h⟩
    · have hd : (decide ((0 ≤ n) ∧ (n < 2147483647))) = false := decide_eq_false hn
      rw [hd]
      simp only [Bool.not_false, if_true]
      exact ⟨i, rfl, fun _ => ⟨n, List.mem_cons_self, hn⟩, fun _ => by omega⟩
theorem asked_ok (h : Hsh) (l : List Int) : (cuckoo_asked h l = some 2 ∧ ¬ HshOK h) ∨ (cuckoo_asked h l = some 1 ∧ HshOK h ∧ ∃ n ∈ l, ¬ ItemOK n) ∨ (cuckoo_asked h l = some 0 ∧ HshOK h ∧ ∀ n ∈ l, ItemOK n) := by
  unfold cuckoo_asked
  rcases check_ok h with ⟨e, hk⟩ | ⟨e, hk⟩
  · rw [e]
    simp only [Option.bind_some]
    rw [if_neg (by simp)]
    unfold slices_ContainsFunc_Lintint slices_IndexFunc_Lintint
    obtain ⟨r, e2, h2⟩ := ask_L l 0
    rw [e2]
    simp only [Option.bind_some]
    by_cases hr : 0 ≤ r
    · rw [if_pos (decide_eq_true hr)]; exact .inr (.inl ⟨rfl, hk, h2.1 hr⟩)
    · rw [if_neg (by simp [hr])]
      refine .inr (.inr ⟨rfl, hk, fun n hn => ?_⟩)
      rcases Classical.em (ItemOK n) with h | h
      · exact h
      · exact absurd (h2.2 ⟨n, hn, h⟩) hr
  · rw [e]
    simp only [Option.bind_some]
    rw [if_pos (by simp)]
    exact .inl ⟨rfl, hk⟩
theorem all_L' {h : Hsh} (hk : HshOK h) : ∀ (l : List Int) (acc : List (List Int)), acc.length + l.length ≤ 16777216 → ((∀ n ∈ l, ItemOK n) ∧ ref19_all_L1 h.1 h.2 l acc = some (acc ++ l.map (homeL h), 0)) ∨ ((∃ n ∈ l, ¬ ItemOK n) ∧ ref19_all_L1 h.1 h.2 l acc = some ([], 1))
  | [], acc, _ => .inl ⟨by simp, by simp [ref19_all_L1]⟩
  | n :: l, acc, hl => by
    rw [ref19_all_L1]
    unfold ref19_all_B1
    simp only [List.length_cons] at hl
    rcases Classical.em (ItemOK n) with hn | hn
    · rw [rhomes_ok hk hn]
      simp only [Option.bind_some]
      rw [if_neg (by simp), lapp_ok (by simp; omega)]
      simp only [Option.bind_some]
      rcases all_L' hk l (acc ++ [homeL h n]) (by simp; omega) with ⟨h1, e⟩ | ⟨⟨m, hm, h1⟩, e⟩
      · exact .inl ⟨fun m hm => by rcases List.mem_cons.1 hm with rfl | hm; exact hn; exact h1 m hm, by rw [e]; simp⟩
      · exact .inr ⟨⟨m, List.mem_cons_of_mem _ hm, h1⟩, e⟩
    · rw [rhomes_bad hk hn]
      simp only [Option.bind_some]
      rw [if_pos (by simp)]
      exact .inr ⟨⟨n, List.mem_cons_self, hn⟩, rfl⟩
theorem start_L {h : Hsh} (hk : HshOK h) (bk : List Int) (fx : List Bool) : ∀ (l : List Int) (acc : List (List Int)), (∀ n ∈ l, ItemOK n) → acc.length + l.length ≤ 16777216 → cuckoo_start_L1 h.1 h.2 bk fx l acc = some (acc ++ l.map (homeL h), bk, fx)
  | [], acc, _, _ => by simp [cuckoo_start_L1]
  | n :: l, acc, hn, hl => by
    rw [cuckoo_start_L1]
    unfold cuckoo_start_B1
    simp only [List.length_cons] at hl
    rw [homes_ok (h := (h.1, h.2)) hk (hn n List.mem_cons_self)]
    simp only [Option.bind_some]
    rw [lapp_ok (by simp; omega)]
    simp only [Option.bind_some]
    rw [start_L hk bk fx l _ (fun m hm => hn m (List.mem_cons_of_mem _ hm)) (by simp; omega)]
    simp
theorem start_L3 (kx : List Int → Int → Option (List (List Int) × List Int × List Bool)) (z : Int) : ∀ (xs : List Int) (n N : Nat), n + xs.length = N → cuckoo_start_L3 kx z xs n (List.replicate n (-1) ++ xs) = kx (List.replicate N (-1)) z
  | [], n, N, h => by simp at h; subst h; simp [cuckoo_start_L3]
  | x :: xs, n, N, h => by
    rw [cuckoo_start_L3]
    unfold cuckoo_start_B3
    simp only [List.length_cons] at h
    rw [at_idx (-1) (by omega) (by simp; omega), lupd_ok (by omega) (by simp; omega)]
    simp only [Option.bind_some]
    have e : (List.replicate n (-1 : Int) ++ x :: xs).set (n : Int).toNat (-1) = List.replicate (n + 1) (-1) ++ xs := by
      rw [Int.toNat_natCast, List.set_append_right _ _ (by simp)]
      simp [List.replicate_succ']
    rw [e]
    exact start_L3 kx z xs (n + 1) N (by omega)
theorem start_ok {h : Hsh} (hk : HshOK h) {l : List Int} (hl : ∀ n ∈ l, ItemOK n) (hlen : l.length ≤ 16777216) : cuckoo_start h l = some (l.map (homeL h), List.replicate h.1.toNat (-1), List.replicate h.1.toNat false) := by
  unfold cuckoo_start
  have h1 := hk.1; have h2 := hk.2.1
  have hm0 : lmk h.1 (0 : Int) = some (List.replicate h.1.toNat 0) := by unfold lmk; rw [if_pos (by omega)]
  have hm1 : lmk h.1 false = some (List.replicate h.1.toNat false) := by unfold lmk; rw [if_pos (by omega)]
  rw [hm0, hm1]
  simp only [Option.bind_some]
  unfold cuckoo_start_J4
  have := start_L3 (cuckoo_start_J2 l h.2 (List.replicate h.1.toNat false)) h.1 (List.replicate h.1.toNat 0) 0 h.1.toNat (by simp)
  simp only [List.replicate_zero, List.nil_append] at this
  rw [this]
  unfold cuckoo_start_J2
  have := start_L hk (List.replicate h.1.toNat (-1)) (List.replicate h.1.toNat false) l [] hl (by simpa using hlen)
  simpa using this
end Go.Proofs.Ytnfalgmfmiolbaa
namespace Go.Proofs.Ytnfalgmfmiolbaa
set_option linter.unusedVariables false
theorem first_uniq {Q : Int → Prop} : ∀ {pre pre' : List Int} {b b' : Int} {post post' : List Int}, pre ++ b :: post = pre' ++ b' :: post' → (∀ c ∈ pre, ¬ Q c) → Q b → (∀ c ∈ pre', ¬ Q c) → Q b' → b = b'
  | [], [], b, b', post, post', e, _, _, _, _ => by simp at e; exact e.1
  | [], c :: pre', b, b', post, post', e, _, hb, h', _ => by
    simp at e; rw [← e.1] at h'; exact absurd hb (h' b List.mem_cons_self)
  | c :: pre, [], b, b', post, post', e, h, _, _, hb' => by
    simp at e; rw [e.1] at h; exact absurd hb' (h b' List.mem_cons_self)
  | c :: pre, c' :: pre', b, b', post, post', e, h, hb, h', hb' => by
    simp at e
    exact first_uniq e.2 (fun x hx => h x (List.mem_cons_of_mem _ hx)) hb (fun x hx => h' x (List.mem_cons_of_mem _ hx)) hb'
theorem greedy_same {homes : List (List Int)} {bk : Bk} : ∀ (hs : List (List Int)) (i : Int) (fixed : List Bool) (bs : List Int), Greedy homes i hs fixed bk → GreedyL homes i hs fixed bs → bs.length = hs.length ∧ ∀ k : Nat, k < bs.length → at' (-1) bk (bs.getD k 0) = i + k ∧ bs.getD k 0 ∈ hs.getD k []
  | [], i, fixed, bs, _, h => by cases h; simp
  | l :: hs, i, fixed, bs, ⟨pre, b, post, e1, f1, a1, n1, p1, g1⟩, ⟨pre', b', post', bs', e0, e2, f2, n2, p2, g2⟩ => by
    subst e0
    have hb : b = b' := first_uniq (Q := fun c => at' false fixed c = false ∧ Placeable homes (fixed.set c.toNat true) (i + 1)) (by rw [← e1, e2]) (fun c hc hq => by
      rcases n1 c hc with h | h
      · rw [h] at hq; cases hq.1
      · exact h hq.2) ⟨f1, p1⟩ (fun c hc hq => by
      rcases n2 c hc with h | h
      · rw [h] at hq; cases hq.1
      · exact h hq.2) ⟨f2, p2⟩
    subst hb
    obtain ⟨h1, h2⟩ := greedy_same hs (i + 1) _ bs' g1 g2
    refine ⟨by simp [h1], fun k hk => ?_⟩
    cases k with
    | zero => simp only [List.getD_cons_zero]; exact ⟨by rw [a1]; simp, by rw [e1]; simp⟩
    | succ k =>
      simp only [List.getD_cons_succ]
      obtain ⟨h3, h4⟩ := h2 k (by simpa using hk)
      exact ⟨by rw [h3]; push_cast; omega, h4⟩
theorem list_ext_at {l m : List Int} (hl : l.length = m.length) (h : ∀ b : Int, 0 ≤ b → b < l.length → at' (-1) l b = at' (-1) m b) : l = m := by
  apply List.ext_getElem hl
  intro n h1 h2
  have := h n (by omega) (by omega)
  unfold at' at this
  rw [Int.toNat_natCast, List.getD_eq_getElem?_getD, List.getD_eq_getElem?_getD, List.getElem?_eq_getElem h1, List.getElem?_eq_getElem h2] at this
  exact this
theorem build_L {B : Int} {bk : Bk} (hb : (bk.length : Int) = B) (hlt : ∀ v ∈ bk, -1 ≤ v) (le : ∀ j, 0 ≤ j → bk.count j ≤ 1) (z : Int) (kx : List Int → Int → Option (List Int × Int)) :
    ∀ (bs : List Int) (i : Nat) (v : List Int), (v.length : Int) = B → (∀ k : Nat, k < bs.length → at' (-1) bk (bs.getD k 0) = i + k ∧ 0 ≤ bs.getD k 0 ∧ bs.getD k 0 < B) → (∀ c, 0 ≤ c → c < B → at' (-1) bk c < (i : Int) + bs.length) → (∀ c, 0 ≤ c → c < B → at' (-1) v c = if at' (-1) bk c < i then at' (-1) bk c else -1) →
      ref19_Assign_L2 kx z bs i v = kx bk z
  | [], i, v, hv, _, hn, hr => by
    rw [ref19_Assign_L2]
    congr 1
    refine list_ext_at (by omega) fun b b0 bl => ?_
    have := hn b b0 (by omega)
    rw [hr b b0 (by omega), if_pos (by simpa using this)]
  | b :: bs, i, v, hv, hk, hn, hr => by
    obtain ⟨h1, b0, bB⟩ := hk 0 (by simp)
    simp only [List.getD_cons_zero] at h1 b0 bB
    rw [ref19_Assign_L2]
    unfold ref19_Assign_B2
    rw [at_idx (-1) b0 (by omega), lupd_ok b0 (by omega)]
    simp only [Option.bind_some]
    refine build_L hb hlt le z kx bs (i + 1) _ (by simpa using hv) (fun k hkl => ?_) (fun c c0 cB => ?_) (fun c c0 cB => ?_)
    · have := hk (k + 1) (by simpa using hkl)
      simp only [List.getD_cons_succ] at this
      refine ⟨by rw [this.1]; push_cast; omega, this.2⟩
    · have := hn c c0 cB; simp only [List.length_cons] at this; push_cast at this ⊢; omega
    · rw [at_set (-1) b0 (by omega) c0, hr c c0 cB]
      by_cases e : c = b
      · subst e; rw [if_pos rfl, if_pos (by rw [h1]; push_cast; omega), h1]; simp
      · rw [if_neg e]
        have hne : at' (-1) bk c ≠ i := fun he => by
          have h2 := at_count (l := bk) ⟨c0, by omega⟩ ⟨b0, by omega⟩ he (by rw [h1]; simp) e
          have := le i (by omega)
          omega
        by_cases h3 : at' (-1) bk c < i
        · rw [if_pos h3, if_pos (by push_cast; omega)]
        · rw [if_neg h3, if_neg (by push_cast; omega)]
theorem wipe_L (z : Int) (kx : List Int → Int → Option (List Int × Int)) : ∀ (xs : List Int) (n N : Nat), n + xs.length = N → ref19_Assign_L4 kx z xs n (List.replicate n (-1) ++ xs) = kx (List.replicate N (-1)) z
  | [], n, N, h => by simp at h; subst h; simp [ref19_Assign_L4]
  | x :: xs, n, N, h => by
    rw [ref19_Assign_L4]
    unfold ref19_Assign_B4
    simp only [List.length_cons] at h
    rw [at_idx (-1) (by omega) (by simp; omega), lupd_ok (by omega) (by simp; omega)]
    simp only [Option.bind_some]
    have e : (List.replicate n (-1 : Int) ++ x :: xs).set (n : Int).toNat (-1) = List.replicate (n + 1) (-1) ++ xs := by
      rw [Int.toNat_natCast, List.set_append_right _ _ (by simp)]
      simp [List.replicate_succ']
    rw [e]
    exact wipe_L z kx xs (n + 1) N (by omega)
def nofix (h : Hsh) : List Bool := List.replicate h.1.toNat false
theorem fst0 {h : Hsh} (hk : HshOK h) (homes : List (List Int)) : Fst h.1 homes (nofix h) 0 (List.replicate h.1.toNat (-1)) := by
  have h1 := hk.1
  refine ⟨⟨by simp; omega, fun v hv => by rw [(List.mem_replicate.1 hv).2]; omega⟩, by simp [nofix]; omega, fun j hj => by rw [List.count_replicate, if_neg (by simp; omega)]; omega, fun b b0 bB => ?_, fun b b0 bB => ?_⟩
  · unfold nofix; rw [at_rep _ _ b0 (by omega), at_rep _ _ b0 (by omega)]; simp
  · rw [at_rep _ _ b0 (by omega)]; omega
theorem assign_ok (h : Hsh) (l : List Int) (hl : l.length ≤ 100000) :
    (¬ HshOK h ∧ cuckoo_Assign h l = some ([], 2) ∧ ref19_Assign h l = some ([], 2)) ∨
    (HshOK h ∧ (∃ n ∈ l, ¬ ItemOK n) ∧ cuckoo_Assign h l = some ([], 1) ∧ ref19_Assign h l = some ([], 1)) ∨
    (HshOK h ∧ (∀ n ∈ l, ItemOK n) ∧ h.1 < l.length ∧ cuckoo_Assign h l = some ([], 4) ∧ ref19_Assign h l = some ([], 4)) ∨
    (HshOK h ∧ (∀ n ∈ l, ItemOK n) ∧ l.length ≤ h.1 ∧ ¬ Placeable (l.map (homeL h)) (nofix h) 0 ∧ cuckoo_Assign h l = some ([], 15) ∧ ref19_Assign h l = some ([], 15)) ∨
    (HshOK h ∧ (∀ n ∈ l, ItemOK n) ∧ l.length ≤ h.1 ∧ Placeable (l.map (homeL h)) (nofix h) 0 ∧ ∃ bk fixed, cuckoo_Assign h l = some (bk, 0) ∧ ref19_Assign h l = some (bk, 0) ∧ Fst h.1 (l.map (homeL h)) fixed l.length bk ∧ Greedy (l.map (homeL h)) 0 (l.map (homeL h)) (nofix h) bk) := by
  have hC : ∀ {e : Int}, cuckoo_asked h l = some e → e ≠ 0 → cuckoo_Assign h l = some ([], e) := fun he hne => by
    unfold cuckoo_Assign; rw [he]; simp only [Option.bind_some]; rw [if_pos hne]
  have hC2 : cuckoo_asked h l = some 0 → cuckoo_Assign h l = if h.1 < (l.length : Int) then some ([], 4) else (cuckoo_start h l).bind fun u13 => (cuckoo_placing_first u13).bind fun u43 => if ((!u43.1) = true) then (some (([] : List Int), 15)) else some (u43.2.1, 0) := fun he => by
    unfold cuckoo_Assign; rw [he]; simp only [Option.bind_some]; rw [if_neg (by simp)]
  have hR : ∀ {x : List (List Int)} {e : Int}, ref19_all h l = some (x, e) → e ≠ 0 → ref19_Assign h l = some ([], e) := fun he hne => by
    unfold ref19_Assign; rw [he]; simp only [Option.bind_some]; rw [if_pos hne]
  have hR2 : ∀ {x : List (List Int)}, ref19_all h l = some (x, 0) → ref19_Assign h l = if h.1 < (l.length : Int) then some ([], 4) else (ref19_First x h.1 1).bind fun u27 => if ((!u27.2) = true) then (some (([] : List Int), 15)) else (lmk h.1 0).bind fun u39 => ref19_Assign_L4 (ref19_Assign_J3 u27.1) h.1 u39 0 u39 := fun he => by
    unfold ref19_Assign; rw [he]; simp only [Option.bind_some]; rw [if_neg (by simp)]
  have hA : cuckoo_Check h = some 0 → ref19_all h l = ref19_all_L1 h.1 h.2 l [] := fun he => by
    unfold ref19_all; rw [rcheck, he]; simp only [Option.bind_some]; rw [if_neg (by simp)]
  rcases asked_ok h l with ⟨e, hk⟩ | ⟨e, hk, hx⟩ | ⟨e, hk, hx⟩
  · rcases check_ok h with ⟨_, hc⟩ | ⟨ec, _⟩
    · exact absurd hc hk
    · refine .inl ⟨hk, hC e (by omega), hR (x := []) ?_ (by omega)⟩
      unfold ref19_all; rw [rcheck, ec]; simp only [Option.bind_some]; rw [if_pos (by simp)]
  · rcases check_ok h with ⟨ec, _⟩ | ⟨_, hc⟩
    · rcases all_L' hk l [] (by simp; omega) with ⟨ha, _⟩ | ⟨_, ea⟩
      · obtain ⟨n, hn, hb⟩ := hx; exact absurd (ha n hn) hb
      · exact .inr (.inl ⟨hk, hx, hC e (by omega), hR ((hA ec).trans ea) (by omega)⟩)
    · exact absurd hk hc
  · rcases check_ok h with ⟨ec, _⟩ | ⟨_, hc⟩
    · rcases all_L' hk l [] (by simp; omega) with ⟨_, ea⟩ | ⟨⟨n, hn, hb⟩, _⟩
      · rw [List.nil_append] at ea
        have h5 := hC2 e
        have h6 := hR2 ((hA ec).trans ea)
        by_cases hlen : h.1 < (l.length : Int)
        · rw [if_pos hlen] at h5 h6
          exact .inr (.inr (.inl ⟨hk, hx, hlen, h5, h6⟩))
        · rw [if_neg hlen] at h5 h6
          have h1 := hk.1; have h2 := hk.2.1
          have hh := homesOK hk l
          obtain ⟨r, bk, fixed, e1, g1, g2⟩ := first_L2 hh (by omega) (by simp; omega) (l.map (homeL h)) 0 (nofix h) (List.replicate h.1.toNat (-1)) rfl (fst0 hk _) (Nat.zero_le _)
          have hu : UsedOf h.1 (nofix h) (List.replicate h.1.toNat 0) := ⟨by simp; omega, by simp [nofix]; omega, fun b b0 bB => by unfold nofix; rw [at_rep _ _ b0 (by omega), at_rep _ _ b0 (by omega)]; rfl⟩
          obtain ⟨rp, e2, hp⟩ := poss_ok hh (by omega) hu
          have hm0 : lmk h.1 (0 : Int) = some (List.replicate h.1.toNat 0) := by unfold lmk; rw [if_pos (by omega)]
          have hcf : cuckoo_placing_first (l.map (homeL h), List.replicate h.1.toNat (-1), List.replicate h.1.toNat false) = some (r, bk, fixed) := e1
          rw [start_ok hk hx (by omega), Option.bind_some, hcf, Option.bind_some] at h5
          have hrf : ref19_First (l.map (homeL h)) h.1 1 = if ((!rp) = true) then some ([], false) else ref19_First_L2 (l.map (homeL h)) h.1 1 (l.map (homeL h)) 0 [] (List.replicate h.1.toNat 0) := by
            unfold ref19_First; rw [hm0, Option.bind_some, e2, Option.bind_some]
          cases r with
          | false =>
            have hnp : ¬ Placeable (l.map (homeL h)) (nofix h) 0 := fun hq => by have := g1.2 (by exact_mod_cast hq); cases this
            have hrp : rp = false := by
              cases rp with
              | false => rfl
              | true => exact absurd (hp.1 rfl) hnp
            subst hrp
            rw [if_pos (by rfl)] at hrf
            rw [hrf] at h6
            exact .inr (.inr (.inr (.inl ⟨hk, hx, by omega, hnp, by simpa using h5, by simpa using h6⟩)))
          | true =>
            have hpl : Placeable (l.map (homeL h)) (nofix h) 0 := by exact_mod_cast g1.1 rfl
            have hrp : rp = true := hp.2 hpl
            subst hrp
            rw [if_neg (by simp)] at hrf
            obtain ⟨k1, k2, k3⟩ := g2 rfl
            obtain ⟨bs, e3, hg⟩ := rfirst_L2 hh (by omega) (by simp; omega) (l.map (homeL h)) 0 (nofix h) (List.replicate h.1.toNat 0) [] rfl hu rfl (Nat.zero_le _) (by exact_mod_cast hpl)
            have hk3 : Greedy (l.map (homeL h)) 0 (l.map (homeL h)) (nofix h) bk := by exact_mod_cast k3
            obtain ⟨hbl, hbs⟩ := greedy_same _ 0 _ bs hk3 (by exact_mod_cast hg)
            have hk1 : Fst h.1 (l.map (homeL h)) fixed l.length bk := by simpa using k1
            rw [e3, List.nil_append] at hrf
            rw [hrf, Option.bind_some] at h6
            have hw := wipe_L h.1 (ref19_Assign_J3 bs) (List.replicate h.1.toNat 0) 0 h.1.toNat (by simp)
            simp only [List.replicate_zero, List.nil_append] at hw
            have hb := hk1.ok.1
            have hbuild := build_L hb (fun v hv => (hk1.ok.2 v hv).1) hk1.le h.1 ref19_Assign_J1 bs 0 (List.replicate h.1.toNat (-1)) (by simp; omega) (fun k hkl => by
              obtain ⟨a1, a2⟩ := hbs k hkl
              refine ⟨by simpa using a1, hh _ ?_ _ a2⟩
              rw [List.getD_eq_getElem?_getD, List.getElem?_eq_getElem (by omega)]
              exact List.getElem_mem _) (fun c c0 cB => by
              have := hk1.lt c c0 cB
              rw [hbl]; simp; exact this) (fun c c0 cB => by
              have := (hk1.ok.2 _ (at_mem (-1) (l := bk) c0 (by omega))).1
              rw [at_rep _ _ c0 (by omega)]
              split
              · rename_i h7; have h8 : at' (-1) bk c < 0 := by simpa using h7
                omega
              · rfl)
            refine .inr (.inr (.inr (.inr ⟨hk, hx, by omega, hpl, bk, fixed, by simpa using h5, ?_, hk1, hk3⟩)))
            rw [h6, if_neg (by simp), hm0, Option.bind_some, hw]
            unfold ref19_Assign_J3
            rw [hbuild]; rfl
      · exact absurd (hx n hn) hb
    · exact absurd hk hc
end Go.Proofs.Ytnfalgmfmiolbaa
namespace Go.Proofs.Ytnfalgmfmiolbaa
set_option maxRecDepth 100000
end Go.Proofs.Ytnfalgmfmiolbaa
namespace Go.Proofs.Ytnfalgmfmiolbaa
set_option linter.unusedVariables false
end Go.Proofs.Ytnfalgmfmiolbaa
namespace Go.Proofs.Ytnfalgmfmiolbaa
set_option linter.unusedVariables false
def PlacesL (ls : List (List Int)) (fixed : List Bool) : Prop := ∃ ps : List (Int × List Int), ps.map (·.2) = ls ∧ (∀ p ∈ ps, p.1 ∈ p.2 ∧ at' false fixed p.1 = false) ∧ (ps.map (·.1)).Nodup
theorem perm_lift {α β : Type} (f : α → β) {l m : List β} (h : l.Perm m) : ∀ ps : List α, ps.map f = l → ∃ qs : List α, qs.Perm ps ∧ qs.map f = m := by
  induction h with
  | nil => intro ps hp; exact ⟨ps, List.Perm.refl _, hp⟩
  | cons x _ ih =>
    intro ps hp
    cases ps with
    | nil => simp at hp
    | cons p ps =>
      simp only [List.map_cons, List.cons.injEq] at hp
      obtain ⟨qs, h1, h2⟩ := ih ps hp.2
      exact ⟨p :: qs, h1.cons p, by simp [hp.1, h2]⟩
  | swap x y l =>
    intro ps hp
    cases ps with
    | nil => simp at hp
    | cons p ps =>
      cases ps with
      | nil => simp at hp
      | cons q ps =>
        simp only [List.map_cons, List.cons.injEq] at hp
        exact ⟨q :: p :: ps, List.Perm.swap p q ps, by simp [hp.1, hp.2.1, hp.2.2]⟩
  | trans _ _ ih1 ih2 =>
    intro ps hp
    obtain ⟨qs, h1, h2⟩ := ih1 ps hp
    obtain ⟨rs, h3, h4⟩ := ih2 qs h2
    exact ⟨rs, h3.trans h1, h4⟩
theorem PlacesL.perm {l m : List (List Int)} {fixed : List Bool} (h : l.Perm m) : PlacesL l fixed → PlacesL m fixed := by
  rintro ⟨ps, h1, h2, h3⟩
  obtain ⟨qs, k1, k2⟩ := perm_lift _ h ps h1
  exact ⟨qs, k2, fun p hp => h2 p (k1.mem_iff.1 hp), (k1.map _).nodup_iff.2 h3⟩
theorem PlacesL.sub {l m : List (List Int)} {fixed : List Bool} (h : m.Sublist l) : PlacesL l fixed → PlacesL m fixed := by
  rintro ⟨ps, h1, h2, h3⟩
  subst h1
  obtain ⟨qs, k1, k2⟩ := List.sublist_map_iff.1 h
  exact ⟨qs, k2.symm, fun p hp => h2 p (k1.subset hp), h3.sublist (k1.map _)⟩
end Go.Proofs.Ytnfalgmfmiolbaa
namespace Go.Proofs.Ytnfalgmfmiolbaa
set_option linter.unusedVariables false
theorem greedy_has {homes : List (List Int)} {bk : Bk} : ∀ (hs : List (List Int)) (i : Int) (fixed : List Bool), Greedy homes i hs fixed bk → ∀ k : Nat, k < hs.length → ∃ b ∈ hs.getD k [], at' (-1) bk b = i + k
  | [], i, fixed, _, k, h => by simp at h
  | l :: hs, i, fixed, ⟨pre, b, post, e1, f1, a1, n1, p1, g1⟩, k, hk => by
    cases k with
    | zero => exact ⟨b, by simp [e1], by simpa using a1⟩
    | succ k =>
      obtain ⟨c, h1, h2⟩ := greedy_has hs (i + 1) _ g1 k (by simpa using hk)
      exact ⟨c, by simpa using h1, by rw [h2]; push_cast; omega⟩
structure Asg (B : Int) (homes : List (List Int)) (bk : Bk) : Prop where
  ok : BkOK B homes bk
  le : ∀ j, 0 ≤ j → bk.count j ≤ 1
  has : ∀ j : Int, 0 ≤ j → j < homes.length → ∃ b, 0 ≤ b ∧ b < B ∧ b ∈ at' [] homes j ∧ at' (-1) bk b = j
theorem asg_of {B : Int} {homes : List (List Int)} (hh : HomesOK B homes) {fixed f0 : List Bool} {bk : Bk} {n : Int} (h : Fst B homes fixed n bk) (hg : Greedy homes 0 homes f0 bk) : Asg B homes bk := by
  refine ⟨h.ok, h.le, fun j h0 h1 => ?_⟩
  obtain ⟨b, hb, e⟩ := greedy_has homes 0 f0 hg j.toNat (by omega)
  have hb' : b ∈ at' [] homes j := hb
  have := hh _ (at_mem [] h0 h1) b hb'
  exact ⟨b, this.1, this.2, hb', by rw [e]; omega⟩
theorem Asg.edge {B : Int} {homes : List (List Int)} {bk : Bk} (h : Asg B homes bk) {b : Int} (b0 : 0 ≤ b) (bB : b < B) (hn : 0 ≤ at' (-1) bk b) : b ∈ at' [] homes (at' (-1) bk b) := by
  have hb := h.ok.1
  have hv := h.ok.2 _ (at_mem (-1) (l := bk) b0 (by omega))
  obtain ⟨c, c0, cB, hc, e⟩ := h.has _ hn hv.2
  by_cases hbc : b = c
  · rw [hbc] at e ⊢; rw [e]; rw [hbc] at hc; rw [e] at hc; exact hc
  · have := at_count (l := bk) ⟨b0, by omega⟩ ⟨c0, by omega⟩ rfl e hbc
    have := h.le _ hn
    omega
end Go.Proofs.Ytnfalgmfmiolbaa
end

section
namespace Go.Proofs.Ytnfalgmfmiolbaa
set_option linter.unusedVariables false
theorem nodup_of_count : ∀ {l : List Int}, (∀ x, l.count x ≤ 1) → l.Nodup
  | [], _ => List.nodup_nil
  | x :: l, h => by
    refine List.nodup_cons.2 ⟨fun hm => ?_, nodup_of_count fun y => ?_⟩
    · have := h x
      rw [List.count_cons_self] at this
      have := List.count_pos_iff.2 hm
      omega
    · have := h y
      rw [List.count_cons] at this
      omega
theorem Asg.used {B : Int} {homes : List (List Int)} {bk : Bk} (h : Asg B homes bk) : (bk.filter fun x => decide (0 ≤ x)).length = homes.length := by
  have hn : (bk.filter fun x => decide (0 ≤ x)).Nodup := nodup_of_count fun x => by
    by_cases hx : 0 ≤ x
    · have h1 := (List.filter_sublist (p := fun x => decide (0 ≤ x)) (l := bk)).count_le x
      have := h.le x hx
      omega
    · have : (bk.filter fun x => decide (0 ≤ x)).count x = 0 := List.count_eq_zero.2 fun hm => by
        have := (List.mem_filter.1 hm).2
        simp at this; omega
      omega
  have hb := h.ok.1
  have h1 := pig hn (m := (List.range homes.length).map fun (i : Nat) => (i : Int)) fun x hx => by
    obtain ⟨h2, h3⟩ := List.mem_filter.1 hx
    have := (h.ok.2 x h2).2
    have h4 : 0 ≤ x := by simpa using h3
    exact List.mem_map.2 ⟨x.toNat, List.mem_range.2 (by omega), by omega⟩
  have h2 := pig (l := (List.range homes.length).map fun (i : Nat) => (i : Int)) (m := bk.filter fun x => decide (0 ≤ x)) (nodup_map List.nodup_range fun x _ y _ e => by omega) fun x hx => by
    obtain ⟨i, hi, rfl⟩ := List.mem_map.1 hx
    obtain ⟨b, b0, bB, _, e⟩ := h.has i (by omega) (by have := List.mem_range.1 hi; omega)
    refine List.mem_filter.2 ⟨?_, by simp⟩
    rw [← e]; exact at_mem (-1) b0 (by omega)
  simp at h1 h2
  omega
end Go.Proofs.Ytnfalgmfmiolbaa
end

section
namespace Go.Proofs.Ytnfalgmfmiolbaa
set_option linter.unusedVariables false
def combos : Nat → List Int → List (List Int)
  | 0, _ => [[]]
  | _ + 1, [] => []
  | k + 1, x :: l => (combos k l).map (x :: ·) ++ combos (k + 1) l
def rg : Nat → Nat → List Int
  | _, 0 => []
  | lo, n + 1 => (lo : Int) :: rg (lo + 1) n
theorem rg_len : ∀ (n lo : Nat), (rg lo n).length = n
  | 0, _ => rfl
  | n + 1, lo => by simp [rg, rg_len n]
theorem rg_mem : ∀ (n lo : Nat) (x : Int), x ∈ rg lo n ↔ lo ≤ x ∧ x < (lo : Int) + n
  | 0, lo, x => by simp [rg]
  | n + 1, lo, x => by
    simp only [rg, List.mem_cons, rg_mem n (lo + 1) x]
    omega
theorem combos_short : ∀ (k : Nat) (l : List Int), l.length < k → combos k l = []
  | 0, _, h => by omega
  | k + 1, [], _ => rfl
  | k + 1, x :: l, h => by
    simp only [List.length_cons] at h
    rw [combos, combos_short k l (by omega), combos_short (k + 1) l (by omega)]; rfl
open Classical in
noncomputable def bad (h : Hsh) (s : List Int) : Bool := decide (h.1 < s.length ∨ ¬ Placeable (s.map (homeL h)) (nofix h) 0)
theorem bad_iff (h : Hsh) (s : List Int) : bad h s = true ↔ h.1 < s.length ∨ ¬ Placeable (s.map (homeL h)) (nofix h) 0 := by unfold bad; simp
theorem leaf_ok {h : Hsh} (hk : HshOK h) {s : List Int} (hs : ∀ x ∈ s, ItemOK x) (hl : s.length ≤ 100000) :
    ((if (h.1 < (s.length : Int)) then (some true) else (cuckoo_start h s).bind fun u70 => (cuckoo_placing_all u70 0).bind fun u100 => some (!u100.1)) : Option Bool) = some (bad h s) := by
  by_cases hc : h.1 < (s.length : Int)
  · rw [if_pos hc, (bad_iff h s).2 (.inl hc)]
  · rw [if_neg hc, start_ok hk hs (by omega)]
    simp only [Option.bind_some]
    have h1 := hk.1; have h2 := hk.2.1
    have hf : ((nofix h).length : Int) = h.1 := by unfold nofix; simp; omega
    obtain ⟨r, bk, e, _, hr⟩ := all_ok (homesOK hk s) hf (by omega) (by simp; omega) (a := 0) (by simp) (fst0 hk (s.map (homeL h))).stand
    rw [show List.replicate h.1.toNat false = nofix h from rfl, e]
    simp only [Option.bind_some]
    congr 1
    cases r with
    | true =>
      cases hb : bad h s with
      | false => rfl
      | true =>
        rcases (bad_iff h s).1 hb with h3 | h3
        · exact absurd h3 hc
        · exact absurd (hr.1 rfl) h3
    | false => exact ((bad_iff h s).2 (.inr fun hp => by have := hr.2 hp; cases this)).symm
theorem through_ok {h : Hsh} (hk : HshOK h) {items size : Nat} (hi : items ≤ 1024) (hsz : size ≤ items) : ∀ (need fuel : Nat) (chosen : List Int) (m n : Nat) (cnt fl : Nat), chosen.length + need = size → need < fuel → n + m = items → (∀ x ∈ chosen, 0 ≤ x ∧ x < items) → fl ≤ cnt → cnt + (combos need (rg n m)).length ≤ 1000000 →
    cuckoo_Failures_f1_R fuel chosen (n : Int) (size : Int) (cnt : Int) h (fl : Int) (items : Int) = some (((cnt + (combos need (rg n m)).length : Nat) : Int), ((fl + (combos need (rg n m)).countP fun s => bad h (chosen ++ s) : Nat) : Int))
  | 0, fuel, chosen, m, n, cnt, fl, h1, h2, h3, h4, h5, h6 => by
    obtain ⟨fuel, rfl⟩ : ∃ k, fuel = k + 1 := ⟨fuel - 1, by omega⟩
    simp only [combos, List.length_singleton] at h6
    rw [cuckoo_Failures_f1_R]
    unfold cuckoo_Failures_f1_B2
    rw [if_pos (by omega), show (size : Int) = (chosen.length : Int) from by omega, leaf_ok hk (fun x hx => by have := h4 x hx; unfold ItemOK; omega) (by omega)]
    simp only [Option.bind_some]
    rw [w64_id (by omega) (by omega), w64_id (by omega) (by omega)]
    simp only [combos, List.length_singleton, List.countP_singleton, List.append_nil]
    by_cases hb : bad h chosen = true
    · rw [if_pos hb, if_pos hb]; simp
    · rw [if_neg hb, if_neg hb]; simp
  | need + 1, fuel, chosen, m, n, cnt, fl, h1, h2, h3, h4, h5, h6 => by
    obtain ⟨fuel, rfl⟩ : ∃ k, fuel = k + 1 := ⟨fuel - 1, by omega⟩
    rw [cuckoo_Failures_f1_R]
    unfold cuckoo_Failures_f1_B2
    rw [if_neg (by omega)]
    have loop : ∀ (m f2 n cnt fl : Nat), m < f2 → n + m = items → fl ≤ cnt → cnt + (combos (need + 1) (rg n m)).length ≤ 1000000 →
        cuckoo_Failures_f1_L1 (cuckoo_Failures_f1_R fuel) (size : Int) h.1 h.2 (items : Int) chosen f2 (n : Int) (cnt : Int) (fl : Int) = some (((cnt + (combos (need + 1) (rg n m)).length : Nat) : Int), ((fl + (combos (need + 1) (rg n m)).countP fun s => bad h (chosen ++ s) : Nat) : Int)) := by
      intro m
      induction m with
      | zero =>
        intro f2 n cnt fl hf hn hfl hc
        obtain ⟨f2, rfl⟩ : ∃ k, f2 = k + 1 := ⟨f2 - 1, by omega⟩
        rw [cuckoo_Failures_f1_L1]
        unfold cuckoo_Failures_f1_B1
        rw [w64_id (x := (size : Int) - _) (by omega) (by omega), w64_id (by omega) (by omega), if_neg (by omega)]
        simp [rg, combos]
      | succ m ih =>
        intro f2 n cnt fl hf hn hfl hc
        obtain ⟨f2, rfl⟩ : ∃ k, f2 = k + 1 := ⟨f2 - 1, by omega⟩
        rw [cuckoo_Failures_f1_L1]
        unfold cuckoo_Failures_f1_B1
        rw [w64_id (x := (size : Int) - _) (by omega) (by omega), w64_id (by omega) (by omega)]
        by_cases hle : need + 1 ≤ m + 1
        · rw [if_pos (by omega), lapp_ok (by simp; omega)]
          simp only [Option.bind_some]
          simp only [rg, combos, List.length_append, List.length_map, List.countP_append, List.countP_map] at hc ⊢
          rw [w64_id (by omega) (by omega), show (n : Int) + 1 = ((n + 1 : Nat) : Int) from by omega]
          have hcp : ((combos need (rg (n + 1) m)).countP fun s => bad h (chosen ++ [(n : Int)] ++ s)) ≤ (combos need (rg (n + 1) m)).length := List.countP_le_length
          rw [show (h.1, h.2) = h from rfl, through_ok hk hi hsz need fuel (chosen ++ [(n : Int)]) m (n + 1) cnt fl (by simp; omega) (by omega) (by omega) (fun x hx => by
            rcases List.mem_append.1 hx with hx | hx
            · exact h4 x hx
            · simp at hx; omega) hfl (by omega)]
          simp only [Option.bind_some]
          rw [ih f2 (n + 1) _ _ (by omega) (by omega) (by omega) (by omega)]
          have hfun : ((combos need (rg (n + 1) m)).countP fun s => bad h (chosen ++ [(n : Int)] ++ s)) = (combos need (rg (n + 1) m)).countP ((fun s => bad h (chosen ++ s)) ∘ fun x => (n : Int) :: x) := by
            congr 1; funext s; simp
          rw [hfun]
          simp only [Nat.add_assoc]
        · rw [if_neg (by omega), combos_short (need + 1) (rg n (m + 1)) (by rw [rg_len]; omega)]
          simp
    exact loop m big n cnt fl (by simp only [big]; omega) h3 h5 h6
theorem failures_ok {h : Hsh} (hk : HshOK h) {items size : Nat} (hi : items ≤ 1024) (hsz : size ≤ items) {c : Int} (hc : cuckoo_sets items size = some c) (hc2 : c ≤ 4096) (hn : (combos size (rg 0 items)).length ≤ 1000000) :
    cuckoo_Failures h items size = some ((((combos size (rg 0 items)).countP (bad h) : Nat) : Int), (((combos size (rg 0 items)).length : Nat) : Int), 0) := by
  unfold cuckoo_Failures
  rcases check_ok h with ⟨e, _⟩ | ⟨_, hq⟩
  · rw [e]
    simp only [Option.bind_some]
    rw [if_neg (by simp), if_neg (by omega), hc]
    simp only [Option.bind_some]
    rw [if_neg (by omega)]
    have := through_ok hk hi hsz size big [] items 0 0 0 (by simp) (by simp only [big]; omega) (by omega) (by simp) (by omega) (by omega)
    unfold cuckoo_Failures_f1
    rw [show ((0 : Nat) : Int) = 0 from rfl] at this
    rw [this]
    simp
  · exact absurd hk hq
end Go.Proofs.Ytnfalgmfmiolbaa
end

section
namespace Go.Proofs.Ytnfalgmfmiolbaa
set_option linter.unusedVariables false
def ch : Nat → Nat → Nat
  | _, 0 => 1
  | 0, _ + 1 => 0
  | n + 1, k + 1 => ch n k + ch n (k + 1)
theorem combos_len : ∀ (k : Nat) (l : List Int), (combos k l).length = ch l.length k
  | 0, l => by cases l <;> rfl
  | k + 1, [] => rfl
  | k + 1, x :: l => by
    simp only [combos, List.length_append, List.length_map, List.length_cons, ch]
    rw [combos_len k l, combos_len (k + 1) l]
def after (items : Nat) : List Int → List (List Int)
  | [] => []
  | x :: s => (after items s).map (x :: ·) ++ combos (s.length + 1) (rg (x.toNat + 1) (items - (x.toNat + 1)))
theorem lidx_app {a b : List Int} {i : Int} (h : (a.length : Int) ≤ i) : lidx (a ++ b) i = lidx b (i - a.length) := by
  unfold lidx
  rw [if_pos (by omega), if_pos (by omega), List.getElem?_append_right (by omega)]
  congr 1; omega
theorem rg_snoc : ∀ (n lo : Nat), rg lo (n + 1) = rg lo n ++ [((lo + n : Nat) : Int)]
  | 0, lo => rfl
  | n + 1, lo => by
    rw [rg, rg_snoc n (lo + 1)]
    simp only [rg, List.cons_append]
    congr 3; omega
end Go.Proofs.Ytnfalgmfmiolbaa
end

section
namespace Go.Proofs.Ytnfalgmfmiolbaa
set_option linter.unusedVariables false
def layB (h : Hsh) (n : Nat) (b : Int) : List Int := (rg 0 n).filter fun i => decide (b ∈ homeL h i)
def lay (h : Hsh) (n : Nat) : List (List Int) := (rg 0 h.1.toNat).map (layB h n)
theorem at_map {α β : Type} (d : α) (e : β) (f : α → β) {l : List α} {i : Int} (h0 : 0 ≤ i) (h1 : i < l.length) : at' e (l.map f) i = f (at' d l i) := by
  unfold at'
  rw [List.getD_eq_getElem?_getD, List.getD_eq_getElem?_getD, List.getElem?_map, List.getElem?_eq_getElem (by omega : i.toNat < l.length)]; rfl
theorem getD_rg : ∀ (n lo k : Nat), k < n → (rg lo n).getD k 0 = ((lo + k : Nat) : Int)
  | n + 1, lo, 0, _ => by simp [rg]
  | n + 1, lo, k + 1, hk => by rw [rg, List.getD_cons_succ, getD_rg n (lo + 1) k (by omega)]; congr 1; omega
theorem at_rg {n lo : Nat} {i : Int} (h0 : 0 ≤ i) (h1 : i < n) : at' 0 (rg lo n) i = lo + i := by
  unfold at'
  rw [getD_rg n lo i.toNat (by omega)]
  omega
theorem lay_len (h : Hsh) (n : Nat) : (lay h n).length = h.1.toNat := by unfold lay; simp [rg_len]
theorem lay_at {h : Hsh} {n : Nat} {b : Int} (b0 : 0 ≤ b) (bB : b < h.1) : at' [] (lay h n) b = layB h n b := by
  unfold lay
  rw [at_map 0 [] _ b0 (by rw [rg_len]; omega), at_rg b0 (by omega)]
  simp
theorem ext_at {α : Type} (d : α) {l m : List α} (hl : l.length = m.length) (h : ∀ b : Int, 0 ≤ b → b < l.length → at' d l b = at' d m b) : l = m := by
  apply List.ext_getElem hl
  intro n h1 h2
  have := h n (by omega) (by omega)
  unfold at' at this
  rw [Int.toNat_natCast, List.getD_eq_getElem?_getD, List.getD_eq_getElem?_getD, List.getElem?_eq_getElem h1, List.getElem?_eq_getElem h2] at this
  exact this
theorem layB_succ (h : Hsh) (n : Nat) (b : Int) : layB h (n + 1) b = layB h n b ++ if b ∈ homeL h n then [(n : Int)] else [] := by
  unfold layB
  have := rg_snoc n 0
  rw [Nat.zero_add] at this
  rw [this, List.filter_append]
  by_cases hb : b ∈ homeL h n <;> simp [hb]
theorem layB_lt {h : Hsh} {n : Nat} {b x : Int} (hx : x ∈ layB h n b) : 0 ≤ x ∧ x < n := by
  have := (rg_mem n 0 x).1 (List.mem_filter.1 hx).1
  omega
theorem layB_len (h : Hsh) (n : Nat) (b : Int) : (layB h n b).length ≤ n := by
  have := List.length_filter_le (fun i => decide (b ∈ homeL h i)) (rg 0 n)
  rw [rg_len] at this
  exact this
def Mid (h : Hsh) (n : Nat) (dn : List Int) (v : List (List Int)) : Prop := (v.length : Int) = h.1 ∧ ∀ b, 0 ≤ b → b < h.1 → at' [] v b = layB h n b ++ if b ∈ dn then [(n : Int)] else []
theorem Mid.put {h : Hsh} {n : Nat} {dn : List Int} {v : List (List Int)} (m : Mid h n dn v) {b : Int} (b0 : 0 ≤ b) (bB : b < h.1) (hb : b ∉ dn) : Mid h n (dn ++ [b]) (v.set b.toNat (at' [] v b ++ [(n : Int)])) := by
  have hl := m.1
  refine ⟨by simpa using m.1, fun c c0 cB => ?_⟩
  rw [at_set [] b0 (by omega) c0]
  by_cases e : c = b
  · subst e
    rw [if_pos rfl, m.2 c c0 cB, if_neg hb]; simp
  · rw [if_neg e, m.2 c c0 cB]
    congr 1
    simp [e]
theorem Mid.skip {h : Hsh} {n : Nat} {dn : List Int} {v : List (List Int)} (m : Mid h n dn v) {b : Int} (hb : b ∈ dn) : Mid h n (dn ++ [b]) v := by
  refine ⟨m.1, fun c c0 cB => ?_⟩
  rw [m.2 c c0 cB]
  congr 1
  by_cases e : c = b
  · subst e; simp [hb]
  · simp [e]
theorem lay_L1 {h : Hsh} {n : Nat} (hn : n ≤ 1024) (rec : Int → List (List Int) → Int → Option (List (List Int) × Int)) (z : Int) : ∀ (bs dn : List Int) (v : List (List Int)), (∀ b ∈ bs, 0 ≤ b ∧ b < h.1) → Mid h n dn v →
    ∃ w, cuckoo_Layout_L1 rec (n : Int) z bs v = rec ((n + 1 : Nat) : Int) w z ∧ Mid h n (dn ++ bs) w
  | [], dn, v, _, m => ⟨v, by rw [cuckoo_Layout_L1, w64_id (by omega) (by omega)]; rfl, by simpa using m⟩
  | b :: bs, dn, v, hb, m => by
    obtain ⟨b0, bB⟩ := hb b List.mem_cons_self
    have hl := m.1
    have hv := m.2 b b0 bB
    have hlb := layB_len h n b
    rw [cuckoo_Layout_L1]
    unfold cuckoo_Layout_B1
    rw [at_idx [] b0 (by omega)]
    simp only [Option.bind_some]
    by_cases hd : b ∈ dn
    · rw [if_pos hd] at hv
      have h1 : ((at' [] v b).length : Int) = (layB h n b).length + 1 := by rw [hv]; simp
      have h2 : lidx (at' [] v b) (w64 (((at' [] v b).length : Int) - 1)) = some (n : Int) := by
        rw [w64_id (by omega) (by omega), hv, lidx_app (by simp)]
        unfold lidx
        rw [if_pos (by simp)]
        simp
      rw [if_neg (by omega), h2]
      simp only [Option.bind_some]
      rw [if_neg (by simp)]
      obtain ⟨w, e, hw⟩ := lay_L1 hn rec z bs (dn ++ [b]) v (fun c hc => hb c (List.mem_cons_of_mem _ hc)) (m.skip hd)
      exact ⟨w, e, by simpa using hw⟩
    · rw [if_neg hd, List.append_nil] at hv
      have hc : ((if ((at' [] v b).length : Int) = 0 then some true else (lidx (at' [] v b) (w64 (((at' [] v b).length : Int) - 1))).bind fun u383 => some (decide (u383 ≠ (n : Int)))) : Option Bool) = some true := by
        by_cases h0 : ((at' [] v b).length : Int) = 0
        · rw [if_pos h0]
        · rw [if_neg h0, w64_id (by rw [hv]; omega) (by rw [hv]; omega), at_idx 0 (by omega) (by omega)]
          simp only [Option.bind_some]
          have hm : at' 0 (at' [] v b) (((at' [] v b).length : Int) - 1) ∈ at' [] v b := at_mem 0 (by omega) (by omega)
          generalize at' 0 (at' [] v b) (((at' [] v b).length : Int) - 1) = x at hm ⊢
          rw [hv] at hm
          have := layB_lt hm
          congr 1
          simp; omega
      rw [hc, Option.bind_some, if_pos rfl, lapp_ok (by rw [hv]; simp; omega)]
      simp only [Option.bind_some]
      rw [lupd_ok b0 (by omega)]
      simp only [Option.bind_some]
      obtain ⟨w, e, hw⟩ := lay_L1 hn rec z bs (dn ++ [b]) _ (fun c hc => hb c (List.mem_cons_of_mem _ hc)) (m.put b0 bB hd)
      exact ⟨w, e, by simpa using hw⟩
theorem has_ok (x : Int) : ∀ l : List Int, ref19_has_L1 x l = some (decide (x ∈ l))
  | [] => rfl
  | y :: l => by
    rw [ref19_has_L1]
    unfold ref19_has_B1
    by_cases e : y = x
    · rw [if_pos e]; simp [e]
    · rw [if_neg e, has_ok x l]
      congr 1
      have : ¬ x = y := fun h => e h.symm
      simp [this]
theorem rlay_L1 {h : Hsh} {n : Nat} (hn : n ≤ 1024) (rec : Int → List (List Int) → Int → Option (List (List Int) × Int)) (z : Int) : ∀ (bs dn : List Int) (v : List (List Int)), (∀ b ∈ bs, 0 ≤ b ∧ b < h.1) → Mid h n dn v →
    ∃ w, ref19_Layout_L1 rec (n : Int) (dn ++ bs) z bs dn.length v = rec ((n + 1 : Nat) : Int) w z ∧ Mid h n (dn ++ bs) w
  | [], dn, v, _, m => ⟨v, by rw [ref19_Layout_L1, w64_id (by omega) (by omega)]; rfl, by simpa using m⟩
  | b :: bs, dn, v, hb, m => by
    obtain ⟨b0, bB⟩ := hb b List.mem_cons_self
    have hl := m.1
    have hv := m.2 b b0 bB
    have hlb := layB_len h n b
    rw [ref19_Layout_L1]
    unfold ref19_Layout_B1
    rw [lsub_ok (by omega) (by omega) (by simp; omega)]
    simp only [Option.bind_some]
    have hd1 : ((dn ++ b :: bs).drop (0 : Int).toNat).take ((dn.length : Int) - 0).toNat = dn := by simp
    rw [hd1]
    unfold ref19_has
    rw [has_ok]
    simp only [Option.bind_some]
    by_cases hd : b ∈ dn
    · rw [decide_eq_true hd, if_neg (by simp)]
      have ih := rlay_L1 hn rec z bs (dn ++ [b]) v (fun c hc => hb c (List.mem_cons_of_mem _ hc)) (m.skip hd)
      simp only [List.append_assoc, List.singleton_append, List.length_append, List.length_singleton] at ih
      exact ih
    · rw [if_neg hd, List.append_nil] at hv
      rw [decide_eq_false hd, if_pos (by simp), at_idx [] b0 (by omega)]
      simp only [Option.bind_some]
      rw [lapp_ok (by rw [hv]; simp; omega)]
      simp only [Option.bind_some]
      rw [lupd_ok b0 (by omega)]
      simp only [Option.bind_some]
      have ih := rlay_L1 hn rec z bs (dn ++ [b]) _ (fun c hc => hb c (List.mem_cons_of_mem _ hc)) (m.put b0 bB hd)
      simp only [List.append_assoc, List.singleton_append, List.length_append, List.length_singleton] at ih
      exact ih
theorem Mid.next {h : Hsh} {n : Nat} {w : List (List Int)} (m : Mid h n ([] ++ homeL h n) w) : Mid h (n + 1) [] w := by
  refine ⟨m.1, fun b b0 bB => ?_⟩
  rw [m.2 b b0 bB, layB_succ]; simp
theorem Mid.done {h : Hsh} (hk : HshOK h) {n : Nat} {w : List (List Int)} (m : Mid h n [] w) : w = lay h n := by
  have hl := m.1
  have := hk.1
  refine ext_at [] (by rw [lay_len]; omega) fun b b0 bB => ?_
  rw [m.2 b b0 (by omega), lay_at b0 (by omega)]; simp
theorem lay_L2 {h : Hsh} (hk : HshOK h) {items : Nat} (hi : items ≤ 1024) : ∀ (r n fuel : Nat) (v : List (List Int)), n + r = items → r < fuel → Mid h n [] v → cuckoo_Layout_L2 (items : Int) h.2 fuel (n : Int) v h.1 = some (lay h items, 0)
  | 0, n, fuel, v, hn, hf, m => by
    obtain ⟨fuel, rfl⟩ : ∃ k, fuel = k + 1 := ⟨fuel - 1, by omega⟩
    rw [cuckoo_Layout_L2]
    unfold cuckoo_Layout_B2
    rw [if_neg (by omega), m.done hk, show n = items from by omega]
  | r + 1, n, fuel, v, hn, hf, m => by
    obtain ⟨fuel, rfl⟩ : ∃ k, fuel = k + 1 := ⟨fuel - 1, by omega⟩
    rw [cuckoo_Layout_L2]
    unfold cuckoo_Layout_B2
    rw [if_pos (by omega), homes_ok (h := (h.1, h.2)) hk (by unfold ItemOK; omega)]
    simp only [Option.bind_some]
    obtain ⟨w, e, hw⟩ := lay_L1 (h := h) (n := n) (by omega) (cuckoo_Layout_L2 (items : Int) h.2 fuel) h.1 (homeL h n) [] v (homeL_range hk n) m
    rw [show homeL (h.1, h.2) (n : Int) = homeL h n from rfl, e]
    exact lay_L2 hk hi r (n + 1) fuel w (by omega) (by omega) hw.next
theorem rlay_L2 {h : Hsh} (hk : HshOK h) {items : Nat} (hi : items ≤ 1024) : ∀ (r n fuel : Nat) (v : List (List Int)), n + r = items → r < fuel → Mid h n [] v → ref19_Layout_L2 (items : Int) h.2 fuel (n : Int) v h.1 = some (lay h items, 0)
  | 0, n, fuel, v, hn, hf, m => by
    obtain ⟨fuel, rfl⟩ : ∃ k, fuel = k + 1 := ⟨fuel - 1, by omega⟩
    rw [ref19_Layout_L2]
    unfold ref19_Layout_B2
    rw [if_neg (by omega), m.done hk, show n = items from by omega]
  | r + 1, n, fuel, v, hn, hf, m => by
    obtain ⟨fuel, rfl⟩ : ∃ k, fuel = k + 1 := ⟨fuel - 1, by omega⟩
    rw [ref19_Layout_L2]
    unfold ref19_Layout_B2
    rw [if_pos (by omega), rhomes_ok (h := (h.1, h.2)) hk (by unfold ItemOK; omega)]
    simp only [Option.bind_some]
    obtain ⟨w, e, hw⟩ := rlay_L1 (h := h) (n := n) (by omega) (ref19_Layout_L2 (items : Int) h.2 fuel) h.1 (homeL h n) [] v (homeL_range hk n) m
    rw [List.nil_append, List.length_nil] at e
    rw [show homeL (h.1, h.2) (n : Int) = homeL h n from rfl, e]
    exact rlay_L2 hk hi r (n + 1) fuel w (by omega) (by omega) hw.next
theorem mid0 {h : Hsh} (hk : HshOK h) : Mid h 0 [] (List.replicate h.1.toNat ([] : List Int)) := by
  have := hk.1
  refine ⟨by simp; omega, fun b b0 bB => ?_⟩
  rw [at_rep _ _ b0 (by omega)]; simp [layB, rg]
theorem layout_yes {h : Hsh} (hk : HshOK h) {n : Nat} (hn : n ≤ 1024) : cuckoo_Layout h n = some (lay h n, 0) ∧ ref19_Layout h n = some (lay h n, 0) := by
  have h1 := hk.1; have h2 := hk.2.1
  have hm : lmk h.1 ([] : List Int) = some (List.replicate h.1.toNat []) := by unfold lmk; rw [if_pos (by omega)]
  have e0 : cuckoo_Check h = some 0 := by
    rcases check_ok h with ⟨e, _⟩ | ⟨_, hq⟩
    · exact e
    · exact absurd hk hq
  constructor
  · unfold cuckoo_Layout
    rw [e0, Option.bind_some, if_neg (by simp), if_neg (by omega), hm, Option.bind_some]
    exact lay_L2 hk hn n 0 big _ (by omega) (by simp only [big]; omega) (mid0 hk)
  · unfold ref19_Layout
    rw [rcheck, e0, Option.bind_some, if_neg (by simp), if_neg (by omega), hm, Option.bind_some]
    exact rlay_L2 hk hn n 0 big _ (by omega) (by simp only [big]; omega) (mid0 hk)
def Rst (h : Hsh) (l : List Int) : Nat → List Bool → List Int → Prop
  | _, v, [] => ∀ j : Int, 0 ≤ j → j < l.length → at' false v j = true
  | i, v, x :: xs => (x = -1 ∧ Rst h l (i + 1) v xs) ∨ (0 ≤ x ∧ x < l.length ∧ at' false v x = false ∧ (i : Int) ∈ homeL h (at' 0 l x) ∧ Rst h l (i + 1) (v.set x.toNat true) xs)
theorem Rst.all {h : Hsh} {l : List Int} : ∀ (xs : List Int) (i : Nat) (v : List Bool), v.length = l.length → Rst h l i v xs →
    (∀ y ∈ xs, -1 ≤ y ∧ y < l.length) ∧ (∀ j : Int, 0 ≤ j → j < l.length → xs.count j + (if at' false v j = true then 1 else 0) = 1) ∧ (∀ k : Nat, k < xs.length → 0 ≤ xs.getD k 0 → ((i + k : Nat) : Int) ∈ homeL h (at' 0 l (xs.getD k 0)))
  | [], i, v, hv, hr => ⟨by simp, fun j h0 h1 => by rw [hr j h0 h1]; simp, fun k hk => by simp at hk⟩
  | x :: xs, i, v, hv, hr => by
    rcases hr with ⟨h1, hr⟩ | ⟨x0, xl, hf, hm, hr⟩
    · obtain ⟨a, b, c⟩ := Rst.all xs (i + 1) v hv hr
      refine ⟨fun y hy => ?_, fun j h0 h2 => ?_, fun k hk h0 => ?_⟩
      · rcases List.mem_cons.1 hy with rfl | hy
        · omega
        · exact a y hy
      · rw [List.count_cons]
        have : (x == j) = false := by simp; omega
        rw [this]
        simpa using b j h0 h2
      · cases k with
        | zero => simp only [List.getD_cons_zero] at h0; omega
        | succ k =>
          simp only [List.getD_cons_succ, List.length_cons] at h0 hk ⊢
          have := c k (by omega) h0
          rwa [show i + 1 + k = i + (k + 1) from by omega] at this
    · obtain ⟨a, b, c⟩ := Rst.all xs (i + 1) (v.set x.toNat true) (by simpa using hv) hr
      refine ⟨fun y hy => ?_, fun j h0 h2 => ?_, fun k hk h0 => ?_⟩
      · rcases List.mem_cons.1 hy with rfl | hy
        · omega
        · exact a y hy
      · have := b j h0 h2
        rw [at_set false x0 (by omega) h0] at this
        rw [List.count_cons]
        by_cases e : j = x
        · subst e
          rw [if_pos rfl] at this
          rw [hf]; simp at this ⊢; exact this
        · rw [if_neg e] at this
          have e2 : (x == j) = false := by simp; omega
          rw [e2]; simpa using this
      · cases k with
        | zero => simpa using hm
        | succ k =>
          simp only [List.getD_cons_succ, List.length_cons] at h0 hk ⊢
          have := c k (by omega) h0
          rwa [show i + 1 + k = i + (k + 1) from by omega] at this
end Go.Proofs.Ytnfalgmfmiolbaa
end

section
namespace Go.Proofs.Ytnfalgmfmiolbaa
set_option linter.unusedVariables false
def DiceOK (d : List Int × Int) : Prop := 0 ≤ d.2 ∧ d.2 ≤ 1000 ∧ d.1.length ≤ 300 ∧ ∀ x ∈ d.1, 0 ≤ x ∧ x ≤ 255
theorem dpick {d : List Int × Int} (hd : DiceOK d) {n : Int} (hn : 1 ≤ n) : ∃ v e, play_Dice_Pick d n = some (v, e) ∧ 0 ≤ v ∧ v < n ∧ DiceOK e := by
  obtain ⟨h1, h2, h3, h4⟩ := hd
  unfold play_Dice_Pick
  by_cases hl : (d.1.length : Int) ≤ d.2
  · rw [if_pos hl]; exact ⟨0, d, rfl, by omega, by omega, h1, h2, h3, h4⟩
  · rw [if_neg hl, w64_id (x := d.2 + 1) (by omega) (by omega), show d.2 + 1 - 1 = d.2 from by omega, w64_id (x := d.2) (by omega) (by omega), lidx_ok 0 h1 (by omega), Option.bind_some, nz_ok (by omega), Option.bind_some]
    generalize hx : d.1.getD d.2.toNat 0 = x
    have hm : x ∈ d.1 := by
      rw [← hx, List.getD_eq_getElem?_getD, List.getElem?_eq_getElem (by omega)]
      exact List.getElem_mem _
    have hxr := h4 x hm
    rw [w64_id (x := x) (by omega) (by omega)]
    exact ⟨_, _, rfl, Int.tmod_nonneg _ (by omega), Int.tmod_lt_of_pos _ (by omega), by dsimp only; omega, by dsimp only; omega, h3, h4⟩
theorem dnew {t : List Int} (ht : ∀ x ∈ t, 0 ≤ x ∧ x ≤ 255) : ∃ d, play_New t = some d ∧ DiceOK d := by
  unfold play_New play_New_J1
  by_cases hl : 300 < (t.length : Int)
  · rw [if_pos hl, lsub_ok (by omega) (by omega) (by omega), Option.bind_some]
    refine ⟨_, rfl, by dsimp only; omega, by dsimp only; omega, ?_, fun x hx => ht x ?_⟩
    · simp; omega
    · simp only [Int.toNat_zero, List.drop_zero] at hx
      exact List.mem_of_mem_take hx
  · rw [if_neg hl]
    exact ⟨_, rfl, by dsimp only; omega, by dsimp only; omega, by dsimp only; omega, ht⟩
end Go.Proofs.Ytnfalgmfmiolbaa
end

section
namespace Go.Proofs.Ytnfalgmfmiolbaa
set_option linter.unusedVariables false
set_option maxRecDepth 100000
theorem sane43 : law43_sane = some true := by kernel_rfl
theorem dhash_L (z : Int) : ∀ (m fuel : Nat) (d : List Int × Int) (ps : List (Int × Int)), m < fuel → m ≤ 3 → ps.length + m ≤ 100 → DiceOK d → (∀ p ∈ ps, PairOK p) →
    ∃ qs e, play_Dice_Hashing_L2 play_Dice_Hashing_J1 z fuel (m : Int) d.1 d.2 ps = some ((z, qs), e) ∧ DiceOK e ∧ qs.length = ps.length + m ∧ ∀ p ∈ qs, PairOK p
  | 0, fuel + 1, d, ps, _, _, _, hd, hp => by
    rw [play_Dice_Hashing_L2]
    unfold play_Dice_Hashing_B2
    rw [if_neg (by omega)]
    exact ⟨ps, (d.1, d.2), rfl, hd, by simp, hp⟩
  | m + 1, fuel + 1, d, ps, hf, hm, hps, hd, hp => by
    rw [play_Dice_Hashing_L2]
    unfold play_Dice_Hashing_B2
    rw [if_pos (by omega)]
    obtain ⟨v, e1, h1, a1, b1, c1⟩ := dpick (d := (d.1, d.2)) hd (n := 50) (by omega)
    rw [h1, Option.bind_some]
    obtain ⟨w, e2, h2, a2, b2, c2⟩ := dpick c1 (n := 50) (by omega)
    rw [h2, Option.bind_some, lapp_ok (by simp; omega), Option.bind_some]
    dsimp only
    rw [w64_id (x := 1 + v) (by omega) (by omega), w64_id (x := ((m + 1 : Nat) : Int) - 1) (by omega) (by omega), show ((m + 1 : Nat) : Int) - 1 = (m : Int) from by omega]
    obtain ⟨qs, e, k1, k2, k3, k4⟩ := dhash_L z m fuel e2 (ps ++ [(1 + v, w)]) (by omega) (by omega) (by rw [List.length_append, List.length_singleton]; omega) c2 (fun p hp' => by
      rcases List.mem_append.1 hp' with h | h
      · exact hp p h
      · rw [List.mem_singleton.1 h]; unfold PairOK; dsimp only; omega)
    exact ⟨qs, e, k1, k2, by rw [k3]; simp; omega, k4⟩
theorem dhash {d : List Int × Int} (hd : DiceOK d) : ∃ h e, play_Dice_Hashing d = some (h, e) ∧ HshOK h ∧ 2 ≤ h.1 ∧ h.1 ≤ 6 ∧ DiceOK e := by
  unfold play_Dice_Hashing
  obtain ⟨v, e1, h1, a1, b1, c1⟩ := dpick hd (n := 5) (by omega)
  rw [h1, Option.bind_some]
  obtain ⟨k, e2, h2, a2, b2, c2⟩ := dpick c1 (n := 3) (by omega)
  rw [h2, Option.bind_some]
  dsimp only
  rw [w64_id (x := 2 + v) (by omega) (by omega), w64_id (x := 1 + k) (by omega) (by omega)]
  obtain ⟨qs, e, k1, k2, k3, k4⟩ := dhash_L (2 + v) (k.toNat + 1) big e2 [] (by simp only [big]; omega) (by omega) (by simp; omega) c2 (by simp)
  rw [show ((k.toNat + 1 : Nat) : Int) = 1 + k from by omega] at k1
  exact ⟨(2 + v, qs), e, k1, ⟨by dsimp only; omega, by dsimp only; omega, by dsimp only; simp at k3; omega, by dsimp only; simp at k3; omega, k4⟩, by dsimp only; omega, by dsimp only; omega, k2⟩
abbrev PlanR := ((List (List Int)) × (List Int) × (List Int)) × Int
theorem plan_L3 (rows : List Int) (ls : List (List Int)) (i item B : Int) (hi : 0 ≤ i ∧ i < ls.length) (hit : item < rows.length) (kx : Int → Int → Option PlanR) (hlen : (at' [] ls i).length ≤ 100000) : ∀ (r k fuel : Nat) (v : Int), k + r = (at' [] ls i).length → r < fuel → -1 ≤ v ∧ v ≤ 100000 →
    ∃ w, ref34_Plan_L3 kx i rows ls item B fuel v (k : Int) = kx w B ∧ -1 ≤ w ∧ w ≤ 100000
  | 0, k, fuel, v, hk, hf, hv => by
    obtain ⟨fuel, rfl⟩ : ∃ n, fuel = n + 1 := ⟨fuel - 1, by omega⟩
    rw [ref34_Plan_L3]
    unfold ref34_Plan_B3
    rw [at_idx [] hi.1 hi.2, Option.bind_some, if_neg (by omega)]
    exact ⟨v, rfl, hv⟩
  | r + 1, k, fuel, v, hk, hf, hv => by
    obtain ⟨fuel, rfl⟩ : ∃ n, fuel = n + 1 := ⟨fuel - 1, by omega⟩
    rw [ref34_Plan_L3]
    unfold ref34_Plan_B3
    rw [at_idx [] hi.1 hi.2, Option.bind_some, if_pos (by omega), w64_id (x := (k : Int) + 1) (by omega) (by omega), show (k : Int) + 1 = ((k + 1 : Nat) : Int) from by omega]
    have hc : ∃ c : Bool, ((if (0 ≤ item) then ((some (at' [] ls i)).bind fun u26306 => (lidx u26306 (k : Int)).bind fun u26314 => (lidx rows item).bind fun u26319 => some (decide (u26314 = u26319))) else some false) : Option Bool) = some c := by
      by_cases h0 : 0 ≤ item
      · rw [if_pos h0, Option.bind_some, at_idx 0 (by omega) (by omega), Option.bind_some, at_idx 0 h0 hit, Option.bind_some]; exact ⟨_, rfl⟩
      · rw [if_neg h0]; exact ⟨_, rfl⟩
    obtain ⟨c, hc⟩ := hc
    rw [hc, Option.bind_some]
    cases c with
    | true => rw [if_pos rfl]; exact plan_L3 rows ls i item B hi hit kx hlen r (k + 1) fuel (k : Int) (by omega) (by omega) (by omega)
    | false => rw [if_neg (by simp)]; exact plan_L3 rows ls i item B hi hit kx hlen r (k + 1) fuel v (by omega) (by omega) hv
theorem plan_L5 (rows : List Int) (ls : List (List Int)) (bk : List Int) (hb : bk.length = ls.length) (hl : ls.length ≤ 1000) (hbk : ∀ v ∈ bk, v < rows.length) (hlen : ∀ x ∈ ls, x.length ≤ 100000) : ∀ (r i fuel : Nat) (p q : List Int) (B : Int), i + r = ls.length → r < fuel → p.length = i → q.length = i →
    ∃ ps is, ref34_Plan_L5 (ref34_Plan_J1 ls) rows ls bk fuel (i : Int) p q B = some ((ls, ps, is), 0)
  | 0, i, fuel, p, q, B, hi, hf, hp, hq => by
    obtain ⟨fuel, rfl⟩ : ∃ n, fuel = n + 1 := ⟨fuel - 1, by omega⟩
    rw [ref34_Plan_L5]
    unfold ref34_Plan_B5
    rw [if_neg (by omega)]
    exact ⟨p, q, rfl⟩
  | r + 1, i, fuel, p, q, B, hi, hf, hp, hq => by
    obtain ⟨fuel, rfl⟩ : ∃ n, fuel = n + 1 := ⟨fuel - 1, by omega⟩
    have hm : at' (-1) bk (i : Int) ∈ bk := at_mem (-1) (by omega) (by omega)
    have hm2 : at' [] ls (i : Int) ∈ ls := at_mem [] (by omega) (by omega)
    have key : ∀ v : Int, -1 ≤ v ∧ v ≤ 100000 → ∃ ps is, ref34_Plan_J4 (ref34_Plan_L5 (ref34_Plan_J1 ls) rows ls bk fuel) (i : Int) rows ls (at' (-1) bk (i : Int)) B p q v = some ((ls, ps, is), 0) := fun v hv => by
      unfold ref34_Plan_J4
      obtain ⟨w, e, _⟩ := plan_L3 rows ls (i : Int) (at' (-1) bk (i : Int)) B (by omega) (hbk _ hm) (ref34_Plan_J2 (ref34_Plan_L5 (ref34_Plan_J1 ls) rows ls bk fuel) (i : Int) (at' (-1) bk (i : Int)) p q) (hlen _ hm2) (at' [] ls (i : Int)).length 0 big v (by omega) (by have := hlen _ hm2; simp only [big]; omega) hv
      rw [show ((0 : Nat) : Int) = 0 from rfl] at e
      rw [e]
      unfold ref34_Plan_J2
      rw [lapp_ok (by simp; omega), Option.bind_some, lapp_ok (by simp; omega), Option.bind_some, w64_id (by omega) (by omega), show (i : Int) + 1 = ((i + 1 : Nat) : Int) from by omega]
      exact plan_L5 rows ls bk hb hl hbk hlen r (i + 1) fuel _ _ B (by omega) (by omega) (by simp; omega) (by simp; omega)
    rw [ref34_Plan_L5]
    unfold ref34_Plan_B5
    rw [if_pos (by omega), at_idx (-1) (by omega) (by omega), Option.bind_some, at_idx [] (by omega) (by omega), Option.bind_some]
    split
    · exact key (-1) (by omega)
    · exact key 0 (by omega)
theorem plan_L7 (n : Int) (kx : Int → Option PlanR) (B : Int) (l : List Int) (hl : l.length ≤ 1000) (hr : ∀ x ∈ l, 0 ≤ x ∧ x < n) : ∀ (r i fuel : Nat), i + r = l.length → r < fuel → ref34_Plan_L7 kx n l B fuel (i : Int) = kx B
  | 0, i, fuel, hi, hf => by
    obtain ⟨fuel, rfl⟩ : ∃ n, fuel = n + 1 := ⟨fuel - 1, by omega⟩
    rw [ref34_Plan_L7]
    unfold ref34_Plan_B7
    rw [if_neg (by omega)]
  | r + 1, i, fuel, hi, hf => by
    obtain ⟨fuel, rfl⟩ : ∃ n, fuel = n + 1 := ⟨fuel - 1, by omega⟩
    have hm := hr _ (at_mem 0 (l := l) (b := (i : Int)) (by omega) (by omega))
    rw [ref34_Plan_L7]
    unfold ref34_Plan_B7
    rw [if_pos (by omega), at_idx 0 (by omega) (by omega), Option.bind_some, if_neg (by omega), Option.bind_some, Option.bind_some, decide_eq_false (by omega), if_neg (by simp), w64_id (by omega) (by omega), show (i : Int) + 1 = ((i + 1 : Nat) : Int) from by omega]
    exact plan_L7 n kx B l hl hr r (i + 1) fuel (by omega) (by omega)
theorem plan_ok {h : Hsh} (hk : HshOK h) {n : Nat} (hn : 1 ≤ n ∧ n ≤ 1024) {l : List Int} (h0 : l ≠ []) (hl : l.length ≤ h.1) (hr : ∀ x ∈ l, 0 ≤ x ∧ x < n) :
    ∃ b e bk, ref34_Plan h n l = some (b, e) ∧ ref19_Assign h l = some (bk, e) ∧ (e = 0 ∨ e = 15) ∧ (e = 0 → b.1 = lay h n) ∧ (e = 0 ↔ Placeable (l.map (homeL h)) (nofix h) 0) := by
  have hb2 := hk.2.1
  have hlen : l.length ≠ 0 := fun h => h0 (List.eq_nil_of_length_eq_zero h)
  have hit : ∀ x ∈ l, ItemOK x := fun x hx => by have := hr x hx; unfold ItemOK; omega
  have h7 := plan_L7 (n : Int) (ref34_Plan_J6 (n : Int) l h.2) h.1 l (by omega) hr l.length 0 big (by omega) (by simp only [big]; omega)
  rw [show ((0 : Nat) : Int) = 0 from rfl] at h7
  have hstart : ref34_Plan h n l = ref34_Plan_J6 (n : Int) l h.2 h.1 := by
    unfold ref34_Plan
    rw [if_neg (by omega), h7]
  unfold ref34_Plan_J6 at hstart
  rw [show (h.1, h.2) = h from rfl, (layout_yes hk hn.2).2, Option.bind_some, if_neg (by simp)] at hstart
  rcases assign_ok h l (by omega) with ⟨a, _⟩ | ⟨_, ⟨n, hn, a⟩, _⟩ | ⟨_, _, a, _⟩ | ⟨_, _, _, a1, _, a2⟩ | ⟨_, _, _, a1, bk, fx, _, a2, a3, a4⟩
  · exact absurd hk a
  · exact absurd (hit n hn) a
  · omega
  · rw [a2, Option.bind_some, if_pos (by simp)] at hstart
    exact ⟨_, _, _, hstart, a2, .inr rfl, fun h => by omega, ⟨fun h => by omega, fun h => absurd h a1⟩⟩
  · rw [a2, Option.bind_some, if_neg (by simp)] at hstart
    have hA := asg_of (homesOK hk l) a3 a4
    have hB := hA.ok.1
    obtain ⟨ps, is, e⟩ := plan_L5 l (lay h n) bk (by rw [lay_len]; omega) (by rw [lay_len]; omega) (fun v hv => by have := (hA.ok.2 v hv).2; simpa using this) (fun x hx => by
      unfold lay at hx
      obtain ⟨b, _, rfl⟩ := List.mem_map.1 hx
      have := layB_len h n b
      omega) h.1.toNat 0 big [] [] h.1 (by rw [lay_len]; omega) (by simp only [big]; omega) rfl rfl
    rw [show ((0 : Nat) : Int) = 0 from rfl] at e
    rw [e] at hstart
    exact ⟨_, _, _, hstart, a2, .inl rfl, fun _ => rfl, ⟨fun _ => a1, fun _ => rfl⟩⟩
theorem combos_0 (l : List Int) : combos 0 l = [[]] := by cases l <;> rfl
theorem fails_L3 {h : Hsh} (hk : HshOK h) (hB : 2 ≤ h.1) {n : Nat} (hn : n ≤ 1000) (rec : Int → Int → Int → Int → Int → Option Bool) (at0 : Int) {a : Nat} (ha : a < n) : ∀ (r b fuel c t : Nat), b + r = n → r < fuel → c ≤ t → t + (combos 1 (rg b r)).length ≤ 1000000 →
    law43_BoundsFails_L3 rec (a : Int) (n : Int) at0 h.1 h.2 fuel (c : Int) (t : Int) (b : Int) = rec ((c + ((combos 1 (rg b r)).map ((a : Int) :: ·)).countP (bad h) : Nat) : Int) ((t + (combos 1 (rg b r)).length : Nat) : Int) ((a + 1 : Nat) : Int) at0 h.1
  | 0, b, fuel, c, t, hb, hf, hc, ht => by
    obtain ⟨fuel, rfl⟩ : ∃ n, fuel = n + 1 := ⟨fuel - 1, by omega⟩
    rw [law43_BoundsFails_L3]
    unfold law43_BoundsFails_B3
    rw [if_neg (by omega), w64_id (by omega) (by omega)]
    simp [rg, combos]
  | r + 1, b, fuel, c, t, hb, hf, hc, ht => by
    obtain ⟨fuel, rfl⟩ : ∃ n, fuel = n + 1 := ⟨fuel - 1, by omega⟩
    have hcb : combos 1 (rg b (r + 1)) = [(b : Int)] :: combos 1 (rg (b + 1) r) := by rw [rg, combos, combos_0]; rfl
    rw [hcb] at ht ⊢
    simp only [List.length_cons, List.map_cons] at ht ⊢
    obtain ⟨p, e, bk, e1, e2, e3, _, e5⟩ := plan_ok hk (n := n) (by omega) (l := [(a : Int), (b : Int)]) (by simp) (by simp; omega) (fun x hx => by
      rcases List.mem_cons.1 hx with rfl | hx
      · omega
      · rw [List.mem_singleton.1 hx]; omega)
    have hbad : bad h [(a : Int), (b : Int)] = true ↔ ¬ e = 0 := by
      rw [bad_iff, e5]
      constructor
      · rintro (h1 | h1)
        · simp at h1; omega
        · exact h1
      · exact fun h1 => .inr h1
    have hJ : ∀ g : Nat, law43_BoundsFails_J2 (law43_BoundsFails_L3 rec (a : Int) (n : Int) at0 h.1 h.2 fuel) (w64 ((t : Int) + 1)) (b : Int) (a : Int) h.1 h.2 (g : Int) = law43_BoundsFails_L3 rec (a : Int) (n : Int) at0 h.1 h.2 fuel (g : Int) ((t + 1 : Nat) : Int) ((b + 1 : Nat) : Int) := fun g => by
      unfold law43_BoundsFails_J2
      rw [show (h.1, h.2) = h from rfl, e2, Option.bind_some, if_neg (by rcases e3 with rfl | rfl <;> simp), w64_id (x := (t : Int) + 1) (by omega) (by omega), w64_id (by omega) (by omega)]
      rfl
    rw [law43_BoundsFails_L3]
    unfold law43_BoundsFails_B3
    rw [if_pos (by omega), show (h.1, h.2) = h from rfl, e1, Option.bind_some, List.countP_cons]
    by_cases he : e = 0
    · rw [if_neg (by simp [he]), hJ c, fails_L3 hk hB hn rec at0 ha r (b + 1) fuel c (t + 1) (by omega) (by omega) (by omega) (by omega), if_neg (fun h => hbad.1 h he)]
      congr 2 <;> omega
    · rw [if_pos he, w64_id (x := (c : Int) + 1) (by omega) (by omega), show (c : Int) + 1 = ((c + 1 : Nat) : Int) from by omega, hJ (c + 1), fails_L3 hk hB hn rec at0 ha r (b + 1) fuel (c + 1) (t + 1) (by omega) (by omega) (by omega) (by omega), if_pos (hbad.2 he)]
      congr 2 <;> omega
theorem fails_L4 {h : Hsh} (hk : HshOK h) (hB : 2 ≤ h.1) {n : Nat} (hn : n ≤ 1000) (kx : Int → Int → Int → Int → Option Bool) (at0 : Int) : ∀ (r a fuel c t : Nat), a + r = n → r < fuel → c ≤ t → t + (combos 2 (rg a r)).length ≤ 1000000 →
    law43_BoundsFails_L4 kx (n : Int) h.2 fuel (c : Int) (t : Int) (a : Int) at0 h.1 = kx ((c + (combos 2 (rg a r)).countP (bad h) : Nat) : Int) ((t + (combos 2 (rg a r)).length : Nat) : Int) at0 h.1
  | 0, a, fuel, c, t, ha, hf, hc, ht => by
    obtain ⟨fuel, rfl⟩ : ∃ n, fuel = n + 1 := ⟨fuel - 1, by omega⟩
    rw [law43_BoundsFails_L4]
    unfold law43_BoundsFails_B4
    rw [if_neg (by omega)]
    simp [rg, combos]
  | r + 1, a, fuel, c, t, ha, hf, hc, ht => by
    obtain ⟨fuel, rfl⟩ : ∃ n, fuel = n + 1 := ⟨fuel - 1, by omega⟩
    rw [rg, combos] at ht ⊢
    simp only [Nat.reduceAdd, List.length_append, List.length_map, List.countP_append] at ht ⊢
    have hle : ((combos 1 (rg (a + 1) r)).map ((a : Int) :: ·)).countP (bad h) ≤ (combos 1 (rg (a + 1) r)).length := by
      have := List.countP_le_length (p := bad h) (l := (combos 1 (rg (a + 1) r)).map ((a : Int) :: ·))
      rwa [List.length_map] at this
    rw [law43_BoundsFails_L4]
    unfold law43_BoundsFails_B4
    rw [if_pos (by omega), w64_id (by omega) (by omega), show (a : Int) + 1 = ((a + 1 : Nat) : Int) from by omega]
    rw [fails_L3 hk hB hn _ at0 (by omega) r (a + 1) big c t (by omega) (by simp only [big]; omega) hc (by omega)]
    rw [fails_L4 hk hB hn kx at0 r (a + 1) fuel _ _ (by omega) (by omega) (by omega) (by omega)]
    simp only [Nat.add_assoc]
theorem law_bfails (t : List Int) (ht : ∀ x ∈ t, 0 ≤ x ∧ x ≤ 255) : law43_BoundsFails t = some true := by
  unfold law43_BoundsFails
  rw [sane43, Option.bind_some, if_neg (by simp)]
  obtain ⟨d, e0, hd⟩ := dnew ht
  rw [e0, Option.bind_some]
  obtain ⟨h, d1, e1, hk, hB, hB6, hd1⟩ := dhash hd
  rw [e1, Option.bind_some]
  obtain ⟨v, d2, e2, v0, v5, hd2⟩ := dpick hd1 (n := 5) (by omega)
  rw [e2, Option.bind_some]
  dsimp only
  rw [w64_id (x := 2 + v) (by omega) (by omega)]
  obtain ⟨n, hn⟩ : ∃ n : Nat, 2 + v = n := ⟨(2 + v).toNat, by omega⟩
  rw [hn]
  have hlen : (combos 2 (rg 0 n)).length = ch n 2 := by rw [combos_len, rg_len]
  have hch : ch n 2 ≤ 15 := by
    have : n = 2 ∨ n = 3 ∨ n = 4 ∨ n = 5 ∨ n = 6 := by omega
    rcases this with rfl | rfl | rfl | rfl | rfl <;> decide
  have hsets : ∃ c, cuckoo_sets (n : Int) ((2 : Nat) : Int) = some c ∧ c ≤ 4096 := by
    have : n = 2 ∨ n = 3 ∨ n = 4 ∨ n = 5 ∨ n = 6 := by omega
    rcases this with rfl | rfl | rfl | rfl | rfl
    · exact ⟨1, by kernel_rfl, by omega⟩
    · exact ⟨3, by kernel_rfl, by omega⟩
    · exact ⟨6, by kernel_rfl, by omega⟩
    · exact ⟨10, by kernel_rfl, by omega⟩
    · exact ⟨15, by kernel_rfl, by omega⟩
  obtain ⟨c, hc1, hc2⟩ := hsets
  have hF := failures_ok hk (items := n) (size := 2) (by omega) (by omega) hc1 hc2 (by omega)
  unfold bounds_Failure
  rw [show (2 : Int) = ((2 : Nat) : Int) from rfl, hF, Option.bind_some]
  simp only [Option.bind_some]
  rw [if_neg (by omega)]
  have h4 := fails_L4 hk hB (n := n) (by omega) (law43_BoundsFails_J1 (((combos 2 (rg 0 n)).countP (bad h) : Nat) : Int) (((combos 2 (rg 0 n)).length : Nat) : Int) 0) d2.2 n 0 big 0 0 (by omega) (by simp only [big]; omega) (by omega) (by omega)
  rw [show ((0 : Nat) : Int) = 0 from rfl] at h4
  rw [h4]
  unfold law43_BoundsFails_J1
  simp
end Go.Proofs.Ytnfalgmfmiolbaa
end
