/- What the proof needs, gathered by wip/gen/shake.py. -/
import Derived.Calls
import Derived.Deep.Quiet
import Derived.Below
import Derived.Laws.AppendOwn
import Derived.WalkKit
import Derived.Laws.OwnMore
import Derived.Deep.Slices
import Derived.ChangeOld
import Derived.ArgAppend
import Derived.RangeFuncIn
import Derived.RangeFuncRecord
import Derived.RangeFuncLeaves
import Derived.Laws.MakeOwn
import Derived.IntWalk
import Derived.Laws.IdiomStrings
import Derived.Laws.Cover3
import Derived.Laws.CopyOwn
import Derived.MapKept
import Derived.RangeFuncNested
import Derived.Test.YtnfalgmfmiolbaaRows
import Derived.ProofKit
import Derived.OpenShut
import Derived.ShutString
import Derived.Test.YtnfalgmfmiolbaaBoundsBatchedQ4

section
namespace Go.Proofs.Ytnfalgmfmiolbaa
open Go.RowKit
set_option linter.unusedSimpArgs false
set_option linter.unusedVariables false
set_option synthInstance.maxSize 2000
set_option synthInstance.maxHeartbeats 400000
set_option maxHeartbeats 4000000 in
set_option maxRecDepth 100000 in
theorem ref19_Assign_c {Fs : List Hp} {G : Hp} {x0_0 : Int} {a0_1 : Option Addr} {k0_1 : Nat} {x0_1 : List (Int × Int)} {a1 : Option Addr} {k1 : Nat} {x1 : List Int} {r : ((List Int) × Int)} (hG : G ∈ Fs) (s0_1 : SlR (Rep.pair (Rep.int .i64) (Rep.int .i64)) G a0_1 k0_1 x0_1) (s1 : SlR (Rep.int .i64) G a1 k1 x1) (h : ref19_Assign (x0_0, x0_1) x1 = some r) : RetW Try.prog 11 #[.agg #[.int .i64 x0_0, .slice a0_1 x0_1.length k0_1], .slice a1 x1.length k1] Fs [] [] (fun v bo so G => ∃ a0 : Option Addr, ∃ k0 : Nat, v = .tuple #[.agg #[.slice a0 r.1.length k0], .int .i64 r.2] ∧ bo = [] ∧ so = [] ∧ SlR (Rep.int .i64) G a0 k0 r.1) := by
  unfold ref19_Assign at h
  try dsimp only at h
  refine RetW.of (vs := [_, _]) Try.func11 rfl Try.ntmps11 [(0, _), (1, _)] ⟨rfl, rfl, trivial⟩ rfl hG fun w0 S0 hS0 B0 => ?_
  refine Cov.seq ?_
  refine Cov.region rfl ?_
  refine Cov.box [_, _] .ro rfl rfl rfl (fun b1 hb1 => ?_)
  refine Cov.alloc .ro ty41 rfl (fun b2 hb2 => ?_)
  refine Cov.q .ro (.assign rfl) rfl ?_
  refine Cov.region_end ?_
  refine Cov.seq ?_
  refine Cov.region rfl ?_
  refine Cov.q .ro (.load_own_a 1 [_, _] rfl rfl ty28 rfl) rfl ?_
  refine Cov.q .ro (.move rfl) rfl ?_
  obtain ⟨u3, hu3, r4⟩ := bind_some h; clear h
  refine Cov.callW (b1 := []) (b2 := [_, _]) (s1 := []) [_, _] [] .ro rfl rfl Try.call24 rfl rfl (ref19_all_c (G := G) List.mem_cons_self s0_1 s1 hu3) rfl B0 (fun v6 bo so G7 e8 B9 h5 => ?_)
  obtain ⟨a12, k13, cs14, rfl, rfl, rfl, o15⟩ := h5
  refine Cov.same (bl' := [_, _]) (sl' := [_]) rfl rfl rfl ?_
  refine Cov.q .ro (.move rfl) rfl ?_
  refine Cov.q .ro (.extract rfl rfl) rfl ?_
  refine Cov.q .ro (.extract rfl rfl) rfl ?_
  refine Cov.q .ro (.assign rfl) rfl ?_
  refine Cov.q .ro (.assign rfl) rfl ?_
  refine Cov.region_end ?_
  refine Cov.seq ?_
  refine Cov.seq ?_
  refine Cov.region rfl ?_
  refine Cov.q .ro (.move rfl) rfl ?_
  refine Cov.q .ro (.neq rfl rfl) rfl ?_
  refine Cov.region_end ?_
  refine Cov.cond_dec rfl (fun c16 => ?_) (fun c16 => ?_)
  · have r17 := ifT r4 c16; clear r4
    refine Cov.seq ?_
    refine Cov.region rfl ?_
    refine Cov.q .ro (.build [_] [] ty41 pl41 rfl rfl) rfl ?_
    refine Cov.q .ro (.move rfl) rfl ?_
    refine Cov.store 0 [_] [_, _] .ro rfl rfl rfl ty41 rfl rfl rfl rfl ?_
    refine Cov.q .ro (.assign rfl) rfl ?_
    refine Cov.region_end ?_
    refine Cov.prune [(4, _), (5, _)] ⟨rfl, rfl, trivial⟩ ?_
    cases r17
    refine Cov.drop 0 1 _ [] rfl rfl ?_
    refine Cov.retWD 2 (c := ⟨11, none⟩) (.inr ⟨_, rfl⟩) [.cell 4 41, .tmp 5] [_, _] rfl Try.func11 Try.results11 ⟨RV.cell_a 0 [_] rfl rfl ty41 rfl, RV.tmp rfl, trivial⟩ (fun _ h => List.mem_cons_of_mem _ h) List.mem_cons_self B9 (by subst hS0; simp [blks]) (fun G' hg => ⟨none, 0, rfl, rfl, rfl, (SlR.mono hg (SlR.nil (Rp' := (Rep.int .i64))))⟩)
  · have r18 := ifF r4 c16; clear r4
    refine Cov.skip ?_
    refine Cov.seq ?_
    refine Cov.seq ?_
    refine Cov.region rfl ?_
    refine Cov.q .ro (.move rfl) rfl ?_
    refine Cov.q .ro (.len_sl rfl rfl sl35) rfl ?_
    refine Cov.q .ro (.fieldAddr 0 rfl fl28_0 ty3.sz rfl) rfl ?_
    refine Cov.q .ro (.load_own 1 rfl rfl ty3 rfl) rfl ?_
    refine Cov.q .ro (.gtr rfl rfl) rfl ?_
    refine Cov.region_end ?_
    refine Cov.prune [(2, _), (4, _), (6, _), (28, _)] ⟨rfl, rfl, rfl, rfl, trivial⟩ ?_
    refine Cov.cond_dec rfl (fun c19 => ?_) (fun c19 => ?_)
    · have r20 := ifT r18 c19; clear r18
      refine Cov.seq ?_
      refine Cov.region rfl ?_
      refine Cov.q .ro (.build [_] [] ty41 pl41 rfl rfl) rfl ?_
      refine Cov.store 0 [_] [_, _] .ro rfl rfl rfl ty41 rfl rfl rfl rfl ?_
      refine Cov.q .ro (.assign rfl) rfl ?_
      refine Cov.region_end ?_
      cases r20
      refine Cov.drop 0 1 _ [] rfl rfl ?_
      refine Cov.retWD 2 (c := ⟨11, none⟩) (.inr ⟨_, rfl⟩) [.cell 4 41, .tmp 5] [_, _] rfl Try.func11 Try.results11 ⟨RV.cell_a 0 [_] rfl rfl ty41 rfl, RV.tmp rfl, trivial⟩ (fun _ h => List.mem_cons_of_mem _ h) List.mem_cons_self B9 (by subst hS0; simp [blks]) (fun G' hg => ⟨none, 0, rfl, rfl, rfl, (SlR.mono hg (SlR.nil (Rp' := (Rep.int .i64))))⟩)
    · have r21 := ifF r18 c19; clear r18
      refine Cov.skip ?_
      refine Cov.seq ?_
      refine Cov.region rfl ?_
      refine Cov.q .ro (.move rfl) rfl ?_
      refine Cov.q .ro (.fieldAddr 0 rfl fl28_0 ty3.sz rfl) rfl ?_
      refine Cov.q .ro (.load_own 1 rfl rfl ty3 rfl) rfl ?_
      refine Cov.freezeR 0 rfl rfl o15 [] rfl B9 (fun G22 e23 B24 s25 => ?_)
      obtain ⟨u27, hu27, r28⟩ := bind_some r21; clear r21
      refine Cov.callS (b1 := []) (b2 := [_, _]) (s1 := []) [_, _, _] [] .ro rfl rfl Try.call25 rfl rfl (ref19_First_c (G := G22) List.mem_cons_self s25 hu27) rfl (fun v30 bo so h29 => ?_)
      obtain ⟨a32, k33, cs34, rfl, rfl, rfl, o35⟩ := h29
      refine Cov.same (bl' := [_, _]) (sl' := [_]) rfl rfl rfl ?_
      refine Cov.q .ro (.move rfl) rfl ?_
      refine Cov.q .ro (.extract rfl rfl) rfl ?_
      refine Cov.q .ro (.extract rfl rfl) rfl ?_
      refine Cov.q .ro (.assign rfl) rfl ?_
      refine Cov.q .ro (.assign rfl) rfl ?_
      refine Cov.region_end ?_
      refine Cov.seq ?_
      refine Cov.seq ?_
      refine Cov.region rfl ?_
      refine Cov.q .ro (.move rfl) rfl ?_
      refine Cov.q .ro (.not rfl) rfl ?_
      refine Cov.region_end ?_
      refine Cov.cond rfl (fun c36 => ?_) (fun c36 => ?_)
      · have r37 := ifT r28 c36; clear r28
        refine Cov.seq ?_
        refine Cov.region rfl ?_
        refine Cov.q .ro (.build [_] [] ty41 pl41 rfl rfl) rfl ?_
        refine Cov.store 0 [_] [_, _] .ro rfl rfl rfl ty41 rfl rfl rfl rfl ?_
        refine Cov.q .ro (.assign rfl) rfl ?_
        refine Cov.region_end ?_
        refine Cov.prune [(4, _), (5, _)] ⟨rfl, rfl, trivial⟩ ?_
        cases r37
        refine Cov.drop 0 1 _ [] rfl rfl ?_
        refine Cov.retWD 2 (c := ⟨11, none⟩) (.inr ⟨_, rfl⟩) [.cell 4 41, .tmp 5] [_, _] rfl Try.func11 Try.results11 ⟨RV.cell_a 0 [_] rfl rfl ty41 rfl, RV.tmp rfl, trivial⟩ (fun _ h => List.mem_cons_of_mem _ h) List.mem_cons_self B24 (by subst hS0; simp [blks]) (fun G' hg => ⟨none, 0, rfl, rfl, rfl, (SlR.mono hg (SlR.nil (Rp' := (Rep.int .i64))))⟩)
      · have r38 := ifBF r28 c36; clear r28
        refine Cov.skip ?_
        refine Cov.seq ?_
        refine Cov.region rfl ?_
        refine Cov.q .ro (.fieldAddr 0 rfl fl28_0 ty3.sz rfl) rfl ?_
        refine Cov.q .ro (.load_own 1 rfl rfl ty3 rfl) rfl ?_
        obtain ⟨u39, hu39, r40⟩ := bind_some r38; clear r38
        refine Cov.makeR (G := G22) (Q := (Rep.int .i64)) .ro sl35 ty3 rfl rfl rfl ((Rep.intI .i64 0) :) rfl rfl hu39 rfl rfl (fun b41 cs42 hb41 o43 => ?_)
        refine Cov.q .ro (.build [_] [(0, _)] ty41 pl41 rfl rfl) rfl ?_
        refine Cov.alloc .ro ty41 rfl (fun b45 hb45 => ?_)
        refine Cov.store 0 [_] [_, _, _] .ro rfl rfl rfl ty41 rfl rfl rfl rfl ?_
        refine Cov.region_end ?_
        refine Cov.prune [(4, _), (8, _), (10, _)] ⟨rfl, rfl, rfl, trivial⟩ ?_
        refine Cov.seq ?_
        refine Cov.seq ?_
        refine Cov.region rfl ?_
        refine Cov.q .ro (.fieldAddr 0 rfl fl41_0 ty35.sz rfl) rfl ?_
        refine Cov.q .ro (.load_own 0 rfl rfl ty35 rfl) rfl ?_
        refine Cov.q .ro (.len_sl rfl rfl sl35) rfl ?_
        refine Cov.q .ro (.move rfl) rfl ?_
        refine Cov.region_end ?_
        refine Cov.cutB (β := List Int × Option Addr × Nat × List Value × Int) (fun y => []) [(4, _), (8, _), (10, _)] (fun y => G22 :: Fs) (fun y => [(b45, .cells #[.slice y.2.1 y.1.length y.2.2.1] 41 (0, 0)), (b1, .cells #[.int .i64 y.2.2.2.2, .slice a0_1 x0_1.length k0_1] 28 (0, 0))]) [_] (fun y => [.s (.slice y.2.1 y.1.length y.2.2.1) 3 1 y.1.length y.2.2.2.1]) [_] (fun y => OL (Rep.int .i64) G22 y.2.2.2.1 y.1 ∧ (ref19_Assign_J3 u27.1) y.1 y.2.2.2.2 = some r) ⟨rfl, rfl, rfl, trivial⟩ [1] rfl [1] rfl ?_ ?_
        · intro y hI
          obtain ⟨v91, a92, k93, cs94, v97⟩ := y
          obtain ⟨o95, r99⟩ := hI
          try dsimp only at o95 r99
          refine Cov.prune [(4, _), (8, _), (10, _)] ⟨rfl, rfl, rfl, trivial⟩ ?_
          refine Cov.same (bl' := [(b45, .cells #[.slice a92 v91.length k93] 41 (0, 0)), (b1, .cells #[.int .i64 v97, .slice a0_1 x0_1.length k0_1] 28 (0, 0)), _]) (sl' := [.s (.slice a92 v91.length k93) 3 1 v91.length cs94, _]) (Fs' := G22 :: Fs) rfl rfl rfl ?_
          unfold ref19_Assign_J3 at r99
          try dsimp only at r99
          refine Cov.seq ?_
          refine Cov.seq ?_
          refine Cov.region rfl ?_
          refine Cov.q .ro (.move rfl) rfl ?_
          refine Cov.q .ro (.len_sl rfl rfl sl35) rfl ?_
          refine Cov.q .ro (.move rfl) rfl ?_
          refine Cov.region_end ?_
          refine Cov.cutB (β := List Int × Option Addr × Nat × List Value × Int) (fun y => []) [(4, _), (10, _)] (fun y => G22 :: Fs) (fun y => [(b45, .cells #[.slice y.2.1 y.1.length y.2.2.1] 41 (0, 0)), (b1, .cells #[.int .i64 y.2.2.2.2, .slice a0_1 x0_1.length k0_1] 28 (0, 0))]) [_] (fun y => [.s (.slice y.2.1 y.1.length y.2.2.1) 3 1 y.1.length y.2.2.2.1]) [_] (fun y => OL (Rep.int .i64) G22 y.2.2.2.1 y.1 ∧ ref19_Assign_J1 y.1 y.2.2.2.2 = some r) ⟨rfl, rfl, trivial⟩ [2] rfl [1] rfl ?_ ?_
          · intro y hI
            obtain ⟨v155, a156, k157, cs158, v161⟩ := y
            obtain ⟨o159, r163⟩ := hI
            try dsimp only at o159 r163
            refine Cov.prune [(4, _), (10, _)] ⟨rfl, rfl, trivial⟩ ?_
            refine Cov.same (bl' := [(b45, .cells #[.slice a156 v155.length k157] 41 (0, 0)), (b1, .cells #[.int .i64 v161, .slice a0_1 x0_1.length k0_1] 28 (0, 0)), _]) (sl' := [.s (.slice a156 v155.length k157) 3 1 v155.length cs158, _]) (Fs' := G22 :: Fs) rfl rfl rfl ?_
            unfold ref19_Assign_J1 at r163
            try dsimp only at r163
            refine Cov.seq ?_
            refine Cov.region rfl ?_
            refine Cov.q .ro (.load_own_a 0 [_] rfl rfl ty41 rfl) rfl ?_
            refine Cov.store 2 [_] [_, _, _] .ro rfl rfl rfl ty41 rfl rfl rfl rfl ?_
            refine Cov.q .ro (.assign rfl) rfl ?_
            refine Cov.region_end ?_
            refine Cov.freezeR 0 rfl rfl o159 [_] rfl B24 (fun G166 e167 B168 s169 => ?_)
            cases r163
            refine Cov.drop 0 1 _ [] rfl rfl ?_
            refine Cov.retWD 3 (c := ⟨11, none⟩) (.inr ⟨_, rfl⟩) [.cell 4 41, .tmp 5] [_, _] rfl Try.func11 Try.results11 ⟨RV.cell_a 2 [_] rfl rfl ty41 rfl, RV.tmp rfl, trivial⟩ (fun _ h => List.mem_cons_of_mem _ h) List.mem_cons_self B168 (by subst hS0; simp [blks]) (fun G' hg => ⟨a156, k157, rfl, rfl, rfl, (SlR.mono hg s169)⟩)
          · intro hb171
            refine Cov.block ?_
            refine Cov.loop2 (α := Nat × List Int × List Int × Option Addr × Nat × List Value) (fun y => [(57, .int .i64 (y.1 : Int))]) [(4, _), (10, _), (55, _), (56, _)] (fun y => []) (fun y => [(b45, .cells #[.slice y.2.2.2.1 y.2.2.1.length y.2.2.2.2.1] 41 (0, 0))]) [_, _] (fun y => [.s (.slice y.2.2.2.1 y.2.2.1.length y.2.2.2.2.1) 3 1 y.2.2.1.length y.2.2.2.2.2]) [_] (fun y => OL (Rep.int .i64) G22 y.2.2.2.2.2 y.2.2.1 ∧ List.drop y.1 u27.1 = y.2.1 ∧ ref19_Assign_L2 ref19_Assign_J1 v97 y.2.1 y.1 y.2.2.1 = some r) (fun y => y.2.1.length) (0, u27.1, v91, a92, k93, cs94) ⟨o95, rfl, r99⟩ ⟨rfl, rfl, rfl, rfl, rfl, trivial⟩ rfl rfl rfl (fun y hI hb204 => ?_)
            obtain ⟨i194, w195, v197, a198, k199, cs200⟩ := y
            obtain ⟨o201, g196, r203⟩ := hI
            try dsimp only at o201 g196 r203
            refine Cov.prune [(57, .int .i64 (i194 : Int)), (4, _), (10, _), (55, _), (56, _)] ⟨rfl, rfl, rfl, rfl, rfl, trivial⟩ ?_
            refine Cov.same (bl' := [(b45, .cells #[.slice a198 v197.length k199] 41 (0, 0)), _, _]) (sl' := [.s (.slice a198 v197.length k199) 3 1 v197.length cs200, _]) (Fs' := G22 :: Fs) rfl rfl rfl ?_
            cases w195 with
            | nil =>
              rw [ref19_Assign_L2] at r203; try dsimp only at r203
              refine Cov.seq ?_
              refine Cov.region rfl ?_
              refine Cov.q .ro (.lss rfl rfl) rfl ?_
              refine Cov.region_end ?_
              refine Cov.seq ?_
              refine Cov.cond_dec rfl (fun c => absurd c (drop_nil g196)) (fun _ => ?_)
              refine Cov.exit rfl ?_
              refine Cov.prune _ ?_ (Cov.same rfl rfl rfl (hb171 (v197, a198, k199, cs200, v97) ⟨o201, r203⟩))
              exact ⟨rfl, rfl, trivial⟩
            | cons x210 xs211 =>
              have r209 : ref19_Assign_B2 ref19_Assign_J1 v97 (ref19_Assign_L2 ref19_Assign_J1 v97 xs211 (i194 + 1)) x210 i194 v197 = some r := r203; clear r203; unfold ref19_Assign_B2 at r209; try dsimp only at r209
              refine Cov.seq ?_
              refine Cov.region rfl ?_
              refine Cov.q .ro (.lss rfl rfl) rfl ?_
              refine Cov.region_end ?_
              refine Cov.seq ?_
              refine Cov.cond_dec rfl (fun _ => ?_) (fun c => absurd (drop_lt g196) c)
              refine Cov.skip ?_
              refine Cov.seq ?_
              refine Cov.block ?_
              refine Cov.seq ?_
              refine Cov.region rfl ?_
              refine Cov.q .ro (.move rfl) rfl ?_
              obtain ⟨c212, p213, h214⟩ := OL.get o35 (drop_idx g196)
              obtain rfl := h214
              refine Cov.q .ro (.idxO 1 rfl rfl rfl (drop_idx g196) sl35 ty3.sz) rfl ?_
              refine Cov.q .ro (.loadO 1 0 rfl (drop_idx g196) p213 rfl (.inl ⟨rfl, rfl⟩) ty3 rfl) rfl ?_
              refine Cov.q .ro (.assign rfl) rfl ?_
              refine Cov.q .ro (.assign rfl) rfl ?_
              refine Cov.region_end ?_
              refine Cov.region rfl ?_
              refine Cov.q .ro (.fieldAddr 0 rfl fl41_0 ty35.sz rfl) rfl ?_
              refine Cov.q .ro (.load_own 0 rfl rfl ty35 rfl) rfl ?_
              refine Cov.q .ro (.move rfl) rfl ?_
              refine Cov.q .ro (.move rfl) rfl ?_
              obtain ⟨u215, hu215, r216⟩ := bind_some r209; clear r209
              obtain ⟨c217, p218, h219⟩ := OL.get o201 hu215
              obtain rfl := h219
              refine Cov.q .ro (.idxO 0 rfl rfl rfl hu215 sl35 ty3.sz) rfl ?_
              obtain ⟨u220, hu220, r221⟩ := bind_some r216; clear r216
              refine Cov.storeR 0 0 (Q := (Rep.int .i64)) .ro rfl rfl o201 hu220 rfl (.inl ⟨rfl, rfl⟩) rfl ty3 p218 ((Rep.intI .i64 (i194 : Int)) :) rfl rfl (fun cs222 hlcs222 o223 => ?_)
              refine Cov.reval 63 hlcs222 rfl ?_
              refine Cov.recell 0 [.slice a198 u220.length k199] rfl (by rw [hlcs222]) [_, _, _] rfl ?_
              refine Cov.region_end ?_
              refine Cov.inBlock ?_
              refine Cov.region rfl ?_
              refine Cov.q .ro (.addw rfl rfl) rfl ?_
              refine Cov.q .ro (.move rfl) rfl ?_
              refine Cov.region_end ?_
              refine Cov.prune _ ?_ (Cov.same rfl rfl rfl (hb204 ((i194 + 1), xs211, u220, a198, k199, cs222) ⟨o223, (drop_succ g196), r221⟩ (Nat.lt_succ_self _)))
              exact ⟨(congrArg (fun z => some (Value.int .i64 z)) (idx_wrap (OL.len' o35) g196)), rfl, rfl, rfl, rfl, trivial⟩
        · intro hb225
          refine Cov.block ?_
          refine Cov.loop2 (α := Nat × List Int × List Int × Option Addr × Nat × List Value) (fun y => [(47, .int .i64 (y.1 : Int))]) [(4, _), (8, _), (10, _), (46, _)] (fun y => []) (fun y => [(b45, .cells #[.slice y.2.2.2.1 y.2.2.1.length y.2.2.2.2.1] 41 (0, 0))]) [_, _] (fun y => [.s (.slice y.2.2.2.1 y.2.2.1.length y.2.2.2.2.1) 3 1 y.2.2.1.length y.2.2.2.2.2]) [_] (fun y => OL (Rep.int .i64) G22 y.2.2.2.2.2 y.2.2.1 ∧ List.drop y.1 u39 = y.2.1 ∧ ref19_Assign_L4 (ref19_Assign_J3 u27.1) x0_0 y.2.1 y.1 y.2.2.1 = some r) (fun y => y.2.1.length) (0, u39, u39, (some ⟨b41, 0, none⟩), u39.length, cs42) ⟨o43, rfl, r40⟩ ⟨rfl, rfl, rfl, rfl, rfl, trivial⟩ rfl rfl rfl (fun y hI hb253 => ?_)
          obtain ⟨i243, w244, v246, a247, k248, cs249⟩ := y
          obtain ⟨o250, g245, r252⟩ := hI
          try dsimp only at o250 g245 r252
          refine Cov.prune [(47, .int .i64 (i243 : Int)), (4, _), (8, _), (10, _), (46, _)] ⟨rfl, rfl, rfl, rfl, rfl, trivial⟩ ?_
          refine Cov.same (bl' := [(b45, .cells #[.slice a247 v246.length k248] 41 (0, 0)), _, _]) (sl' := [.s (.slice a247 v246.length k248) 3 1 v246.length cs249, _]) (Fs' := G22 :: Fs) rfl rfl rfl ?_
          cases w244 with
          | nil =>
            rw [ref19_Assign_L4] at r252; try dsimp only at r252
            refine Cov.seq ?_
            refine Cov.region rfl ?_
            refine Cov.q .ro (.lss rfl rfl) rfl ?_
            refine Cov.region_end ?_
            refine Cov.seq ?_
            refine Cov.cond_dec rfl (fun c => absurd c (drop_nil g245)) (fun _ => ?_)
            refine Cov.exit rfl ?_
            refine Cov.pull 1 rfl [_, _, _] rfl ?_
            refine Cov.pull 2 rfl [_, _, _] rfl ?_
            refine Cov.pull 2 rfl [_, _, _] rfl ?_
            refine Cov.prune _ ?_ (Cov.same rfl rfl rfl (hb225 (v246, a247, k248, cs249, x0_0) ⟨o250, r252⟩))
            exact ⟨rfl, rfl, rfl, trivial⟩
          | cons x259 xs260 =>
            have r258 : ref19_Assign_B4 (ref19_Assign_J3 u27.1) x0_0 (ref19_Assign_L4 (ref19_Assign_J3 u27.1) x0_0 xs260 (i243 + 1)) x259 i243 v246 = some r := r252; clear r252; unfold ref19_Assign_B4 at r258; try dsimp only at r258
            refine Cov.seq ?_
            refine Cov.region rfl ?_
            refine Cov.q .ro (.lss rfl rfl) rfl ?_
            refine Cov.region_end ?_
            refine Cov.seq ?_
            refine Cov.cond_dec rfl (fun _ => ?_) (fun c => absurd (drop_lt g245) c)
            refine Cov.skip ?_
            refine Cov.seq ?_
            refine Cov.block ?_
            refine Cov.seq ?_
            refine Cov.region rfl ?_
            refine Cov.q .ro (.move rfl) rfl ?_
            refine Cov.q .ro (.assign rfl) rfl ?_
            refine Cov.region_end ?_
            refine Cov.region rfl ?_
            refine Cov.q .ro (.fieldAddr 0 rfl fl41_0 ty35.sz rfl) rfl ?_
            refine Cov.q .ro (.load_own 0 rfl rfl ty35 rfl) rfl ?_
            refine Cov.q .ro (.move rfl) rfl ?_
            obtain ⟨u261, hu261, r262⟩ := bind_some r258; clear r258
            obtain ⟨c263, p264, h265⟩ := OL.get o250 hu261
            obtain rfl := h265
            refine Cov.q .ro (.idxO 0 rfl rfl rfl hu261 sl35 ty3.sz) rfl ?_
            obtain ⟨u266, hu266, r267⟩ := bind_some r262; clear r262
            refine Cov.storeR 0 0 (Q := (Rep.int .i64)) .ro rfl rfl o250 hu266 rfl (.inl ⟨rfl, rfl⟩) rfl ty3 p264 ((Rep.intI .i64 (-1)) :) rfl rfl (fun cs268 hlcs268 o269 => ?_)
            refine Cov.reval 51 hlcs268 rfl ?_
            refine Cov.recell 0 [.slice a247 u266.length k248] rfl (by rw [hlcs268]) [_, _, _] rfl ?_
            refine Cov.region_end ?_
            refine Cov.inBlock ?_
            refine Cov.region rfl ?_
            refine Cov.q .ro (.addw rfl rfl) rfl ?_
            refine Cov.q .ro (.move rfl) rfl ?_
            refine Cov.region_end ?_
            refine Cov.prune _ ?_ (Cov.same rfl rfl rfl (hb253 ((i243 + 1), xs260, u266, a247, k248, cs268) ⟨o269, (drop_succ g245), r267⟩ (Nat.lt_succ_self _)))
            exact ⟨(congrArg (fun z => some (Value.int .i64 z)) (idx_wrap (OL.len' o43) g245)), rfl, rfl, rfl, rfl, trivial⟩
set_option maxHeartbeats 4000000 in
set_option maxRecDepth 100000 in
theorem ref19_has_c {Fs : List Hp} {G : Hp} {a0 : Option Addr} {k0 : Nat} {x0 : List Int} {x1 : Int} {r : Bool} (hG : G ∈ Fs) (s0 : SlR (Rep.int .i64) G a0 k0 x0) (h : ref19_has x0 x1 = some r) : RetS Try.prog 41 #[.slice a0 x0.length k0, .int .i64 x1] Fs [] [] (fun v bo so => v = .bool r ∧ bo = [] ∧ so = []) := by
  unfold ref19_has at h
  try dsimp only at h
  refine RetS.of (vs := [_, _]) Try.func41 rfl Try.ntmps41 [(0, _), (1, _)] ⟨rfl, rfl, trivial⟩ rfl hG fun w0 S0 hS0 B0 => ?_
  refine Cov.seq ?_
  refine Cov.region rfl ?_
  refine Cov.q .ro (.assign rfl) rfl ?_
  refine Cov.region_end ?_
  refine Cov.seq ?_
  refine Cov.seq ?_
  refine Cov.region rfl ?_
  refine Cov.q .ro (.move rfl) rfl ?_
  refine Cov.q .ro (.len_sl rfl rfl sl35) rfl ?_
  refine Cov.q .ro (.move rfl) rfl ?_
  refine Cov.region_end ?_
  refine Cov.block ?_
  refine Cov.loop2 (α := Nat × List Int) (fun y => [(9, .int .i64 (y.1 : Int))]) [(1, _), (7, _), (8, _)] (fun y => []) (fun y => []) [] (fun y => []) [] (fun y => List.drop y.1 x0 = y.2 ∧ ref19_has_L1 x1 y.2  = some r) (fun y => y.2.length) (0, x0) ⟨rfl, h⟩ ⟨rfl, rfl, rfl, rfl, trivial⟩ rfl rfl rfl (fun y hI hb19 => ?_)
  obtain ⟨i15, w16⟩ := y
  obtain ⟨g17, r18⟩ := hI
  try dsimp only at g17 r18
  refine Cov.prune [(9, .int .i64 (i15 : Int)), (1, _), (7, _), (8, _)] ⟨rfl, rfl, rfl, rfl, trivial⟩ ?_
  refine Cov.same (bl' := []) (sl' := []) (Fs' := G :: Fs) rfl rfl rfl ?_
  cases w16 with
  | nil =>
    rw [ref19_has_L1] at r18; try dsimp only at r18
    refine Cov.seq ?_
    refine Cov.region rfl ?_
    refine Cov.q .ro (.lss rfl rfl) rfl ?_
    refine Cov.region_end ?_
    refine Cov.seq ?_
    refine Cov.cond_dec rfl (fun c => absurd c (drop_nil g17)) (fun _ => ?_)
    refine Cov.exit rfl ?_
    refine Cov.seq ?_
    refine Cov.region rfl ?_
    refine Cov.q .ro (.assign rfl) rfl ?_
    refine Cov.region_end ?_
    cases r18
    refine Cov.retS (c := ⟨41, none⟩) (.inr ⟨_, rfl⟩) [.tmp 4] [_] rfl Try.func41 Try.results41 ⟨RV.tmp rfl, trivial⟩ (fun _ h => List.mem_cons_of_mem _ h) ⟨rfl, rfl, rfl⟩
  | cons x24 xs25 =>
    have r23 : ref19_has_B1 x1 (ref19_has_L1 x1 xs25) x24  = some r := r18; clear r18; unfold ref19_has_B1 at r23; try dsimp only at r23
    refine Cov.seq ?_
    refine Cov.region rfl ?_
    refine Cov.q .ro (.lss rfl rfl) rfl ?_
    refine Cov.region_end ?_
    refine Cov.seq ?_
    refine Cov.cond_dec rfl (fun _ => ?_) (fun c => absurd (drop_lt g17) c)
    refine Cov.skip ?_
    refine Cov.seq ?_
    refine Cov.block ?_
    refine Cov.seq ?_
    refine Cov.region rfl ?_
    obtain ⟨c26, p27, h28⟩ := SlR.get s0 (drop_idx g17)
    obtain rfl := h28
    refine Cov.q .ro (.idxR s0 rfl rfl (drop_idx g17) sl35 ty3.sz) rfl ?_
    refine Cov.q .ro (.load_rp p27 List.mem_cons_self rfl ty3 rfl) rfl ?_
    refine Cov.q .ro (.assign rfl) rfl ?_
    refine Cov.region_end ?_
    refine Cov.seq ?_
    refine Cov.region rfl ?_
    refine Cov.q .ro (.move rfl) rfl ?_
    refine Cov.q .ro (.move rfl) rfl ?_
    refine Cov.q .ro (.eql rfl rfl) rfl ?_
    refine Cov.region_end ?_
    refine Cov.cond_dec rfl (fun c29 => ?_) (fun c29 => ?_)
    · have r30 := ifT r23 c29; clear r23
      refine Cov.seq ?_
      refine Cov.region rfl ?_
      refine Cov.q .ro (.assign rfl) rfl ?_
      refine Cov.region_end ?_
      cases r30
      refine Cov.retS (c := ⟨41, none⟩) (.inr ⟨_, rfl⟩) [.tmp 4] [_] rfl Try.func41 Try.results41 ⟨RV.tmp rfl, trivial⟩ (fun _ h => List.mem_cons_of_mem _ h) ⟨rfl, rfl, rfl⟩
    · have r31 := ifF r23 c29; clear r23
      refine Cov.skip ?_
      refine Cov.inBlock ?_
      refine Cov.region rfl ?_
      refine Cov.q .ro (.addw rfl rfl) rfl ?_
      refine Cov.q .ro (.move rfl) rfl ?_
      refine Cov.region_end ?_
      refine Cov.prune _ ?_ (Cov.same rfl rfl rfl (hb19 ((i15 + 1), xs25) ⟨(drop_succ g17), r31⟩ (Nat.lt_succ_self _)))
      exact ⟨(congrArg (fun z => some (Value.int .i64 z)) (idx_wrap (SlR.len s0) g17)), rfl, rfl, rfl, trivial⟩
set_option maxHeartbeats 4000000 in
set_option maxRecDepth 100000 in
theorem ref19_Layout_c {Fs : List Hp} {G : Hp} {x0_0 : Int} {a0_1 : Option Addr} {k0_1 : Nat} {x0_1 : List (Int × Int)} {x1 : Int} {r : ((List (List Int)) × Int)} (hG : G ∈ Fs) (s0_1 : SlR (Rep.pair (Rep.int .i64) (Rep.int .i64)) G a0_1 k0_1 x0_1) (h : ref19_Layout (x0_0, x0_1) x1 = some r) : RetW Try.prog 23 #[.agg #[.int .i64 x0_0, .slice a0_1 x0_1.length k0_1], .int .i64 x1] Fs [] [] (fun v bo so G => ∃ a0 : Option Addr, ∃ k0 : Nat, v = .tuple #[.slice a0 r.1.length k0, .int .i64 r.2] ∧ bo = [] ∧ so = [] ∧ SlR (Rep.sl (Rep.int .i64)) G a0 k0 r.1) := by
  unfold ref19_Layout at h
  try dsimp only at h
  refine RetW.of (vs := [_, _]) Try.func23 rfl Try.ntmps23 [(0, _), (1, _)] ⟨rfl, rfl, trivial⟩ rfl hG fun w0 S0 hS0 B0 => ?_
  refine Cov.seq ?_
  refine Cov.region rfl ?_
  refine Cov.box [_, _] .ro rfl rfl rfl (fun b1 hb1 => ?_)
  refine Cov.q .ro (.assign rfl) rfl ?_
  refine Cov.q .ro (.assign rfl) rfl ?_
  refine Cov.region_end ?_
  refine Cov.seq ?_
  refine Cov.seq ?_
  refine Cov.region rfl ?_
  refine Cov.q .ro (.load_own_a 0 [_, _] rfl rfl ty28 rfl) rfl ?_
  obtain ⟨u2, hu2, r3⟩ := bind_some h; clear h
  refine Cov.callS (b1 := []) (b2 := [_]) (s1 := []) [_] [] .ro rfl rfl Try.call39 rfl rfl (ref19_Check_c (G := G) List.mem_cons_self s0_1 hu2) rfl (fun v5 bo so h4 => ?_)
  obtain ⟨rfl, rfl, rfl⟩ := h4
  refine Cov.same (bl' := [_]) (sl' := []) rfl rfl rfl ?_
  refine Cov.q .ro (.assign rfl) rfl ?_
  refine Cov.region_end ?_
  refine Cov.seq ?_
  refine Cov.region rfl ?_
  refine Cov.q .ro (.move rfl) rfl ?_
  refine Cov.q .ro (.neq rfl rfl) rfl ?_
  refine Cov.region_end ?_
  refine Cov.cond_dec rfl (fun c6 => ?_) (fun c6 => ?_)
  · have r7 := ifT r3 c6; clear r3
    refine Cov.seq ?_
    refine Cov.region rfl ?_
    refine Cov.q .ro (.move rfl) rfl ?_
    refine Cov.q .ro (.assign rfl) rfl ?_
    refine Cov.q .ro (.assign rfl) rfl ?_
    refine Cov.region_end ?_
    cases r7
    refine Cov.drop 1 0 [] _ rfl rfl ?_
    refine Cov.retW (c := ⟨23, none⟩) (.inr ⟨_, rfl⟩) [.tmp 4, .tmp 5] [_, _] rfl Try.func23 Try.results23 ⟨RV.tmp rfl, RV.tmp rfl, trivial⟩ (fun _ h => List.mem_cons_of_mem _ h) List.mem_cons_self B0 (by subst hS0; simp [blks]) (fun G' hg => ⟨none, 0, rfl, rfl, rfl, (SlR.mono hg (SlR.nil (Rp' := (Rep.sl (Rep.int .i64)))))⟩)
  · have r8 := ifF r3 c6; clear r3
    refine Cov.skip ?_
    refine Cov.seq ?_
    refine Cov.seq ?_
    refine Cov.region rfl ?_
    refine Cov.q .ro (.move rfl) rfl ?_
    refine Cov.q .ro (.lss rfl rfl) rfl ?_
    refine Cov.q .ro (.move rfl) rfl ?_
    refine Cov.cutR 3 (β := Unit) (fun y => [(23, .bool (decide ((x1 < 0) ∨ (1024 < x1))))]) [(1, _), (2, _)] (fun y => G :: Fs) (fun y => []) [_] (fun y => []) [] (fun y => True) ⟨rfl, rfl, trivial⟩ [0] rfl [] rfl ?_ ?_
    · rintro _ _
      refine Cov.prune [(23, .bool (decide ((x1 < 0) ∨ (1024 < x1)))), (1, _), (2, _)] ⟨rfl, rfl, rfl, trivial⟩ ?_
      refine Cov.same (bl' := [_]) (sl' := []) (Fs' := G :: Fs) rfl rfl rfl ?_
      refine Cov.region_end ?_
      refine Cov.cond_dec rfl (fun c13 => ?_) (fun c13 => ?_)
      · have r14 := ifT r8 c13; clear r8
        refine Cov.seq ?_
        refine Cov.region rfl ?_
        refine Cov.q .ro (.assign rfl) rfl ?_
        refine Cov.q .ro (.assign rfl) rfl ?_
        refine Cov.region_end ?_
        cases r14
        refine Cov.drop 1 0 [] _ rfl rfl ?_
        refine Cov.retW (c := ⟨23, none⟩) (.inr ⟨_, rfl⟩) [.tmp 4, .tmp 5] [_, _] rfl Try.func23 Try.results23 ⟨RV.tmp rfl, RV.tmp rfl, trivial⟩ (fun _ h => List.mem_cons_of_mem _ h) List.mem_cons_self B0 (by subst hS0; simp [blks]) (fun G' hg => ⟨none, 0, rfl, rfl, rfl, (SlR.mono hg (SlR.nil (Rp' := (Rep.sl (Rep.int .i64)))))⟩)
      · have r15 := ifF r8 c13; clear r8
        refine Cov.skip ?_
        refine Cov.seq ?_
        refine Cov.region rfl ?_
        refine Cov.q .ro (.fieldAddr 0 rfl fl28_0 ty3.sz rfl) rfl ?_
        refine Cov.q .ro (.load_own 0 rfl rfl ty3 rfl) rfl ?_
        obtain ⟨u16, hu16, r17⟩ := bind_some r15; clear r15
        refine Cov.makeN (G := G) (Q := (Rep.int .i64)) 3 1 .ro sl34 ty35 rfl rfl hu16 rfl rfl (fun b18 es19 cs20 hb18 o21 => ?_)
        refine Cov.q .ro (.assign rfl) rfl ?_
        refine Cov.region_end ?_
        refine Cov.seq ?_
        refine Cov.seq ?_
        refine Cov.region rfl ?_
        refine Cov.q .ro (.assign rfl) rfl ?_
        refine Cov.region_end ?_
        refine Cov.block ?_
        refine Cov.pullS 1 rfl [_, _] rfl ?_
        refine Cov.pullS 1 rfl [_, _] rfl ?_
        refine Cov.loop2 (α := Nat × Hp × Int × List (List Int) × List NE × List Value × Int) (fun y => [(8, .int .i64 y.2.2.1), (7, .slice (some ⟨b18, 0, none⟩) y.2.2.2.1.length u16.length)]) [(1, _), (2, _)] (fun y => [y.2.1]) (fun y => [(b1, .cells #[.int .i64 y.2.2.2.2.2.2, .slice a0_1 x0_1.length k0_1] 28 (0, 0))]) [] (fun y => [.s (.slice (some ⟨b18, 0, none⟩) y.2.2.2.1.length u16.length) 35 1 y.2.2.2.1.length y.2.2.2.2.2.1, .g (packG 3 1 y.2.2.2.2.1)]) [] (fun y => HpLe G y.2.1 ∧ Bd w0 S0 Fs y.2.1 ∧ NL (Rep.int .i64) y.2.1 y.2.2.2.2.1 y.2.2.2.2.2.1 y.2.2.2.1 ∧ y.2.2.2.1.length = u16.length ∧ ref19_Layout_L2 x1 x0_1 y.1 y.2.2.1 y.2.2.2.1 y.2.2.2.2.2.2 = some r) (fun y => y.1) (big, G, 0, u16, es19, cs20, x0_0) ⟨(HpLe.refl _), B0, o21, rfl, r17⟩ ⟨rfl, rfl, rfl, rfl, trivial⟩ rfl rfl rfl (fun y hI hb266 => ?_)
        obtain ⟨n250, G252, v256, v257, es258, cs259, v264⟩ := y
        obtain ⟨e253, B254, o260, hl261, r265⟩ := hI
        try dsimp only at e253 B254 o260 hl261 r265
        refine Cov.prune [(8, .int .i64 v256), (7, .slice (some ⟨b18, 0, none⟩) v257.length u16.length), (1, _), (2, _)] ⟨rfl, rfl, rfl, rfl, trivial⟩ ?_
        refine Cov.same (bl' := [(b1, .cells #[.int .i64 v264, .slice a0_1 x0_1.length k0_1] 28 (0, 0))]) (sl' := [.s (.slice (some ⟨b18, 0, none⟩) v257.length u16.length) 35 1 v257.length cs259, .g (packG 3 1 es258)]) (Fs' := G252 :: Fs) rfl rfl rfl ?_
        obtain ⟨m270, rfl⟩ : ∃ m, n250 = m + 1 := by cases n250 with | zero => exact absurd (show (none : Option _) = some _ from r265) (by simp) | succ m => exact ⟨m, rfl⟩
        have r269 : ref19_Layout_B2 x1 x0_1 (ref19_Layout_L2 x1 x0_1 m270) v256 v257 v264 = some r := r265; clear r265; unfold ref19_Layout_B2 at r269; try dsimp only at r269
        refine Cov.seq ?_
        refine Cov.seq ?_
        refine Cov.region rfl ?_
        refine Cov.q .ro (.move rfl) rfl ?_
        refine Cov.q .ro (.move rfl) rfl ?_
        refine Cov.q .ro (.lss rfl rfl) rfl ?_
        refine Cov.region_end ?_
        refine Cov.cond_dec rfl (fun c271 => ?_) (fun c271 => ?_)
        · have r272 := ifT r269 c271; clear r269
          refine Cov.skip ?_
          refine Cov.seq ?_
          refine Cov.block ?_
          refine Cov.seq ?_
          refine Cov.region rfl ?_
          refine Cov.q .ro (.load_own_a 0 [_, _] rfl rfl ty28 rfl) rfl ?_
          refine Cov.q .ro (.move rfl) rfl ?_
          obtain ⟨u273, hu273, r274⟩ := bind_some r272; clear r272
          refine Cov.callS (b1 := []) (b2 := [_]) (s1 := []) [_, _] [] .ro rfl rfl Try.call40 rfl rfl (ref19_Homes_c (G := G252) List.mem_cons_self (SlR.mono e253 s0_1) hu273) rfl (fun v276 bo so h275 => ?_)
          obtain ⟨a278, k279, cs280, rfl, rfl, rfl, o281⟩ := h275
          refine Cov.same (bl' := [_]) (sl' := [_, _, _]) rfl rfl rfl ?_
          refine Cov.q .ro (.move rfl) rfl ?_
          refine Cov.q .ro (.extract rfl rfl) rfl ?_
          refine Cov.q .ro (.extract rfl rfl) rfl ?_
          refine Cov.q .ro (.assign rfl) rfl ?_
          refine Cov.q .ro (.assign rfl) rfl ?_
          refine Cov.region_end ?_
          refine Cov.seq ?_
          refine Cov.region rfl ?_
          refine Cov.q .ro (.move rfl) rfl ?_
          refine Cov.q .ro (.len_sl rfl rfl sl35) rfl ?_
          refine Cov.q .ro (.move rfl) rfl ?_
          refine Cov.region_end ?_
          refine Cov.block ?_
          refine Cov.freezeR 0 rfl rfl o281 [_, _] rfl B254 (fun G346 e347 B348 s349 => ?_)
          refine Cov.pullS 1 rfl [_, _] rfl ?_
          refine Cov.pullS 1 rfl [_, _] rfl ?_
          refine Cov.loop2 (α := Nat × List Int × Hp × List (List Int) × List NE × List Value) (fun y => [(7, .slice (some ⟨b18, 0, none⟩) y.2.2.2.1.length u16.length), (40, .int .i64 (y.1 : Int))]) [(8, _), (1, _), (2, _), (9, _), (38, _), (39, _)] (fun y => [y.2.2.1]) (fun y => []) [_] (fun y => [.s (.slice (some ⟨b18, 0, none⟩) y.2.2.2.1.length u16.length) 35 1 y.2.2.2.1.length y.2.2.2.2.2, .g (packG 3 1 y.2.2.2.2.1)]) [] (fun y => HpLe G346 y.2.2.1 ∧ Bd w0 S0 Fs y.2.2.1 ∧ NL (Rep.int .i64) y.2.2.1 y.2.2.2.2.1 y.2.2.2.2.2 y.2.2.2.1 ∧ y.2.2.2.1.length = u16.length ∧ List.drop y.1 u273.1 = y.2.1 ∧ ref19_Layout_L1 (ref19_Layout_L2 x1 x0_1 m270) v256 u273.1 v264 y.2.1 y.1 y.2.2.2.1 = some r) (fun y => y.2.1.length) (0, u273.1, G346, v257, es258, cs259) ⟨(HpLe.refl _), B348, (NL.mono e347 o260), hl261, rfl, r274⟩ ⟨rfl, rfl, rfl, rfl, rfl, rfl, rfl, rfl, trivial⟩ rfl rfl rfl (fun y hI hb426 => ?_)
          obtain ⟨i411, w412, G414, v418, es419, cs420⟩ := y
          obtain ⟨e415, B416, o421, hl422, g413, r425⟩ := hI
          try dsimp only at e415 B416 o421 hl422 g413 r425
          refine Cov.prune [(7, .slice (some ⟨b18, 0, none⟩) v418.length u16.length), (40, .int .i64 (i411 : Int)), (8, _), (1, _), (2, _), (9, _), (38, _), (39, _)] ⟨rfl, rfl, rfl, rfl, rfl, rfl, rfl, rfl, trivial⟩ ?_
          refine Cov.same (bl' := [_]) (sl' := [.s (.slice (some ⟨b18, 0, none⟩) v418.length u16.length) 35 1 v418.length cs420, .g (packG 3 1 es419)]) (Fs' := G414 :: Fs) rfl rfl rfl ?_
          cases w412 with
          | nil =>
            rw [ref19_Layout_L1] at r425; try dsimp only at r425
            refine Cov.seq ?_
            refine Cov.region rfl ?_
            refine Cov.q .ro (.lss rfl rfl) rfl ?_
            refine Cov.region_end ?_
            refine Cov.seq ?_
            refine Cov.cond_dec rfl (fun c => absurd c (drop_nil g413)) (fun _ => ?_)
            refine Cov.exit rfl ?_
            refine Cov.inBlock ?_
            refine Cov.region rfl ?_
            refine Cov.q .ro (.move rfl) rfl ?_
            refine Cov.q .ro (.addw rfl rfl) rfl ?_
            refine Cov.q .ro (.assign rfl) rfl ?_
            refine Cov.region_end ?_
            refine Cov.prune _ ?_ (Cov.same rfl rfl rfl (hb266 (m270, G414, (w64 (v256 + 1)), v418, es419, cs420, v264) ⟨(HpLe.trans (HpLe.trans e253 e347) e415), B416, o421, hl422, r425⟩ (Nat.lt_succ_self _)))
            exact ⟨rfl, rfl, rfl, rfl, trivial⟩
          | cons x434 xs435 =>
            have r433 : ref19_Layout_B1 (ref19_Layout_L2 x1 x0_1 m270) v256 u273.1 v264 (ref19_Layout_L1 (ref19_Layout_L2 x1 x0_1 m270) v256 u273.1 v264 xs435 (i411 + 1)) x434 i411 v418 = some r := r425; clear r425; unfold ref19_Layout_B1 at r433; try dsimp only at r433
            refine Cov.seq ?_
            refine Cov.region rfl ?_
            refine Cov.q .ro (.lss rfl rfl) rfl ?_
            refine Cov.region_end ?_
            refine Cov.seq ?_
            refine Cov.cond_dec rfl (fun _ => ?_) (fun c => absurd (drop_lt g413) c)
            refine Cov.skip ?_
            refine Cov.seq ?_
            refine Cov.block ?_
            refine Cov.seq ?_
            refine Cov.region rfl ?_
            refine Cov.q .ro (.move rfl) rfl ?_
            obtain ⟨c436, p437, h438⟩ := SlR.get (SlR.mono e415 s349) (drop_idx g413)
            obtain rfl := h438
            refine Cov.q .ro (.idxR (SlR.mono e415 s349) rfl rfl (drop_idx g413) sl35 ty3.sz) rfl ?_
            refine Cov.q .ro (.load_rp p437 List.mem_cons_self rfl ty3 rfl) rfl ?_
            refine Cov.q .ro (.assign rfl) rfl ?_
            refine Cov.q .ro (.assign rfl) rfl ?_
            refine Cov.region_end ?_
            refine Cov.seq ?_
            refine Cov.region rfl ?_
            refine Cov.q .ro (.move rfl) rfl ?_
            refine Cov.q .ro (.move rfl) rfl ?_
            obtain ⟨u439, hu439, r440⟩ := bind_some r433; clear r433
            obtain ⟨a441, k442, h443, s444⟩ := SlR.sub (SlR.mono e415 s349) hu439
            refine Cov.q .ro (.sliceR (SlR.mono e415 s349) rfl hu439 sl35 ty3.sz (fun _ => .no) (fun h => .yes' rfl h) h443) rfl ?_
            refine Cov.q .ro (.move rfl) rfl ?_
            obtain ⟨u445, hu445, r446⟩ := bind_some r440; clear r440
            refine Cov.callS (b1 := []) (b2 := [_]) (s1 := []) [_, _] [] .ro rfl rfl Try.call41 rfl rfl (ref19_has_c (G := G414) List.mem_cons_self s444 hu445) rfl (fun v448 bo so h447 => ?_)
            obtain ⟨rfl, rfl, rfl⟩ := h447
            refine Cov.same (bl' := [_]) (sl' := [_, _]) rfl rfl rfl ?_
            refine Cov.q .ro (.not rfl) rfl ?_
            refine Cov.region_end ?_
            refine Cov.cond rfl (fun c449 => ?_) (fun c449 => ?_)
            · have r450 := ifT r446 c449; clear r446
              refine Cov.region rfl ?_
              refine Cov.q .ro (.move rfl) rfl ?_
              refine Cov.q .ro (.move rfl) rfl ?_
              refine Cov.q .ro (.move rfl) rfl ?_
              refine Cov.q .ro (.move rfl) rfl ?_
              obtain ⟨u451, hu451, r452⟩ := bind_some r450; clear r450
              obtain ⟨e453, he454, hn455, ho456, p457⟩ := NL.get o421 hu451
              refine Cov.q .ro (.idxO 0 rfl rfl rfl hu451 sl34 ty35.sz) rfl ?_
              refine Cov.q .ro (.loadO 0 0 rfl hu451 p457 rfl (.inl ⟨rfl, rfl⟩) ty35 rfl) rfl ?_
              refine Cov.q .ro (.move rfl) rfl ?_
              refine Cov.lit [_] [(0, _)] .ro sl35 ty3 rfl rfl rfl rfl rfl rfl (fun b458 hb458 => ?_)
              have o459 : OL (Rep.int .i64) G414 [.int .i64 v256] ([v256] : List Int) := ((OL.cons rfl (Rep.intI .i64 v256) (OL.nil (Rp' := (Rep.int .i64)))) :)
              refine Cov.reval 58 (n' := ([v256] : List Int).length) rfl rfl ?_
              refine Cov.freezeR 0 rfl rfl o459 [_, _] rfl B416 (fun G461 e462 B463 s464 => ?_)
              refine Cov.takeN 1 rfl he454 hn455 ?_
              obtain ⟨u471, hu471, r472⟩ := bind_some r452; clear r452
              refine Cov.appR (Q := (Rep.int .i64)) 0 .ro sl35 ty3 rfl rfl rfl rfl rfl (OL.mono e462 ho456) rfl rfl s464 rfl List.mem_cons_self hu471 rfl (fun a467 k468 cs469 o470 => ?_)
              obtain ⟨u474, hu474, r475⟩ := bind_some r472; clear r472
              obtain ⟨e476, he477, hn478, ho479, p480⟩ := NL.get (NL.mono e462 o421) hu474
              refine Cov.q .ro (.idxO 1 rfl rfl rfl hu474 sl34 ty35.sz) rfl ?_
              obtain ⟨u481, hu481, r482⟩ := bind_some r475; clear r475
              refine Cov.storeN 0 1 (Q := (Rep.int .i64)) .ro rfl rfl rfl (NL.mono e462 o421) he454 o470 hu481 rfl (.inl ⟨rfl, rfl⟩) rfl ty35 rfl (fun es483 cs484 hlcs484 o485 => ?_)
              refine Cov.reval 7 hlcs484 rfl ?_
              refine Cov.reval 51 hlcs484 rfl ?_
              refine Cov.reval 53 hlcs484 rfl ?_
              refine Cov.region_end ?_
              refine Cov.prune [(7, _), (40, _), (8, _), (1, _), (2, _), (9, _), (38, _), (39, _)] ⟨rfl, rfl, rfl, rfl, rfl, rfl, rfl, rfl, trivial⟩ ?_
              refine Cov.inBlock ?_
              refine Cov.region rfl ?_
              refine Cov.q .ro (.addw rfl rfl) rfl ?_
              refine Cov.q .ro (.move rfl) rfl ?_
              refine Cov.region_end ?_
              refine Cov.prune _ ?_ (Cov.same rfl rfl rfl (hb426 ((i411 + 1), xs435, G461, u481, es483, cs484) ⟨(HpLe.trans e415 e462), B463, o485, (hlcs484.trans hl422), (drop_succ g413), r482⟩ (Nat.lt_succ_self _)))
              exact ⟨rfl, (congrArg (fun z => some (Value.int .i64 z)) (idx_wrap (OL.len' o281) g413)), rfl, rfl, rfl, rfl, rfl, rfl, trivial⟩
            · have r487 := ifBF r446 c449; clear r446
              refine Cov.skip ?_
              refine Cov.inBlock ?_
              refine Cov.region rfl ?_
              refine Cov.q .ro (.addw rfl rfl) rfl ?_
              refine Cov.q .ro (.move rfl) rfl ?_
              refine Cov.region_end ?_
              refine Cov.prune [(7, _), (40, _), (8, _), (1, _), (2, _), (9, _), (38, _), (39, _)] ⟨rfl, rfl, rfl, rfl, rfl, rfl, rfl, rfl, trivial⟩ ?_
              refine Cov.prune _ ?_ (Cov.same rfl rfl rfl (hb426 ((i411 + 1), xs435, G414, v418, es419, cs420) ⟨e415, B416, o421, hl422, (drop_succ g413), r487⟩ (Nat.lt_succ_self _)))
              exact ⟨rfl, (congrArg (fun z => some (Value.int .i64 z)) (idx_wrap (OL.len' o281) g413)), rfl, rfl, rfl, rfl, rfl, rfl, trivial⟩
        · have r488 := ifF r269 c271; clear r269
          refine Cov.exit rfl ?_
          refine Cov.seq ?_
          refine Cov.region rfl ?_
          refine Cov.q .ro (.move rfl) rfl ?_
          refine Cov.q .ro (.assign rfl) rfl ?_
          refine Cov.q .ro (.assign rfl) rfl ?_
          refine Cov.region_end ?_
          refine Cov.pullS 1 rfl [_, _] rfl ?_
          refine Cov.pullS 1 rfl [_, _] rfl ?_
          refine Cov.freezeN (Q := (Rep.int .i64)) rfl o260 rfl B254 (fun G489 e490 B491 s492 => ?_)
          cases r488
          refine Cov.drop 1 0 [] _ rfl rfl ?_
          refine Cov.retW (c := ⟨23, none⟩) (.inr ⟨_, rfl⟩) [.tmp 4, .tmp 5] [_, _] rfl Try.func23 Try.results23 ⟨RV.tmp rfl, RV.tmp rfl, trivial⟩ (fun _ h => List.mem_cons_of_mem _ h) List.mem_cons_self B491 (by subst hS0; simp [blks]) (fun G' hg => ⟨(some ⟨b18, 0, none⟩), u16.length, rfl, rfl, rfl, (SlR.mono hg s492)⟩)
    · intro hb10
      refine Cov.split 20 rfl (fun c9 => ?_) (fun c9 => ?_)
      · refine Cov.g_off rfl rfl rfl ?_
        refine Cov.g_off rfl rfl rfl ?_
        refine Cov.q .ro (.pick_t rfl rfl) rfl ?_
        refine Cov.prune _ ?_ (Cov.same rfl rfl rfl (hb10 () trivial))
        exact ⟨dor_t c9, rfl, rfl, trivial⟩
      · refine Cov.g_on rfl ?_
        refine Cov.q .ro (.move rfl) rfl ?_
        refine Cov.g_on rfl ?_
        refine Cov.q .ro (.gtr rfl rfl) rfl ?_
        refine Cov.q .ro (.pick_f rfl rfl) rfl ?_
        refine Cov.prune _ ?_ (Cov.same rfl rfl rfl (hb10 () trivial))
        exact ⟨dor_f c9, rfl, rfl, trivial⟩
set_option maxHeartbeats 4000000 in
set_option maxRecDepth 100000 in
theorem ref34_Plan_c {Fs : List Hp} {G : Hp} {x0_0 : Int} {a0_1 : Option Addr} {k0_1 : Nat} {x0_1 : List (Int × Int)} {x1 : Int} {a2 : Option Addr} {k2 : Nat} {x2 : List Int} {r : (((List (List Int)) × (List Int) × (List Int)) × Int)} (hG : G ∈ Fs) (s0_1 : SlR (Rep.pair (Rep.int .i64) (Rep.int .i64)) G a0_1 k0_1 x0_1) (s2 : SlR (Rep.int .i64) G a2 k2 x2) (h : ref34_Plan (x0_0, x0_1) x1 x2 = some r) : RetW Try.prog 10 #[.agg #[.int .i64 x0_0, .slice a0_1 x0_1.length k0_1], .int .i64 x1, .slice a2 x2.length k2] Fs [] [] (fun v bo so G => ∃ a0 : Option Addr, ∃ k0 : Nat, ∃ a1 : Option Addr, ∃ k1 : Nat, ∃ a2 : Option Addr, ∃ k2 : Nat, v = .tuple #[.agg #[.slice a0 r.1.1.length k0, .slice a1 r.1.2.1.length k1, .slice a2 r.1.2.2.length k2], .int .i64 r.2] ∧ bo = [] ∧ so = [] ∧ SlR (Rep.sl (Rep.int .i64)) G a0 k0 r.1.1 ∧ SlR (Rep.int .i64) G a1 k1 r.1.2.1 ∧ SlR (Rep.int .i64) G a2 k2 r.1.2.2) := by
  unfold ref34_Plan at h
  try dsimp only at h
  refine RetW.of (vs := [_, _, _]) Try.func10 rfl Try.ntmps10 [(0, _), (1, _), (2, _)] ⟨rfl, rfl, rfl, trivial⟩ rfl hG fun w0 S0 hS0 B0 => ?_
  refine Cov.seq ?_
  refine Cov.region rfl ?_
  refine Cov.box [_, _] .ro rfl rfl rfl (fun b1 hb1 => ?_)
  refine Cov.alloc .ro ty37 rfl (fun b2 hb2 => ?_)
  refine Cov.q .ro (.assign rfl) rfl ?_
  refine Cov.region_end ?_
  refine Cov.seq ?_
  refine Cov.seq ?_
  refine Cov.region rfl ?_
  refine Cov.q .ro (.move rfl) rfl ?_
  refine Cov.q .ro (.lss rfl rfl) rfl ?_
  refine Cov.q .ro (.move rfl) rfl ?_
  refine Cov.cutR 3 (β := Unit) (fun y => [(22, .bool (decide ((x1 < 1) ∨ (1024 < x1))))]) [(1, _), (2, _), (3, _), (6, _)] (fun y => G :: Fs) (fun y => []) [_, _] (fun y => []) [] (fun y => True) ⟨rfl, rfl, rfl, rfl, trivial⟩ [0, 1] rfl [] rfl ?_ ?_
  · rintro _ _
    refine Cov.prune [(22, .bool (decide ((x1 < 1) ∨ (1024 < x1)))), (1, _), (2, _), (3, _), (6, _)] ⟨rfl, rfl, rfl, rfl, rfl, trivial⟩ ?_
    refine Cov.same (bl' := [_, _]) (sl' := []) (Fs' := G :: Fs) rfl rfl rfl ?_
    refine Cov.q .ro (.move rfl) rfl ?_
    refine Cov.cutR 4 (β := Unit) (fun y => [(27, .bool (decide (((x1 < 1) ∨ (1024 < x1)) ∨ ((x2.length : Int) = 0))))]) [(1, _), (2, _), (3, _), (6, _)] (fun y => G :: Fs) (fun y => []) [_, _] (fun y => []) [] (fun y => True) ⟨rfl, rfl, rfl, rfl, trivial⟩ [0, 1] rfl [] rfl ?_ ?_
    · rintro _ _
      refine Cov.prune [(27, .bool (decide (((x1 < 1) ∨ (1024 < x1)) ∨ ((x2.length : Int) = 0)))), (1, _), (2, _), (3, _), (6, _)] ⟨rfl, rfl, rfl, rfl, rfl, trivial⟩ ?_
      refine Cov.same (bl' := [_, _]) (sl' := []) (Fs' := G :: Fs) rfl rfl rfl ?_
      refine Cov.region_end ?_
      refine Cov.cond_dec rfl (fun c11 => ?_) (fun c11 => ?_)
      · have r12 := ifT h c11; clear h
        refine Cov.seq ?_
        refine Cov.region rfl ?_
        refine Cov.q .ro (.build [_, _, _] [] ty37 pl37 rfl rfl) rfl ?_
        refine Cov.store 0 [_, _, _] [_, _] .ro rfl rfl rfl ty37 rfl rfl rfl rfl ?_
        refine Cov.q .ro (.assign rfl) rfl ?_
        refine Cov.region_end ?_
        cases r12
        refine Cov.retWD 2 (c := ⟨10, none⟩) (.inr ⟨_, rfl⟩) [.cell 6 37, .tmp 7] [_, _] rfl Try.func10 Try.results10 ⟨RV.cell_a 0 [_, _, _] rfl rfl ty37 rfl, RV.tmp rfl, trivial⟩ (fun _ h => List.mem_cons_of_mem _ h) List.mem_cons_self B0 (by subst hS0; simp [blks]) (fun G' hg => ⟨none, 0, none, 0, none, 0, rfl, rfl, rfl, (SlR.mono hg (SlR.nil (Rp' := (Rep.sl (Rep.int .i64))))), (SlR.mono hg (SlR.nil (Rp' := (Rep.int .i64)))), (SlR.mono hg (SlR.nil (Rp' := (Rep.int .i64))))⟩)
      · have r13 := ifF h c11; clear h
        refine Cov.skip ?_
        refine Cov.seq ?_
        refine Cov.seq ?_
        refine Cov.region rfl ?_
        refine Cov.q .ro (.assign rfl) rfl ?_
        refine Cov.region_end ?_
        refine Cov.cutB (β := Int) (fun y => []) [(1, _), (2, _), (3, _), (6, _)] (fun y => G :: Fs) (fun y => [(b1, .cells #[.int .i64 y, .slice a0_1 x0_1.length k0_1] 28 (0, 0))]) [_] (fun y => []) [] (fun y => (ref34_Plan_J6 x1 x2 x0_1) y = some r) ⟨rfl, rfl, rfl, rfl, trivial⟩ [0] rfl [] rfl ?_ ?_
        · intro v88 hI
          have r90 := hI; clear hI
          refine Cov.prune [(1, _), (2, _), (3, _), (6, _)] ⟨rfl, rfl, rfl, rfl, trivial⟩ ?_
          refine Cov.same (bl' := [(b1, .cells #[.int .i64 v88, .slice a0_1 x0_1.length k0_1] 28 (0, 0)), _]) (sl' := []) (Fs' := G :: Fs) rfl rfl rfl ?_
          unfold ref34_Plan_J6 at r90
          try dsimp only at r90
          refine Cov.seq ?_
          refine Cov.region rfl ?_
          refine Cov.q .ro (.load_own_a 0 [_, _] rfl rfl ty28 rfl) rfl ?_
          refine Cov.q .ro (.move rfl) rfl ?_
          obtain ⟨u94, hu94, r95⟩ := bind_some r90; clear r90
          refine Cov.callW (b1 := []) (b2 := [_, _]) (s1 := []) [_, _] [] .ro rfl rfl Try.call23 rfl rfl (ref19_Layout_c (G := G) List.mem_cons_self s0_1 hu94) rfl B0 (fun v97 bo so G98 e99 B100 h96 => ?_)
          obtain ⟨a102, k103, rfl, rfl, rfl, s104⟩ := h96
          refine Cov.same (bl' := [_, _]) (sl' := []) rfl rfl rfl ?_
          refine Cov.q .ro (.move rfl) rfl ?_
          refine Cov.q .ro (.extract rfl rfl) rfl ?_
          refine Cov.q .ro (.extract rfl rfl) rfl ?_
          refine Cov.q .ro (.assign rfl) rfl ?_
          refine Cov.q .ro (.assign rfl) rfl ?_
          refine Cov.region_end ?_
          refine Cov.seq ?_
          refine Cov.seq ?_
          refine Cov.region rfl ?_
          refine Cov.q .ro (.move rfl) rfl ?_
          refine Cov.q .ro (.neq rfl rfl) rfl ?_
          refine Cov.region_end ?_
          refine Cov.cond_dec rfl (fun c105 => ?_) (fun c105 => ?_)
          · have r106 := ifT r95 c105; clear r95
            refine Cov.seq ?_
            refine Cov.region rfl ?_
            refine Cov.q .ro (.build [_, _, _] [] ty37 pl37 rfl rfl) rfl ?_
            refine Cov.q .ro (.move rfl) rfl ?_
            refine Cov.store 1 [_, _, _] [_, _] .ro rfl rfl rfl ty37 rfl rfl rfl rfl ?_
            refine Cov.q .ro (.assign rfl) rfl ?_
            refine Cov.region_end ?_
            refine Cov.prune [(6, _), (7, _)] ⟨rfl, rfl, trivial⟩ ?_
            cases r106
            refine Cov.retWD 2 (c := ⟨10, none⟩) (.inr ⟨_, rfl⟩) [.cell 6 37, .tmp 7] [_, _] rfl Try.func10 Try.results10 ⟨RV.cell_a 1 [_, _, _] rfl rfl ty37 rfl, RV.tmp rfl, trivial⟩ (fun _ h => List.mem_cons_of_mem _ h) List.mem_cons_self B100 (by subst hS0; simp [blks]) (fun G' hg => ⟨none, 0, none, 0, none, 0, rfl, rfl, rfl, (SlR.mono hg (SlR.nil (Rp' := (Rep.sl (Rep.int .i64))))), (SlR.mono hg (SlR.nil (Rp' := (Rep.int .i64)))), (SlR.mono hg (SlR.nil (Rp' := (Rep.int .i64))))⟩)
          · have r107 := ifF r95 c105; clear r95
            refine Cov.skip ?_
            refine Cov.seq ?_
            refine Cov.region rfl ?_
            refine Cov.q .ro (.load_own_a 0 [_, _] rfl rfl ty28 rfl) rfl ?_
            refine Cov.q .ro (.move rfl) rfl ?_
            obtain ⟨u108, hu108, r109⟩ := bind_some r107; clear r107
            refine Cov.callW (b1 := []) (b2 := [_, _]) (s1 := []) [_, _] [] .ro rfl rfl Try.call11 rfl rfl (ref19_Assign_c (G := G98) List.mem_cons_self (SlR.mono e99 s0_1) (SlR.mono e99 s2) hu108) rfl B100 (fun v111 bo so G112 e113 B114 h110 => ?_)
            obtain ⟨a116, k117, rfl, rfl, rfl, s118⟩ := h110
            refine Cov.same (bl' := [_, _]) (sl' := []) rfl rfl rfl ?_
            refine Cov.q .ro (.move rfl) rfl ?_
            refine Cov.q .ro (.extract rfl rfl) rfl ?_
            refine Cov.q .ro (.extract rfl rfl) rfl ?_
            refine Cov.alloc .ro ty41 rfl (fun b119 hb119 => ?_)
            refine Cov.store 0 [_] [_, _, _] .ro rfl rfl rfl ty41 rfl rfl rfl rfl ?_
            refine Cov.q .ro (.assign rfl) rfl ?_
            refine Cov.region_end ?_
            refine Cov.prune [(2, _), (6, _), (9, _), (10, _), (11, _)] ⟨rfl, rfl, rfl, rfl, rfl, trivial⟩ ?_
            refine Cov.seq ?_
            refine Cov.seq ?_
            refine Cov.region rfl ?_
            refine Cov.q .ro (.move rfl) rfl ?_
            refine Cov.q .ro (.neq rfl rfl) rfl ?_
            refine Cov.region_end ?_
            refine Cov.cond_dec rfl (fun c120 => ?_) (fun c120 => ?_)
            · have r121 := ifT r109 c120; clear r109
              refine Cov.seq ?_
              refine Cov.region rfl ?_
              refine Cov.q .ro (.build [_, _, _] [] ty37 pl37 rfl rfl) rfl ?_
              refine Cov.q .ro (.move rfl) rfl ?_
              refine Cov.store 2 [_, _, _] [_, _, _] .ro rfl rfl rfl ty37 rfl rfl rfl rfl ?_
              refine Cov.q .ro (.assign rfl) rfl ?_
              refine Cov.region_end ?_
              cases r121
              refine Cov.retWD 3 (c := ⟨10, none⟩) (.inr ⟨_, rfl⟩) [.cell 6 37, .tmp 7] [_, _] rfl Try.func10 Try.results10 ⟨RV.cell_a 2 [_, _, _] rfl rfl ty37 rfl, RV.tmp rfl, trivial⟩ (fun _ h => List.mem_cons_of_mem _ h) List.mem_cons_self B114 (by subst hS0; simp [blks]) (fun G' hg => ⟨none, 0, none, 0, none, 0, rfl, rfl, rfl, (SlR.mono hg (SlR.nil (Rp' := (Rep.sl (Rep.int .i64))))), (SlR.mono hg (SlR.nil (Rp' := (Rep.int .i64)))), (SlR.mono hg (SlR.nil (Rp' := (Rep.int .i64))))⟩)
            · have r122 := ifF r109 c120; clear r109
              refine Cov.skip ?_
              refine Cov.seq ?_
              refine Cov.region rfl ?_
              refine Cov.q .ro (.move rfl) rfl ?_
              refine Cov.q .ro (.build [_, _, _] [(0, _)] ty37 pl37 rfl rfl) rfl ?_
              refine Cov.alloc .ro ty37 rfl (fun b123 hb123 => ?_)
              refine Cov.store 0 [_, _, _] [_, _, _, _] .ro rfl rfl rfl ty37 rfl rfl rfl rfl ?_
              refine Cov.region_end ?_
              refine Cov.seq ?_
              refine Cov.seq ?_
              refine Cov.region rfl ?_
              refine Cov.q .ro (.assign rfl) rfl ?_
              refine Cov.region_end ?_
              refine Cov.cutB (β := List Int × Option Addr × Nat × List Value × List Int × Option Addr × Nat × List Value × Int) (fun y => []) [(6, _), (12, _)] (fun y => G112 :: Fs) (fun y => [(b123, .cells #[.slice a102 u94.1.length k103, .slice y.2.1 y.1.length y.2.2.1, .slice y.2.2.2.2.2.1 y.2.2.2.2.1.length y.2.2.2.2.2.2.1] 37 (0, 0)), (b1, .cells #[.int .i64 y.2.2.2.2.2.2.2.2, .slice a0_1 x0_1.length k0_1] 28 (0, 0))]) [_, _] (fun y => [.s (.slice y.2.1 y.1.length y.2.2.1) 3 1 y.1.length y.2.2.2.1, .s (.slice y.2.2.2.2.2.1 y.2.2.2.2.1.length y.2.2.2.2.2.2.1) 3 1 y.2.2.2.2.1.length y.2.2.2.2.2.2.2.1]) [] (fun y => OL (Rep.int .i64) G112 y.2.2.2.1 y.1 ∧ OL (Rep.int .i64) G112 y.2.2.2.2.2.2.2.1 y.2.2.2.2.1 ∧ (ref34_Plan_J1 u94.1) y.1 y.2.2.2.2.1 y.2.2.2.2.2.2.2.2 = some r) ⟨rfl, rfl, trivial⟩ [1, 3] rfl [] rfl ?_ ?_
              · intro y hI
                obtain ⟨v13212, a13213, k13214, cs13215, v13218, a13219, k13220, cs13221, v13224⟩ := y
                obtain ⟨o13216, o13222, r13226⟩ := hI
                try dsimp only at o13216 o13222 r13226
                refine Cov.prune [(6, _), (12, _)] ⟨rfl, rfl, trivial⟩ ?_
                refine Cov.same (bl' := [(b123, .cells #[.slice a102 u94.1.length k103, .slice a13213 v13212.length k13214, .slice a13219 v13218.length k13220] 37 (0, 0)), (b1, .cells #[.int .i64 v13224, .slice a0_1 x0_1.length k0_1] 28 (0, 0)), _, _]) (sl' := [.s (.slice a13213 v13212.length k13214) 3 1 v13212.length cs13215, .s (.slice a13219 v13218.length k13220) 3 1 v13218.length cs13221]) (Fs' := G112 :: Fs) rfl rfl rfl ?_
                unfold ref34_Plan_J1 at r13226
                try dsimp only at r13226
                refine Cov.seq ?_
                refine Cov.region rfl ?_
                refine Cov.q .ro (.load_own_a 0 [_, _, _] rfl rfl ty37 rfl) rfl ?_
                refine Cov.store 3 [_, _, _] [_, _, _, _] .ro rfl rfl rfl ty37 rfl rfl rfl rfl ?_
                refine Cov.q .ro (.assign rfl) rfl ?_
                refine Cov.region_end ?_
                refine Cov.freezeR 0 rfl rfl o13216 [_] rfl B114 (fun G13230 e13231 B13232 s13233 => ?_)
                refine Cov.freezeR 0 rfl rfl (OL.mono e13231 o13222) [] rfl B13232 (fun G13235 e13236 B13237 s13238 => ?_)
                cases r13226
                refine Cov.retWD 4 (c := ⟨10, none⟩) (.inr ⟨_, rfl⟩) [.cell 6 37, .tmp 7] [_, _] rfl Try.func10 Try.results10 ⟨RV.cell_a 3 [_, _, _] rfl rfl ty37 rfl, RV.tmp rfl, trivial⟩ (fun _ h => List.mem_cons_of_mem _ h) List.mem_cons_self B13237 (by subst hS0; simp [blks]) (fun G' hg => ⟨a102, k103, a13213, k13214, a13219, k13220, rfl, rfl, rfl, (SlR.mono hg (SlR.mono (HpLe.trans (HpLe.trans e113 e13231) e13236) s104)), (SlR.mono hg (SlR.mono e13236 s13233)), (SlR.mono hg s13238)⟩)
              · intro hb13240
                refine Cov.block ?_
                refine Cov.own_nil 3 1 ?_
                refine Cov.own_nil 3 1 ?_
                refine Cov.pull 2 rfl [_, _, _, _] rfl ?_
                refine Cov.pull 1 rfl [_, _, _, _] rfl ?_
                refine Cov.pullS 1 rfl [_, _] rfl ?_
                refine Cov.loop2 (α := Nat × Int × List Int × Option Addr × Nat × List Value × List Int × Option Addr × Nat × List Value × Int) (fun y => [(13, .int .i64 y.2.1)]) [(2, _), (6, _), (9, _), (11, _), (12, _)] (fun y => []) (fun y => [(b123, .cells #[.slice a102 u94.1.length k103, .slice y.2.2.2.1 y.2.2.1.length y.2.2.2.2.1, .slice y.2.2.2.2.2.2.2.1 y.2.2.2.2.2.2.1.length y.2.2.2.2.2.2.2.2.1] 37 (0, 0)), (b1, .cells #[.int .i64 y.2.2.2.2.2.2.2.2.2.2, .slice a0_1 x0_1.length k0_1] 28 (0, 0))]) [_, _] (fun y => [.s (.slice y.2.2.2.1 y.2.2.1.length y.2.2.2.2.1) 3 1 y.2.2.1.length y.2.2.2.2.2.1, .s (.slice y.2.2.2.2.2.2.2.1 y.2.2.2.2.2.2.1.length y.2.2.2.2.2.2.2.2.1) 3 1 y.2.2.2.2.2.2.1.length y.2.2.2.2.2.2.2.2.2.1]) [] (fun y => OL (Rep.int .i64) G112 y.2.2.2.2.2.1 y.2.2.1 ∧ OL (Rep.int .i64) G112 y.2.2.2.2.2.2.2.2.2.1 y.2.2.2.2.2.2.1 ∧ ref34_Plan_L5 (ref34_Plan_J1 u94.1) x2 u94.1 u108.1 y.1 y.2.1 y.2.2.1 y.2.2.2.2.2.2.1 y.2.2.2.2.2.2.2.2.2.2 = some r) (fun y => y.1) (big, 0, ([] : List Int), none, 0, [], ([] : List Int), none, 0, [], v88) ⟨(OL.nil (Rp' := (Rep.int .i64))), (OL.nil (Rp' := (Rep.int .i64))), r122⟩ ⟨rfl, rfl, rfl, rfl, rfl, rfl, trivial⟩ rfl rfl rfl (fun y hI hb21967 => ?_)
                obtain ⟨n21950, v21952, v21953, a21954, k21955, cs21956, v21959, a21960, k21961, cs21962, v21965⟩ := y
                obtain ⟨o21957, o21963, r21966⟩ := hI
                try dsimp only at o21957 o21963 r21966
                refine Cov.prune [(13, .int .i64 v21952), (2, _), (6, _), (9, _), (11, _), (12, _)] ⟨rfl, rfl, rfl, rfl, rfl, rfl, trivial⟩ ?_
                refine Cov.same (bl' := [(b123, .cells #[.slice a102 u94.1.length k103, .slice a21954 v21953.length k21955, .slice a21960 v21959.length k21961] 37 (0, 0)), (b1, .cells #[.int .i64 v21965, .slice a0_1 x0_1.length k0_1] 28 (0, 0)), _, _]) (sl' := [.s (.slice a21954 v21953.length k21955) 3 1 v21953.length cs21956, .s (.slice a21960 v21959.length k21961) 3 1 v21959.length cs21962]) (Fs' := G112 :: Fs) rfl rfl rfl ?_
                obtain ⟨m21973, rfl⟩ : ∃ m, n21950 = m + 1 := by cases n21950 with | zero => exact absurd (show (none : Option _) = some _ from r21966) (by simp) | succ m => exact ⟨m, rfl⟩
                have r21972 : ref34_Plan_B5 (ref34_Plan_J1 u94.1) x2 u94.1 u108.1 (ref34_Plan_L5 (ref34_Plan_J1 u94.1) x2 u94.1 u108.1 m21973) v21952 v21953 v21959 v21965 = some r := r21966; clear r21966; unfold ref34_Plan_B5 at r21972; try dsimp only at r21972
                refine Cov.seq ?_
                refine Cov.seq ?_
                refine Cov.region rfl ?_
                refine Cov.q .ro (.move rfl) rfl ?_
                refine Cov.q .ro (.move rfl) rfl ?_
                refine Cov.q .ro (.len_sl rfl rfl sl34) rfl ?_
                refine Cov.q .ro (.lss rfl rfl) rfl ?_
                refine Cov.region_end ?_
                refine Cov.cond_dec rfl (fun c21974 => ?_) (fun c21974 => ?_)
                · have r21975 := ifT r21972 c21974; clear r21972
                  refine Cov.skip ?_
                  refine Cov.seq ?_
                  refine Cov.block ?_
                  refine Cov.seq ?_
                  refine Cov.drawL (.q 0 (.q 1 (.q 2 (.q 3 (.q 4 (.q 5 (.q 6 .nil))))))) [_, _, _, _] (by kernel_rfl) (by kernel_rfl) (pick_mem [0, 1, 2, 3] rfl) ?_
                  refine Cov.dq (.fieldAddr 0 rfl fl41_0 ty35.sz rfl) rfl ?_
                  refine Cov.dq (.load_own 2 rfl rfl ty35 rfl) rfl ?_
                  refine Cov.dq (.move rfl) rfl ?_
                  obtain ⟨u21976, hu21976, r21977⟩ := bind_some r21975; clear r21975
                  obtain ⟨c21978, p21979, h21980⟩ := SlR.get s118 hu21976
                  obtain rfl := h21980
                  refine Cov.dq (.idxR s118 rfl rfl hu21976 sl35 ty3.sz) rfl ?_
                  refine Cov.dq (.load_rp p21979 List.mem_cons_self rfl ty3 rfl) rfl ?_
                  refine Cov.dq (.assign rfl) rfl ?_
                  refine Cov.dq (.assign rfl) rfl ?_
                  refine Cov.draw_end ?_
                  refine Cov.seq ?_
                  refine Cov.seq ?_
                  refine Cov.region rfl ?_
                  refine Cov.q .ro (.move rfl) rfl ?_
                  refine Cov.q .ro (.move rfl) rfl ?_
                  obtain ⟨u21981, hu21981, r21982⟩ := bind_some r21977; clear r21977
                  obtain ⟨c21983, p21984, h21985⟩ := SlR.get (SlR.mono e113 s104) hu21981
                  obtain ⟨a21986, k21987, rfl, s21988⟩ := h21985
                  refine Cov.q .ro (.idxR (SlR.mono e113 s104) rfl rfl hu21981 sl34 ty35.sz) rfl ?_
                  refine Cov.q .ro (.load_rp p21984 List.mem_cons_self rfl ty35 rfl) rfl ?_
                  refine Cov.q .ro (.len_sl rfl rfl sl35) rfl ?_
                  refine Cov.q .ro (.eql rfl rfl) rfl ?_
                  refine Cov.region_end ?_
                  refine Cov.prune [(13, _), (2, _), (6, _), (9, _), (11, _), (12, _), (14, _), (15, _), (87, _)] ⟨rfl, rfl, rfl, rfl, rfl, rfl, rfl, rfl, rfl, trivial⟩ ?_
                  refine Cov.cutI (β := Int) (fun y => [(14, .int .i64 y)]) [(13, _), (2, _), (6, _), (9, _), (11, _), (12, _), (15, _)] (fun y => G112 :: Fs) (fun y => []) [_, _, _, _] (fun y => []) [_, _] (fun y => (ref34_Plan_J4 (ref34_Plan_L5 (ref34_Plan_J1 u94.1) x2 u94.1 u108.1 m21973) v21952 x2 u94.1 u21976 v21965 v21953 v21959) y = some r) ⟨rfl, rfl, rfl, rfl, rfl, rfl, rfl, trivial⟩ [0, 1, 2, 3] rfl [0, 1] rfl ?_ ?_
                  · intro v21993 hI
                    have r21995 := hI; clear hI
                    refine Cov.prune [(14, .int .i64 v21993), (13, _), (2, _), (6, _), (9, _), (11, _), (12, _), (15, _)] ⟨rfl, rfl, rfl, rfl, rfl, rfl, rfl, rfl, trivial⟩ ?_
                    refine Cov.same (bl' := [_, _, _, _]) (sl' := [_, _]) (Fs' := G112 :: Fs) rfl rfl rfl ?_
                    unfold ref34_Plan_J4 at r21995
                    try dsimp only at r21995
                    refine Cov.seq ?_
                    refine Cov.seq ?_
                    refine Cov.region rfl ?_
                    refine Cov.q .ro (.assign rfl) rfl ?_
                    refine Cov.region_end ?_
                    refine Cov.cutB (β := Int × Int) (fun y => [(14, .int .i64 y.1)]) [(13, _), (2, _), (6, _), (9, _), (11, _), (12, _), (15, _)] (fun y => G112 :: Fs) (fun y => [(b1, .cells #[.int .i64 y.2, .slice a0_1 x0_1.length k0_1] 28 (0, 0))]) [_, _, _] (fun y => []) [_, _] (fun y => (ref34_Plan_J2 (ref34_Plan_L5 (ref34_Plan_J1 u94.1) x2 u94.1 u108.1 m21973) v21952 u21976 v21953 v21959) y.1 y.2 = some r) ⟨rfl, rfl, rfl, rfl, rfl, rfl, rfl, trivial⟩ [0, 2, 3] rfl [0, 1] rfl ?_ ?_
                    · intro y hI
                      obtain ⟨v22144, v22145⟩ := y
                      have r22147 := hI; clear hI
                      try dsimp only at r22147
                      refine Cov.prune [(14, .int .i64 v22144), (13, _), (2, _), (6, _), (9, _), (11, _), (12, _), (15, _)] ⟨rfl, rfl, rfl, rfl, rfl, rfl, rfl, rfl, trivial⟩ ?_
                      refine Cov.same (bl' := [(b1, .cells #[.int .i64 v22145, .slice a0_1 x0_1.length k0_1] 28 (0, 0)), _, _, _]) (sl' := [_, _]) (Fs' := G112 :: Fs) rfl rfl rfl ?_
                      unfold ref34_Plan_J2 at r22147
                      try dsimp only at r22147
                      refine Cov.drawL (.q 0 (.q 1 (.q 2 (.q 5 (.q 6 (.q 7 (.alt (.e 3 1 (.alt (.e 4 1 (.q 10 (.e 8 1 (.e 9 1 (.e 11 2 (.e 12 2 (.e 13 2 .nil))))))) (.e 8 1 (.e 4 1 (.q 10 (.e 9 1 (.e 11 2 (.e 12 2 (.e 13 2 .nil))))))))) (.e 8 1 (.e 3 1 (.e 4 1 (.q 10 (.e 9 1 (.e 11 2 (.e 12 2 (.e 13 2 .nil))))))))))))))) [_, _, _, _] (by kernel_rfl) (by kernel_rfl) (pick_mem [0, 1, 2, 3] rfl) ?_
                      obtain ⟨u22163, hu22163, r22174⟩ := bind_some r22147; clear r22147
                      obtain ⟨u22172, hu22172, r22175⟩ := bind_some r22174; clear r22174
                      refine Cov.dq (.fieldAddr 1 rfl fl37_1 ty35.sz rfl) rfl ?_
                      refine Cov.dq (.load_own 1 rfl rfl ty35 rfl) rfl ?_
                      refine Cov.dq (.move rfl) rfl ?_
                      refine Cov.dq (.fieldAddr 2 rfl fl37_2 ty35.sz rfl) rfl ?_
                      refine Cov.dq (.load_own 1 rfl rfl ty35 rfl) rfl ?_
                      refine Cov.dq (.move rfl) rfl ?_
                      refine Cov.alt ?_ ?_
                      · refine Cov.lit [_] [(0, _)] .d1 sl35 ty3 rfl rfl rfl rfl rfl rfl (fun b22176 hb22176 => ?_)
                        have o22177 : OL (Rep.int .i64) G112 [.int .i64 v22144] ([v22144] : List Int) := ((OL.cons rfl (Rep.intI .i64 v22144) (OL.nil (Rp' := (Rep.int .i64)))) :)
                        refine Cov.reval 117 (n' := ([v22144] : List Int).length) rfl rfl ?_
                        refine Cov.clsL (HpLe.refl _) (pick_mem [0, 1, 2, 3] rfl) ?_
                        refine Cov.alt ?_ ?_
                        · refine Cov.appO (Q := (Rep.int .i64)) 0 .d1 sl35 ty3 rfl rfl rfl rfl rfl rfl o21957 o22177 rfl rfl rfl B114 hu22163 rfl (fun a22179 k22180 cs22181 o22182 => ?_)
                          refine Cov.clsL (HpLe.refl _) (pick_mem [0, 1, 2, 3] rfl) ?_
                          refine Cov.dq (.fieldAddr 1 rfl fl37_1 ty35.sz rfl) rfl ?_
                          refine Cov.lit [_] [(0, _)] .d1 sl35 ty3 rfl rfl rfl rfl rfl rfl (fun b22184 hb22184 => ?_)
                          have o22185 : OL (Rep.int .i64) G112 [.int .i64 u21976] ([u21976] : List Int) := ((OL.cons rfl (Rep.intI .i64 u21976) (OL.nil (Rp' := (Rep.int .i64)))) :)
                          refine Cov.reval 122 (n' := ([u21976] : List Int).length) rfl rfl ?_
                          refine Cov.clsL (HpLe.refl _) (pick_mem [0, 1, 2, 3] rfl) ?_
                          refine Cov.appO (Q := (Rep.int .i64)) 1 .d1 sl35 ty3 rfl rfl rfl rfl rfl rfl o21963 o22185 rfl rfl rfl B114 hu22172 rfl (fun a22187 k22188 cs22189 o22190 => ?_)
                          refine Cov.clsL (HpLe.refl _) (pick_mem [0, 1, 2, 3] rfl) ?_
                          refine Cov.store 1 [_, _, _] [_, _, _, _] .d2 rfl rfl rfl ty35 rfl rfl rfl rfl ?_
                          refine Cov.q .d2 (.fieldAddr 2 rfl fl37_2 ty35.sz rfl) rfl ?_
                          refine Cov.store 1 [_, _, _] [_, _, _, _] .d2 rfl rfl rfl ty35 rfl rfl rfl rfl ?_
                          refine Cov.draw_end ?_
                          refine Cov.prune [(13, _), (2, _), (6, _), (9, _), (11, _), (12, _)] ⟨rfl, rfl, rfl, rfl, rfl, rfl, trivial⟩ ?_
                          refine Cov.inBlock ?_
                          refine Cov.region rfl ?_
                          refine Cov.q .ro (.move rfl) rfl ?_
                          refine Cov.q .ro (.addw rfl rfl) rfl ?_
                          refine Cov.q .ro (.assign rfl) rfl ?_
                          refine Cov.region_end ?_
                          refine Cov.pull 3 rfl [_, _, _, _] rfl ?_
                          refine Cov.pull 3 rfl [_, _, _, _] rfl ?_
                          refine Cov.pull 2 rfl [_, _, _, _] rfl ?_
                          refine Cov.pull 3 rfl [_, _, _, _] rfl ?_
                          refine Cov.prune _ ?_ (Cov.same rfl rfl rfl (hb21967 (m21973, (w64 (v21952 + 1)), u22163, a22179, k22180, cs22181, u22172, a22187, k22188, cs22189, v22145) ⟨o22182, o22190, r22175⟩ (Nat.lt_succ_self _)))
                          exact ⟨rfl, rfl, rfl, rfl, rfl, rfl, trivial⟩
                        · refine Cov.lit [_] [(0, _)] .d1 sl35 ty3 rfl rfl rfl rfl rfl rfl (fun b22192 hb22192 => ?_)
                          have o22193 : OL (Rep.int .i64) G112 [.int .i64 u21976] ([u21976] : List Int) := ((OL.cons rfl (Rep.intI .i64 u21976) (OL.nil (Rp' := (Rep.int .i64)))) :)
                          refine Cov.reval 122 (n' := ([u21976] : List Int).length) rfl rfl ?_
                          refine Cov.clsL (HpLe.refl _) (pick_mem [0, 1, 2, 3] rfl) ?_
                          refine Cov.pullS 1 rfl [_, _, _, _] rfl ?_
                          refine Cov.appO (Q := (Rep.int .i64)) 1 .d1 sl35 ty3 rfl rfl rfl rfl rfl rfl o21957 o22177 rfl rfl rfl B114 hu22163 rfl (fun a22195 k22196 cs22197 o22198 => ?_)
                          refine Cov.clsL (HpLe.refl _) (pick_mem [0, 1, 2, 3] rfl) ?_
                          refine Cov.dq (.fieldAddr 1 rfl fl37_1 ty35.sz rfl) rfl ?_
                          refine Cov.appO (Q := (Rep.int .i64)) 1 .d1 sl35 ty3 rfl rfl rfl rfl rfl rfl o21963 o22193 rfl rfl rfl B114 hu22172 rfl (fun a22200 k22201 cs22202 o22203 => ?_)
                          refine Cov.clsL (HpLe.refl _) (pick_mem [0, 1, 2, 3] rfl) ?_
                          refine Cov.store 1 [_, _, _] [_, _, _, _] .d2 rfl rfl rfl ty35 rfl rfl rfl rfl ?_
                          refine Cov.q .d2 (.fieldAddr 2 rfl fl37_2 ty35.sz rfl) rfl ?_
                          refine Cov.store 1 [_, _, _] [_, _, _, _] .d2 rfl rfl rfl ty35 rfl rfl rfl rfl ?_
                          refine Cov.draw_end ?_
                          refine Cov.prune [(13, _), (2, _), (6, _), (9, _), (11, _), (12, _)] ⟨rfl, rfl, rfl, rfl, rfl, rfl, trivial⟩ ?_
                          refine Cov.inBlock ?_
                          refine Cov.region rfl ?_
                          refine Cov.q .ro (.move rfl) rfl ?_
                          refine Cov.q .ro (.addw rfl rfl) rfl ?_
                          refine Cov.q .ro (.assign rfl) rfl ?_
                          refine Cov.region_end ?_
                          refine Cov.pull 3 rfl [_, _, _, _] rfl ?_
                          refine Cov.pull 3 rfl [_, _, _, _] rfl ?_
                          refine Cov.pull 2 rfl [_, _, _, _] rfl ?_
                          refine Cov.pull 3 rfl [_, _, _, _] rfl ?_
                          refine Cov.prune _ ?_ (Cov.same rfl rfl rfl (hb21967 (m21973, (w64 (v21952 + 1)), u22163, a22195, k22196, cs22197, u22172, a22200, k22201, cs22202, v22145) ⟨o22198, o22203, r22175⟩ (Nat.lt_succ_self _)))
                          exact ⟨rfl, rfl, rfl, rfl, rfl, rfl, trivial⟩
                      · refine Cov.lit [_] [(0, _)] .d1 sl35 ty3 rfl rfl rfl rfl rfl rfl (fun b22205 hb22205 => ?_)
                        have o22206 : OL (Rep.int .i64) G112 [.int .i64 u21976] ([u21976] : List Int) := ((OL.cons rfl (Rep.intI .i64 u21976) (OL.nil (Rp' := (Rep.int .i64)))) :)
                        refine Cov.reval 122 (n' := ([u21976] : List Int).length) rfl rfl ?_
                        refine Cov.clsL (HpLe.refl _) (pick_mem [0, 1, 2, 3] rfl) ?_
                        refine Cov.lit [_] [(0, _)] .d1 sl35 ty3 rfl rfl rfl rfl rfl rfl (fun b22208 hb22208 => ?_)
                        have o22209 : OL (Rep.int .i64) G112 [.int .i64 v22144] ([v22144] : List Int) := ((OL.cons rfl (Rep.intI .i64 v22144) (OL.nil (Rp' := (Rep.int .i64)))) :)
                        refine Cov.reval 117 (n' := ([v22144] : List Int).length) rfl rfl ?_
                        refine Cov.clsL (HpLe.refl _) (pick_mem [0, 1, 2, 3] rfl) ?_
                        refine Cov.appO (Q := (Rep.int .i64)) 1 .d1 sl35 ty3 rfl rfl rfl rfl rfl rfl o21957 o22209 rfl rfl rfl B114 hu22163 rfl (fun a22211 k22212 cs22213 o22214 => ?_)
                        refine Cov.clsL (HpLe.refl _) (pick_mem [0, 1, 2, 3] rfl) ?_
                        refine Cov.dq (.fieldAddr 1 rfl fl37_1 ty35.sz rfl) rfl ?_
                        refine Cov.appO (Q := (Rep.int .i64)) 1 .d1 sl35 ty3 rfl rfl rfl rfl rfl rfl o21963 o22206 rfl rfl rfl B114 hu22172 rfl (fun a22216 k22217 cs22218 o22219 => ?_)
                        refine Cov.clsL (HpLe.refl _) (pick_mem [0, 1, 2, 3] rfl) ?_
                        refine Cov.store 1 [_, _, _] [_, _, _, _] .d2 rfl rfl rfl ty35 rfl rfl rfl rfl ?_
                        refine Cov.q .d2 (.fieldAddr 2 rfl fl37_2 ty35.sz rfl) rfl ?_
                        refine Cov.store 1 [_, _, _] [_, _, _, _] .d2 rfl rfl rfl ty35 rfl rfl rfl rfl ?_
                        refine Cov.draw_end ?_
                        refine Cov.prune [(13, _), (2, _), (6, _), (9, _), (11, _), (12, _)] ⟨rfl, rfl, rfl, rfl, rfl, rfl, trivial⟩ ?_
                        refine Cov.inBlock ?_
                        refine Cov.region rfl ?_
                        refine Cov.q .ro (.move rfl) rfl ?_
                        refine Cov.q .ro (.addw rfl rfl) rfl ?_
                        refine Cov.q .ro (.assign rfl) rfl ?_
                        refine Cov.region_end ?_
                        refine Cov.pull 3 rfl [_, _, _, _] rfl ?_
                        refine Cov.pull 3 rfl [_, _, _, _] rfl ?_
                        refine Cov.pull 2 rfl [_, _, _, _] rfl ?_
                        refine Cov.pull 3 rfl [_, _, _, _] rfl ?_
                        refine Cov.prune _ ?_ (Cov.same rfl rfl rfl (hb21967 (m21973, (w64 (v21952 + 1)), u22163, a22211, k22212, cs22213, u22172, a22216, k22217, cs22218, v22145) ⟨o22214, o22219, r22175⟩ (Nat.lt_succ_self _)))
                        exact ⟨rfl, rfl, rfl, rfl, rfl, rfl, trivial⟩
                    · intro hb26186
                      refine Cov.block ?_
                      refine Cov.loop2 (α := Nat × Int × Int) (fun y => [(14, .int .i64 y.2.1), (16, .int .i64 y.2.2)]) [(13, _), (2, _), (6, _), (9, _), (11, _), (12, _), (15, _)] (fun y => []) (fun y => []) [_, _, _, _] (fun y => []) [_, _] (fun y => ref34_Plan_L3 (ref34_Plan_J2 (ref34_Plan_L5 (ref34_Plan_J1 u94.1) x2 u94.1 u108.1 m21973) v21952 u21976 v21953 v21959) v21952 x2 u94.1 u21976 v21965 y.1 y.2.1 y.2.2 = some r) (fun y => y.1) (big, v21993, 0) r21995 ⟨rfl, rfl, rfl, rfl, rfl, rfl, rfl, rfl, rfl, trivial⟩ rfl rfl rfl (fun y hI hb26255 => ?_)
                      obtain ⟨n26250, v26252, v26253⟩ := y
                      have r26254 := hI; clear hI
                      try dsimp only at r26254
                      refine Cov.prune [(14, .int .i64 v26252), (16, .int .i64 v26253), (13, _), (2, _), (6, _), (9, _), (11, _), (12, _), (15, _)] ⟨rfl, rfl, rfl, rfl, rfl, rfl, rfl, rfl, rfl, trivial⟩ ?_
                      refine Cov.same (bl' := [_, _, _, _]) (sl' := [_, _]) (Fs' := G112 :: Fs) rfl rfl rfl ?_
                      obtain ⟨m26266, rfl⟩ : ∃ m, n26250 = m + 1 := by cases n26250 with | zero => exact absurd (show (none : Option _) = some _ from r26254) (by simp) | succ m => exact ⟨m, rfl⟩
                      have r26265 : ref34_Plan_B3 (ref34_Plan_J2 (ref34_Plan_L5 (ref34_Plan_J1 u94.1) x2 u94.1 u108.1 m21973) v21952 u21976 v21953 v21959) v21952 x2 u94.1 u21976 v21965 (ref34_Plan_L3 (ref34_Plan_J2 (ref34_Plan_L5 (ref34_Plan_J1 u94.1) x2 u94.1 u108.1 m21973) v21952 u21976 v21953 v21959) v21952 x2 u94.1 u21976 v21965 m26266) v26252 v26253 = some r := r26254; clear r26254; unfold ref34_Plan_B3 at r26265; try dsimp only at r26265
                      refine Cov.seq ?_
                      refine Cov.seq ?_
                      refine Cov.region rfl ?_
                      refine Cov.q .ro (.move rfl) rfl ?_
                      refine Cov.q .ro (.move rfl) rfl ?_
                      refine Cov.q .ro (.move rfl) rfl ?_
                      obtain ⟨u26267, hu26267, r26268⟩ := bind_some r26265; clear r26265
                      obtain ⟨c26269, p26270, h26271⟩ := SlR.get (SlR.mono e113 s104) hu26267
                      obtain ⟨a26272, k26273, rfl, s26274⟩ := h26271
                      refine Cov.q .ro (.idxR (SlR.mono e113 s104) rfl rfl hu26267 sl34 ty35.sz) rfl ?_
                      refine Cov.q .ro (.load_rp p26270 List.mem_cons_self rfl ty35 rfl) rfl ?_
                      refine Cov.q .ro (.len_sl rfl rfl sl35) rfl ?_
                      refine Cov.q .ro (.lss rfl rfl) rfl ?_
                      refine Cov.region_end ?_
                      refine Cov.cond_dec rfl (fun c26275 => ?_) (fun c26275 => ?_)
                      · have r26276 := ifT r26268 c26275; clear r26268
                        refine Cov.skip ?_
                        refine Cov.seq ?_
                        refine Cov.block ?_
                        refine Cov.seq ?_
                        refine Cov.drawL (.q 0 (.q 1 (.q 2 (.q 3 (.q 4 (.q 5 (.q 6 (.q 7 (.q 8 (.q 9 (.q 10 (.q 11 (.q 12 (.q 13 (.q 14 (.q 15 .nil)))))))))))))))) [_, _, _, _] (by kernel_rfl) (by kernel_rfl) (pick_mem [0, 1, 2, 3] rfl) ?_
                        refine Cov.dq (.move rfl) rfl ?_
                        refine Cov.dq (.geq rfl rfl) rfl ?_
                        refine Cov.dq (.move rfl) rfl ?_
                        obtain ⟨u26297, h26298, r26299⟩ := bind_some r26276; clear r26276
                        refine Cov.cutD 13 (β := Unit) (fun y => [(112, .bool u26297)]) [(14, _), (16, _), (13, _), (2, _), (6, _), (9, _), (11, _), (12, _), (15, _)] (fun y => G112 :: Fs) (fun y => []) [_, _, _, _] (fun y => []) [_, _] (fun y => True) ⟨rfl, rfl, rfl, rfl, rfl, rfl, rfl, rfl, rfl, trivial⟩ [0, 1, 2, 3] rfl [0, 1] rfl ?_ ?_
                        · rintro _ _
                          refine Cov.prune [(112, .bool u26297), (14, _), (16, _), (13, _), (2, _), (6, _), (9, _), (11, _), (12, _), (15, _)] ⟨rfl, rfl, rfl, rfl, rfl, rfl, rfl, rfl, rfl, rfl, trivial⟩ ?_
                          refine Cov.same (bl' := [_, _, _, _]) (sl' := [_, _]) (Fs' := G112 :: Fs) rfl rfl rfl ?_
                          refine Cov.draw_end ?_
                          refine Cov.cond rfl (fun c26302 => ?_) (fun c26302 => ?_)
                          · have r26303 := ifT r26299 c26302; clear r26299
                            refine Cov.region rfl ?_
                            refine Cov.q .ro (.move rfl) rfl ?_
                            refine Cov.q .ro (.assign rfl) rfl ?_
                            refine Cov.region_end ?_
                            refine Cov.inBlock ?_
                            refine Cov.region rfl ?_
                            refine Cov.q .ro (.move rfl) rfl ?_
                            refine Cov.q .ro (.addw rfl rfl) rfl ?_
                            refine Cov.q .ro (.assign rfl) rfl ?_
                            refine Cov.region_end ?_
                            refine Cov.prune _ ?_ (Cov.same rfl rfl rfl (hb26255 (m26266, v26253, (w64 (v26253 + 1))) r26303 (Nat.lt_succ_self _)))
                            exact ⟨rfl, rfl, rfl, rfl, rfl, rfl, rfl, rfl, rfl, trivial⟩
                          · have r26304 := ifBF r26299 c26302; clear r26299
                            refine Cov.skip ?_
                            refine Cov.inBlock ?_
                            refine Cov.region rfl ?_
                            refine Cov.q .ro (.move rfl) rfl ?_
                            refine Cov.q .ro (.addw rfl rfl) rfl ?_
                            refine Cov.q .ro (.assign rfl) rfl ?_
                            refine Cov.region_end ?_
                            refine Cov.prune _ ?_ (Cov.same rfl rfl rfl (hb26255 (m26266, v26252, (w64 (v26253 + 1))) r26304 (Nat.lt_succ_self _)))
                            exact ⟨rfl, rfl, rfl, rfl, rfl, rfl, rfl, rfl, rfl, trivial⟩
                        · intro hb26296
                          refine Cov.split 99 rfl (fun c26295 => ?_) (fun c26295 => ?_)
                          · have r26305 := ifT h26298 c26295
                            refine Cov.dgq_on rfl ?_
                            refine Cov.dq (.move rfl) rfl ?_
                            refine Cov.dgq_on rfl ?_
                            refine Cov.dq (.move rfl) rfl ?_
                            refine Cov.dgq_on rfl ?_
                            obtain ⟨u26306, hu26306, r26307⟩ := bind_some r26305; clear r26305
                            obtain ⟨c26308, p26309, h26310⟩ := SlR.get (SlR.mono e113 s104) hu26306
                            obtain ⟨a26311, k26312, rfl, s26313⟩ := h26310
                            refine Cov.dq (.idxR (SlR.mono e113 s104) rfl rfl hu26306 sl34 ty35.sz) rfl ?_
                            refine Cov.dgq_on rfl ?_
                            refine Cov.dq (.load_rp p26309 List.mem_cons_self rfl ty35 rfl) rfl ?_
                            refine Cov.dgq_on rfl ?_
                            refine Cov.dq (.move rfl) rfl ?_
                            refine Cov.dgq_on rfl ?_
                            obtain ⟨u26314, hu26314, r26315⟩ := bind_some r26307; clear r26307
                            obtain ⟨c26316, p26317, h26318⟩ := SlR.get s26313 hu26314
                            obtain rfl := h26318
                            refine Cov.dq (.idxR s26313 rfl rfl hu26314 sl35 ty3.sz) rfl ?_
                            refine Cov.dgq_on rfl ?_
                            refine Cov.dq (.load_rp p26317 List.mem_cons_self rfl ty3 rfl) rfl ?_
                            refine Cov.dgq_on rfl ?_
                            refine Cov.dq (.move rfl) rfl ?_
                            refine Cov.dgq_on rfl ?_
                            refine Cov.dq (.move rfl) rfl ?_
                            refine Cov.dgq_on rfl ?_
                            obtain ⟨u26319, hu26319, r26320⟩ := bind_some r26315; clear r26315
                            obtain ⟨c26321, p26322, h26323⟩ := SlR.get (SlR.mono (HpLe.trans e99 e113) s2) hu26319
                            obtain rfl := h26323
                            refine Cov.dq (.idxR (SlR.mono (HpLe.trans e99 e113) s2) rfl rfl hu26319 sl35 ty3.sz) rfl ?_
                            refine Cov.dgq_on rfl ?_
                            refine Cov.dq (.load_rp p26322 List.mem_cons_self rfl ty3 rfl) rfl ?_
                            refine Cov.dgq_on rfl ?_
                            refine Cov.dq (.eql rfl rfl) rfl ?_
                            refine Cov.dq (.pick_t rfl rfl) rfl ?_
                            refine Cov.prune _ ?_ (Cov.same rfl rfl rfl (hb26296 () trivial))
                            exact ⟨sval r26320, rfl, rfl, rfl, rfl, rfl, rfl, rfl, rfl, rfl, trivial⟩
                          · have r26324 := ifF h26298 c26295
                            refine Cov.dgq_off rfl rfl rfl ?_
                            refine Cov.dgq_off rfl rfl rfl ?_
                            refine Cov.dgq_off rfl rfl rfl ?_
                            refine Cov.dgq_off rfl rfl rfl ?_
                            refine Cov.dgq_off rfl rfl rfl ?_
                            refine Cov.dgq_off rfl rfl rfl ?_
                            refine Cov.dgq_off rfl rfl rfl ?_
                            refine Cov.dgq_off rfl rfl rfl ?_
                            refine Cov.dgq_off rfl rfl rfl ?_
                            refine Cov.dgq_off rfl rfl rfl ?_
                            refine Cov.dgq_off rfl rfl rfl ?_
                            refine Cov.dgq_off rfl rfl rfl ?_
                            refine Cov.dq (.pick_f rfl rfl) rfl ?_
                            refine Cov.prune _ ?_ (Cov.same rfl rfl rfl (hb26296 () trivial))
                            exact ⟨sval r26324, rfl, rfl, rfl, rfl, rfl, rfl, rfl, rfl, rfl, trivial⟩
                      · have r26325 := ifF r26268 c26275; clear r26268
                        refine Cov.exit rfl ?_
                        refine Cov.pull 3 rfl [_, _, _, _] rfl ?_
                        refine Cov.pull 3 rfl [_, _, _, _] rfl ?_
                        refine Cov.pull 2 rfl [_, _, _, _] rfl ?_
                        refine Cov.pull 3 rfl [_, _, _, _] rfl ?_
                        refine Cov.prune _ ?_ (Cov.same rfl rfl rfl (hb26186 (v26252, v21965) r26325))
                        exact ⟨rfl, rfl, rfl, rfl, rfl, rfl, rfl, rfl, trivial⟩
                  · intro hb26326
                    refine Cov.cond_dec rfl (fun c26327 => ?_) (fun c26327 => ?_)
                    · have r26328 := ifT r21982 c26327; clear r21982
                      refine Cov.region rfl ?_
                      refine Cov.q .ro (.assign rfl) rfl ?_
                      refine Cov.region_end ?_
                      refine Cov.prune _ ?_ (Cov.same rfl rfl rfl (hb26326 ((-1)) r26328))
                      exact ⟨rfl, rfl, rfl, rfl, rfl, rfl, rfl, rfl, trivial⟩
                    · have r26329 := ifF r21982 c26327; clear r21982
                      refine Cov.skip ?_
                      refine Cov.prune _ ?_ (Cov.same rfl rfl rfl (hb26326 (0) r26329))
                      exact ⟨rfl, rfl, rfl, rfl, rfl, rfl, rfl, rfl, trivial⟩
                · have r26330 := ifF r21972 c21974; clear r21972
                  refine Cov.exit rfl ?_
                  refine Cov.prune _ ?_ (Cov.same rfl rfl rfl (hb13240 (v21953, a21954, k21955, cs21956, v21959, a21960, k21961, cs21962, v21965) ⟨o21957, o21963, r26330⟩))
                  exact ⟨rfl, rfl, trivial⟩
        · intro hb26331
          refine Cov.block ?_
          refine Cov.loop2 (α := Nat × Int) (fun y => [(8, .int .i64 y.2)]) [(1, _), (2, _), (3, _), (6, _)] (fun y => []) (fun y => []) [_, _] (fun y => []) [] (fun y => ref34_Plan_L7 (ref34_Plan_J6 x1 x2 x0_1) x1 x2 x0_0 y.1 y.2 = some r) (fun y => y.1) (big, 0) r13 ⟨rfl, rfl, rfl, rfl, rfl, trivial⟩ rfl rfl rfl (fun y hI hb26369 => ?_)
          obtain ⟨n26365, v26367⟩ := y
          have r26368 := hI; clear hI
          try dsimp only at r26368
          refine Cov.prune [(8, .int .i64 v26367), (1, _), (2, _), (3, _), (6, _)] ⟨rfl, rfl, rfl, rfl, rfl, trivial⟩ ?_
          refine Cov.same (bl' := [_, _]) (sl' := []) (Fs' := G :: Fs) rfl rfl rfl ?_
          obtain ⟨m26375, rfl⟩ : ∃ m, n26365 = m + 1 := by cases n26365 with | zero => exact absurd (show (none : Option _) = some _ from r26368) (by simp) | succ m => exact ⟨m, rfl⟩
          have r26374 : ref34_Plan_B7 (ref34_Plan_J6 x1 x2 x0_1) x1 x2 x0_0 (ref34_Plan_L7 (ref34_Plan_J6 x1 x2 x0_1) x1 x2 x0_0 m26375) v26367 = some r := r26368; clear r26368; unfold ref34_Plan_B7 at r26374; try dsimp only at r26374
          refine Cov.seq ?_
          refine Cov.seq ?_
          refine Cov.region rfl ?_
          refine Cov.q .ro (.move rfl) rfl ?_
          refine Cov.q .ro (.move rfl) rfl ?_
          refine Cov.q .ro (.len_sl rfl rfl sl35) rfl ?_
          refine Cov.q .ro (.lss rfl rfl) rfl ?_
          refine Cov.region_end ?_
          refine Cov.cond_dec rfl (fun c26376 => ?_) (fun c26376 => ?_)
          · have r26377 := ifT r26374 c26376; clear r26374
            refine Cov.skip ?_
            refine Cov.seq ?_
            refine Cov.block ?_
            refine Cov.seq ?_
            refine Cov.region rfl ?_
            refine Cov.q .ro (.move rfl) rfl ?_
            refine Cov.q .ro (.move rfl) rfl ?_
            obtain ⟨u26378, hu26378, r26379⟩ := bind_some r26377; clear r26377
            obtain ⟨c26380, p26381, h26382⟩ := SlR.get s2 hu26378
            obtain rfl := h26382
            refine Cov.q .ro (.idxR s2 rfl rfl hu26378 sl35 ty3.sz) rfl ?_
            refine Cov.q .ro (.load_rp p26381 List.mem_cons_self rfl ty3 rfl) rfl ?_
            refine Cov.q .ro (.lss rfl rfl) rfl ?_
            refine Cov.q .ro (.move rfl) rfl ?_
            obtain ⟨u26390, h26391, r26392⟩ := bind_some r26379; clear r26379
            refine Cov.cutR 7 (β := Unit) (fun y => [(47, .bool u26390)]) [(8, _), (1, _), (2, _), (3, _), (6, _)] (fun y => G :: Fs) (fun y => []) [_, _] (fun y => []) [] (fun y => True) ⟨rfl, rfl, rfl, rfl, rfl, trivial⟩ [0, 1] rfl [] rfl ?_ ?_
            · rintro _ _
              refine Cov.prune [(47, .bool u26390), (8, _), (1, _), (2, _), (3, _), (6, _)] ⟨rfl, rfl, rfl, rfl, rfl, rfl, trivial⟩ ?_
              refine Cov.same (bl' := [_, _]) (sl' := []) (Fs' := G :: Fs) rfl rfl rfl ?_
              refine Cov.region_end ?_
              refine Cov.cond rfl (fun c26395 => ?_) (fun c26395 => ?_)
              · have r26396 := ifT r26392 c26395; clear r26392
                refine Cov.seq ?_
                refine Cov.region rfl ?_
                refine Cov.q .ro (.build [_, _, _] [] ty37 pl37 rfl rfl) rfl ?_
                refine Cov.store 0 [_, _, _] [_, _] .ro rfl rfl rfl ty37 rfl rfl rfl rfl ?_
                refine Cov.q .ro (.assign rfl) rfl ?_
                refine Cov.region_end ?_
                cases r26396
                refine Cov.retWD 2 (c := ⟨10, none⟩) (.inr ⟨_, rfl⟩) [.cell 6 37, .tmp 7] [_, _] rfl Try.func10 Try.results10 ⟨RV.cell_a 0 [_, _, _] rfl rfl ty37 rfl, RV.tmp rfl, trivial⟩ (fun _ h => List.mem_cons_of_mem _ h) List.mem_cons_self B0 (by subst hS0; simp [blks]) (fun G' hg => ⟨none, 0, none, 0, none, 0, rfl, rfl, rfl, (SlR.mono hg (SlR.nil (Rp' := (Rep.sl (Rep.int .i64))))), (SlR.mono hg (SlR.nil (Rp' := (Rep.int .i64)))), (SlR.mono hg (SlR.nil (Rp' := (Rep.int .i64))))⟩)
              · have r26397 := ifBF r26392 c26395; clear r26392
                refine Cov.skip ?_
                refine Cov.inBlock ?_
                refine Cov.region rfl ?_
                refine Cov.q .ro (.move rfl) rfl ?_
                refine Cov.q .ro (.addw rfl rfl) rfl ?_
                refine Cov.q .ro (.assign rfl) rfl ?_
                refine Cov.region_end ?_
                refine Cov.prune _ ?_ (Cov.same rfl rfl rfl (hb26369 (m26375, (w64 (v26367 + 1))) r26397 (Nat.lt_succ_self _)))
                exact ⟨rfl, rfl, rfl, rfl, rfl, trivial⟩
            · intro hb26389
              refine Cov.split 40 rfl (fun c26388 => ?_) (fun c26388 => ?_)
              · have r26398 := ifT h26391 c26388
                refine Cov.g_off rfl rfl rfl ?_
                refine Cov.g_off rfl rfl rfl ?_
                refine Cov.g_off rfl rfl rfl ?_
                refine Cov.g_off rfl rfl rfl ?_
                refine Cov.g_off rfl rfl rfl ?_
                refine Cov.g_off rfl rfl rfl ?_
                refine Cov.q .ro (.pick_t rfl rfl) rfl ?_
                refine Cov.prune _ ?_ (Cov.same rfl rfl rfl (hb26389 () trivial))
                exact ⟨sval r26398, rfl, rfl, rfl, rfl, rfl, trivial⟩
              · have r26399 := ifF h26391 c26388
                refine Cov.g_on rfl ?_
                refine Cov.q .ro (.move rfl) rfl ?_
                refine Cov.g_on rfl ?_
                refine Cov.q .ro (.move rfl) rfl ?_
                refine Cov.g_on rfl ?_
                obtain ⟨u26400, hu26400, r26401⟩ := bind_some r26399; clear r26399
                obtain ⟨c26402, p26403, h26404⟩ := SlR.get s2 hu26400
                obtain rfl := h26404
                refine Cov.q .ro (.idxR s2 rfl rfl hu26400 sl35 ty3.sz) rfl ?_
                refine Cov.g_on rfl ?_
                refine Cov.q .ro (.load_rp p26403 List.mem_cons_self rfl ty3 rfl) rfl ?_
                refine Cov.g_on rfl ?_
                refine Cov.q .ro (.move rfl) rfl ?_
                refine Cov.g_on rfl ?_
                refine Cov.q .ro (.geq rfl rfl) rfl ?_
                refine Cov.q .ro (.pick_f rfl rfl) rfl ?_
                refine Cov.prune _ ?_ (Cov.same rfl rfl rfl (hb26389 () trivial))
                exact ⟨sval r26401, rfl, rfl, rfl, rfl, rfl, trivial⟩
          · have r26405 := ifF r26374 c26376; clear r26374
            refine Cov.exit rfl ?_
            refine Cov.pull 1 rfl [_, _] rfl ?_
            refine Cov.prune _ ?_ (Cov.same rfl rfl rfl (hb26331 (x0_0) r26405))
            exact ⟨rfl, rfl, rfl, rfl, trivial⟩
    · intro hb8
      refine Cov.split 23 rfl (fun c7 => ?_) (fun c7 => ?_)
      · refine Cov.g_off rfl rfl rfl ?_
        refine Cov.g_off rfl rfl rfl ?_
        refine Cov.g_off rfl rfl rfl ?_
        refine Cov.q .ro (.pick_t rfl rfl) rfl ?_
        refine Cov.prune _ ?_ (Cov.same rfl rfl rfl (hb8 () trivial))
        exact ⟨dor_t c7, rfl, rfl, rfl, rfl, trivial⟩
      · refine Cov.g_on rfl ?_
        refine Cov.q .ro (.move rfl) rfl ?_
        refine Cov.g_on rfl ?_
        refine Cov.q .ro (.len_sl rfl rfl sl35) rfl ?_
        refine Cov.g_on rfl ?_
        refine Cov.q .ro (.eql rfl rfl) rfl ?_
        refine Cov.q .ro (.pick_f rfl rfl) rfl ?_
        refine Cov.prune _ ?_ (Cov.same rfl rfl rfl (hb8 () trivial))
        exact ⟨dor_f c7, rfl, rfl, rfl, rfl, trivial⟩
  · intro hb4
    refine Cov.split 19 rfl (fun c3 => ?_) (fun c3 => ?_)
    · refine Cov.g_off rfl rfl rfl ?_
      refine Cov.g_off rfl rfl rfl ?_
      refine Cov.q .ro (.pick_t rfl rfl) rfl ?_
      refine Cov.prune _ ?_ (Cov.same rfl rfl rfl (hb4 () trivial))
      exact ⟨dor_t c3, rfl, rfl, rfl, rfl, trivial⟩
    · refine Cov.g_on rfl ?_
      refine Cov.q .ro (.move rfl) rfl ?_
      refine Cov.g_on rfl ?_
      refine Cov.q .ro (.gtr rfl rfl) rfl ?_
      refine Cov.q .ro (.pick_f rfl rfl) rfl ?_
      refine Cov.prune _ ?_ (Cov.same rfl rfl rfl (hb4 () trivial))
      exact ⟨dor_f c3, rfl, rfl, rfl, rfl, trivial⟩
set_option maxHeartbeats 4000000 in
set_option maxRecDepth 100000 in
theorem play_Dice_Scheme_c {Fs : List Hp} {G : Hp} {p0 : Nat} {a0_0 : Option Addr} {k0_0 : Nat} {x0_0 : List Int} {x0_1 : Int} {r : ((Int × Int × Int × Int) × ((List Int) × Int))} (hG : G ∈ Fs) (s0_0 : SlR (Rep.int .u8) G a0_0 k0_0 x0_0) (h : play_Dice_Scheme (x0_0, x0_1) = some r) : RetS Try.prog 12 #[.pointer (some ⟨p0, 0, none⟩)] Fs [(p0, .cells #[.slice a0_0 x0_0.length k0_0, .int .i64 x0_1] 66 (0, 0))] [] (fun v bo so => ∃ a0 : Option Addr, ∃ k0 : Nat, v = .agg #[.int .i64 r.1.1, .int .i64 r.1.2.1, .int .i64 r.1.2.2.1, .int .i64 r.1.2.2.2] ∧ bo = [(p0, .cells #[.slice a0 r.2.1.length k0, .int .i64 r.2.2] 66 (0, 0))] ∧ so = [] ∧ SlR (Rep.int .u8) G a0 k0 r.2.1) := by
  unfold play_Dice_Scheme at h
  try dsimp only at h
  refine RetS.of (vs := [_]) Try.func12 rfl Try.ntmps12 [(0, _)] ⟨rfl, trivial⟩ rfl hG fun w0 S0 hS0 B0 => ?_
  refine Cov.seq ?_
  refine Cov.region rfl ?_
  refine Cov.alloc .ro ty46 rfl (fun b1 hb1 => ?_)
  refine Cov.region_end ?_
  refine Cov.seq ?_
  refine Cov.region rfl ?_
  refine Cov.q .ro (.move rfl) rfl ?_
  obtain ⟨u2, hu2, r3⟩ := bind_some h; clear h
  refine Cov.pull 1 rfl [_, _] rfl ?_
  refine Cov.callS (b1 := [_]) (b2 := [_]) (s1 := []) [_, _] [] .ro rfl rfl Try.call8 rfl rfl (play_Dice_Pick_c (G := G) List.mem_cons_self s0_0 hu2) rfl (fun v5 bo so h4 => ?_)
  obtain ⟨a6, k7, rfl, rfl, rfl, s8⟩ := h4
  refine Cov.same (bl' := [_, _]) (sl' := []) rfl rfl rfl ?_
  refine Cov.q .ro (.addw rfl rfl) rfl ?_
  refine Cov.q .ro (.assign rfl) rfl ?_
  refine Cov.region_end ?_
  refine Cov.seq ?_
  refine Cov.seq ?_
  refine Cov.region rfl ?_
  refine Cov.q .ro (.move rfl) rfl ?_
  obtain ⟨u9, hu9, r10⟩ := bind_some r3; clear r3
  refine Cov.callS (b1 := [_]) (b2 := [_]) (s1 := []) [_, _] [] .ro rfl rfl Try.call8 rfl rfl (play_Dice_Pick_c (G := G) List.mem_cons_self s8 hu9) rfl (fun v12 bo so h11 => ?_)
  obtain ⟨a13, k14, rfl, rfl, rfl, s15⟩ := h11
  refine Cov.same (bl' := [_, _]) (sl' := []) rfl rfl rfl ?_
  refine Cov.region_end ?_
  refine Cov.block ?_
  refine Cov.seq ?_
  refine Cov.region rfl ?_
  refine Cov.q .ro (.eql rfl rfl) rfl ?_
  refine Cov.q .ro (.assign rfl) rfl ?_
  refine Cov.region_end ?_
  refine Cov.cond_dec rfl (fun c16 => ?_) (fun c16 => ?_)
  · have r17 := ifT r10 c16; clear r10
    refine Cov.seq ?_
    refine Cov.region rfl ?_
    refine Cov.q .ro (.move rfl) rfl ?_
    refine Cov.q .ro (.build [_, _, _, _] [(0, _), (1, _)] ty46 pl46 rfl rfl) rfl ?_
    refine Cov.store 1 [_, _, _, _] [_, _] .ro rfl rfl rfl ty46 rfl rfl rfl rfl ?_
    refine Cov.region_end ?_
    cases r17
    refine Cov.pull 1 rfl [_, _] rfl ?_
    refine Cov.retSD 1 (c := ⟨12, none⟩) (.inr ⟨_, rfl⟩) [.cell 2 46] [_] rfl Try.func12 Try.results12 ⟨RV.cell_a 0 [_, _, _, _] rfl rfl ty46 rfl, trivial⟩ (fun _ h => List.mem_cons_of_mem _ h) ⟨a13, k14, rfl, rfl, rfl, s15⟩
  · have r18 := ifF r10 c16; clear r10
    refine Cov.seq ?_
    refine Cov.region rfl ?_
    refine Cov.q .ro (.eql rfl rfl) rfl ?_
    refine Cov.q .ro (.assign rfl) rfl ?_
    refine Cov.region_end ?_
    refine Cov.cond_dec rfl (fun c19 => ?_) (fun c19 => ?_)
    · have r20 := ifT r18 c19; clear r18
      refine Cov.seq ?_
      refine Cov.region rfl ?_
      refine Cov.q .ro (.move rfl) rfl ?_
      refine Cov.q .ro (.move rfl) rfl ?_
      obtain ⟨u21, hu21, r22⟩ := bind_some r20; clear r20
      refine Cov.callS (b1 := [_]) (b2 := [_]) (s1 := []) [_, _] [] .ro rfl rfl Try.call8 rfl rfl (play_Dice_Pick_c (G := G) List.mem_cons_self s15 hu21) rfl (fun v24 bo so h23 => ?_)
      obtain ⟨a25, k26, rfl, rfl, rfl, s27⟩ := h23
      refine Cov.same (bl' := [_, _]) (sl' := []) rfl rfl rfl ?_
      refine Cov.q .ro (.addw rfl rfl) rfl ?_
      refine Cov.q .ro (.build [_, _, _, _] [(0, _), (1, _), (2, _)] ty46 pl46 rfl rfl) rfl ?_
      refine Cov.store 1 [_, _, _, _] [_, _] .ro rfl rfl rfl ty46 rfl rfl rfl rfl ?_
      refine Cov.region_end ?_
      refine Cov.prune [(2, _)] ⟨rfl, trivial⟩ ?_
      cases r22
      refine Cov.pull 1 rfl [_, _] rfl ?_
      refine Cov.retSD 1 (c := ⟨12, none⟩) (.inr ⟨_, rfl⟩) [.cell 2 46] [_] rfl Try.func12 Try.results12 ⟨RV.cell_a 0 [_, _, _, _] rfl rfl ty46 rfl, trivial⟩ (fun _ h => List.mem_cons_of_mem _ h) ⟨a25, k26, rfl, rfl, rfl, s27⟩
    · have r28 := ifF r18 c19; clear r18
      refine Cov.skip ?_
      refine Cov.inBlock ?_
      refine Cov.seq ?_
      refine Cov.seq ?_
      refine Cov.region rfl ?_
      refine Cov.q .ro (.move rfl) rfl ?_
      refine Cov.q .ro (.lss rfl rfl) rfl ?_
      refine Cov.q .ro (.move rfl) rfl ?_
      obtain ⟨u39, h43, r44⟩ := bind_some r28; clear r28
      refine Cov.cutR 4 (β := Option Addr × Nat) (fun y => [(26, .bool u39.1)]) [(0, _), (2, _), (3, _)] (fun y => G :: Fs) (fun y => [(p0, .cells #[.slice y.1 u39.2.1.length y.2, .int .i64 u39.2.2] 66 (0, 0))]) [_] (fun y => []) [] (fun y => SlR (Rep.int .u8) G y.1 y.2 u39.2.1) ⟨rfl, rfl, rfl, trivial⟩ [1] rfl [] rfl ?_ ?_
      · intro y hI
        obtain ⟨a40, k41⟩ := y
        have s42 := hI; clear hI
        try dsimp only at s42
        refine Cov.prune [(26, .bool u39.1), (0, _), (2, _), (3, _)] ⟨rfl, rfl, rfl, rfl, trivial⟩ ?_
        refine Cov.same (bl' := [(p0, .cells #[.slice a40 u39.2.1.length k41, .int .i64 u39.2.2] 66 (0, 0)), _]) (sl' := []) (Fs' := G :: Fs) rfl rfl rfl ?_
        refine Cov.region_end ?_
        refine Cov.cond rfl (fun c47 => ?_) (fun c47 => ?_)
        · have r48 := ifT r44 c47; clear r44
          refine Cov.seq ?_
          refine Cov.region rfl ?_
          refine Cov.q .ro (.move rfl) rfl ?_
          refine Cov.q .ro (.move rfl) rfl ?_
          obtain ⟨u49, hu49, r50⟩ := bind_some r48; clear r48
          refine Cov.callS (b1 := [_]) (b2 := [_]) (s1 := []) [_, _] [] .ro rfl rfl Try.call8 rfl rfl (play_Dice_Pick_c (G := G) List.mem_cons_self s42 hu49) rfl (fun v52 bo so h51 => ?_)
          obtain ⟨a53, k54, rfl, rfl, rfl, s55⟩ := h51
          refine Cov.same (bl' := [_, _]) (sl' := []) rfl rfl rfl ?_
          refine Cov.q .ro (.addw rfl rfl) rfl ?_
          refine Cov.q .ro (.build [_, _, _, _] [(0, _), (1, _), (2, _), (3, _)] ty46 pl46 rfl rfl) rfl ?_
          refine Cov.store 1 [_, _, _, _] [_, _] .ro rfl rfl rfl ty46 rfl rfl rfl rfl ?_
          refine Cov.region_end ?_
          cases r50
          refine Cov.pull 1 rfl [_, _] rfl ?_
          refine Cov.retSD 1 (c := ⟨12, none⟩) (.inr ⟨_, rfl⟩) [.cell 2 46] [_] rfl Try.func12 Try.results12 ⟨RV.cell_a 0 [_, _, _, _] rfl rfl ty46 rfl, trivial⟩ (fun _ h => List.mem_cons_of_mem _ h) ⟨a53, k54, rfl, rfl, rfl, s55⟩
        · have r56 := ifBF r44 c47; clear r44
          refine Cov.skip ?_
          refine Cov.seq ?_
          refine Cov.region rfl ?_
          refine Cov.q .ro (.move rfl) rfl ?_
          refine Cov.q .ro (.build [_, _, _, _] [(0, _), (1, _), (2, _), (3, _)] ty46 pl46 rfl rfl) rfl ?_
          refine Cov.store 1 [_, _, _, _] [_, _] .ro rfl rfl rfl ty46 rfl rfl rfl rfl ?_
          refine Cov.region_end ?_
          cases r56
          refine Cov.pull 1 rfl [_, _] rfl ?_
          refine Cov.retSD 1 (c := ⟨12, none⟩) (.inr ⟨_, rfl⟩) [.cell 2 46] [_] rfl Try.func12 Try.results12 ⟨RV.cell_a 0 [_, _, _, _] rfl rfl ty46 rfl, trivial⟩ (fun _ h => List.mem_cons_of_mem _ h) ⟨a40, k41, rfl, rfl, rfl, s42⟩
      · intro hb45
        refine Cov.split 22 rfl (fun c46 => ?_) (fun c46 => ?_)
        · have r57 := ifT h43 c46
          refine Cov.g_off rfl rfl rfl ?_
          refine Cov.g_off rfl rfl rfl ?_
          refine Cov.g_off rfl rfl rfl ?_
          refine Cov.q .ro (.pick_t rfl rfl) rfl ?_
          obtain rfl := Option.some.inj r57
          refine Cov.prune _ ?_ (Cov.same rfl rfl rfl (hb45 (a13, k14) s15))
          exact ⟨rfl, rfl, rfl, rfl, trivial⟩
        · have r58 := ifF h43 c46
          refine Cov.g_on rfl ?_
          refine Cov.q .ro (.move rfl) rfl ?_
          refine Cov.g_on rfl ?_
          obtain ⟨u59, hu59, r60⟩ := bind_some r58; clear r58
          refine Cov.callS (b1 := [_]) (b2 := [_]) (s1 := []) [_, _] [] .ro rfl rfl Try.call8 rfl rfl (play_Dice_Pick_c (G := G) List.mem_cons_self s15 hu59) rfl (fun v62 bo so h61 => ?_)
          obtain ⟨a63, k64, rfl, rfl, rfl, s65⟩ := h61
          refine Cov.same (bl' := [_, _]) (sl' := []) rfl rfl rfl ?_
          refine Cov.g_on rfl ?_
          refine Cov.q .ro (.eql rfl rfl) rfl ?_
          refine Cov.q .ro (.pick_f rfl rfl) rfl ?_
          obtain rfl := Option.some.inj r60
          refine Cov.prune _ ?_ (Cov.same rfl rfl rfl (hb45 (a63, k64) s65))
          exact ⟨rfl, rfl, rfl, rfl, trivial⟩
set_option maxHeartbeats 4000000 in
set_option maxRecDepth 100000 in
theorem cuckoo_Layout_c {Fs : List Hp} {G : Hp} {x0_0 : Int} {a0_1 : Option Addr} {k0_1 : Nat} {x0_1 : List (Int × Int)} {x1 : Int} {r : ((List (List Int)) × Int)} (hG : G ∈ Fs) (s0_1 : SlR (Rep.pair (Rep.int .i64) (Rep.int .i64)) G a0_1 k0_1 x0_1) (h : cuckoo_Layout (x0_0, x0_1) x1 = some r) : RetW Try.prog 26 #[.agg #[.int .i64 x0_0, .slice a0_1 x0_1.length k0_1], .int .i64 x1] Fs [] [] (fun v bo so G => ∃ a0 : Option Addr, ∃ k0 : Nat, v = .tuple #[.slice a0 r.1.length k0, .int .i64 r.2] ∧ bo = [] ∧ so = [] ∧ SlR (Rep.sl (Rep.int .i64)) G a0 k0 r.1) := by
  unfold cuckoo_Layout at h
  try dsimp only at h
  refine RetW.of (vs := [_, _]) Try.func26 rfl Try.ntmps26 [(0, _), (1, _)] ⟨rfl, rfl, trivial⟩ rfl hG fun w0 S0 hS0 B0 => ?_
  refine Cov.seq ?_
  refine Cov.region rfl ?_
  refine Cov.box [_, _] .ro rfl rfl rfl (fun b1 hb1 => ?_)
  refine Cov.q .ro (.assign rfl) rfl ?_
  refine Cov.q .ro (.assign rfl) rfl ?_
  refine Cov.region_end ?_
  refine Cov.seq ?_
  refine Cov.seq ?_
  refine Cov.region rfl ?_
  refine Cov.q .ro (.load_own_a 0 [_, _] rfl rfl ty28 rfl) rfl ?_
  obtain ⟨u2, hu2, r3⟩ := bind_some h; clear h
  refine Cov.callS (b1 := []) (b2 := [_]) (s1 := []) [_] [] .ro rfl rfl Try.call30 rfl rfl (cuckoo_Check_c (G := G) List.mem_cons_self s0_1 hu2) rfl (fun v5 bo so h4 => ?_)
  obtain ⟨rfl, rfl, rfl⟩ := h4
  refine Cov.same (bl' := [_]) (sl' := []) rfl rfl rfl ?_
  refine Cov.q .ro (.assign rfl) rfl ?_
  refine Cov.region_end ?_
  refine Cov.seq ?_
  refine Cov.region rfl ?_
  refine Cov.q .ro (.move rfl) rfl ?_
  refine Cov.q .ro (.neq rfl rfl) rfl ?_
  refine Cov.region_end ?_
  refine Cov.cond_dec rfl (fun c6 => ?_) (fun c6 => ?_)
  · have r7 := ifT r3 c6; clear r3
    refine Cov.seq ?_
    refine Cov.region rfl ?_
    refine Cov.q .ro (.move rfl) rfl ?_
    refine Cov.q .ro (.assign rfl) rfl ?_
    refine Cov.q .ro (.assign rfl) rfl ?_
    refine Cov.region_end ?_
    cases r7
    refine Cov.drop 1 0 [] _ rfl rfl ?_
    refine Cov.retW (c := ⟨26, none⟩) (.inr ⟨_, rfl⟩) [.tmp 4, .tmp 5] [_, _] rfl Try.func26 Try.results26 ⟨RV.tmp rfl, RV.tmp rfl, trivial⟩ (fun _ h => List.mem_cons_of_mem _ h) List.mem_cons_self B0 (by subst hS0; simp [blks]) (fun G' hg => ⟨none, 0, rfl, rfl, rfl, (SlR.mono hg (SlR.nil (Rp' := (Rep.sl (Rep.int .i64)))))⟩)
  · have r8 := ifF r3 c6; clear r3
    refine Cov.skip ?_
    refine Cov.seq ?_
    refine Cov.seq ?_
    refine Cov.region rfl ?_
    refine Cov.q .ro (.move rfl) rfl ?_
    refine Cov.q .ro (.lss rfl rfl) rfl ?_
    refine Cov.q .ro (.move rfl) rfl ?_
    refine Cov.cutR 3 (β := Unit) (fun y => [(22, .bool (decide ((x1 < 0) ∨ (1024 < x1))))]) [(1, _), (2, _)] (fun y => G :: Fs) (fun y => []) [_] (fun y => []) [] (fun y => True) ⟨rfl, rfl, trivial⟩ [0] rfl [] rfl ?_ ?_
    · rintro _ _
      refine Cov.prune [(22, .bool (decide ((x1 < 0) ∨ (1024 < x1)))), (1, _), (2, _)] ⟨rfl, rfl, rfl, trivial⟩ ?_
      refine Cov.same (bl' := [_]) (sl' := []) (Fs' := G :: Fs) rfl rfl rfl ?_
      refine Cov.region_end ?_
      refine Cov.cond_dec rfl (fun c13 => ?_) (fun c13 => ?_)
      · have r14 := ifT r8 c13; clear r8
        refine Cov.seq ?_
        refine Cov.region rfl ?_
        refine Cov.q .ro (.assign rfl) rfl ?_
        refine Cov.q .ro (.assign rfl) rfl ?_
        refine Cov.region_end ?_
        cases r14
        refine Cov.drop 1 0 [] _ rfl rfl ?_
        refine Cov.retW (c := ⟨26, none⟩) (.inr ⟨_, rfl⟩) [.tmp 4, .tmp 5] [_, _] rfl Try.func26 Try.results26 ⟨RV.tmp rfl, RV.tmp rfl, trivial⟩ (fun _ h => List.mem_cons_of_mem _ h) List.mem_cons_self B0 (by subst hS0; simp [blks]) (fun G' hg => ⟨none, 0, rfl, rfl, rfl, (SlR.mono hg (SlR.nil (Rp' := (Rep.sl (Rep.int .i64)))))⟩)
      · have r15 := ifF r8 c13; clear r8
        refine Cov.skip ?_
        refine Cov.seq ?_
        refine Cov.region rfl ?_
        refine Cov.q .ro (.fieldAddr 0 rfl fl28_0 ty3.sz rfl) rfl ?_
        refine Cov.q .ro (.load_own 0 rfl rfl ty3 rfl) rfl ?_
        obtain ⟨u16, hu16, r17⟩ := bind_some r15; clear r15
        refine Cov.makeN (G := G) (Q := (Rep.int .i64)) 3 1 .ro sl34 ty35 rfl rfl hu16 rfl rfl (fun b18 es19 cs20 hb18 o21 => ?_)
        refine Cov.q .ro (.assign rfl) rfl ?_
        refine Cov.region_end ?_
        refine Cov.seq ?_
        refine Cov.seq ?_
        refine Cov.region rfl ?_
        refine Cov.q .ro (.move rfl) rfl ?_
        refine Cov.q .ro (.move rfl) rfl ?_
        refine Cov.region_end ?_
        refine Cov.block ?_
        refine Cov.pullS 1 rfl [_, _] rfl ?_
        refine Cov.pullS 1 rfl [_, _] rfl ?_
        refine Cov.loop2 (α := Nat × Hp × Int × List (List Int) × List NE × List Value × Int) (fun y => [(27, .int .i64 y.2.2.1), (7, .slice (some ⟨b18, 0, none⟩) y.2.2.2.1.length u16.length)]) [(2, _), (26, _)] (fun y => [y.2.1]) (fun y => [(b1, .cells #[.int .i64 y.2.2.2.2.2.2, .slice a0_1 x0_1.length k0_1] 28 (0, 0))]) [] (fun y => [.s (.slice (some ⟨b18, 0, none⟩) y.2.2.2.1.length u16.length) 35 1 y.2.2.2.1.length y.2.2.2.2.2.1, .g (packG 3 1 y.2.2.2.2.1)]) [] (fun y => HpLe G y.2.1 ∧ Bd w0 S0 Fs y.2.1 ∧ NL (Rep.int .i64) y.2.1 y.2.2.2.2.1 y.2.2.2.2.2.1 y.2.2.2.1 ∧ y.2.2.2.1.length = u16.length ∧ cuckoo_Layout_L2 x1 x0_1 y.1 y.2.2.1 y.2.2.2.1 y.2.2.2.2.2.2 = some r) (fun y => y.1) (big, G, 0, u16, es19, cs20, x0_0) ⟨(HpLe.refl _), B0, o21, rfl, r17⟩ ⟨rfl, rfl, rfl, rfl, trivial⟩ rfl rfl rfl (fun y hI hb216 => ?_)
        obtain ⟨n200, G202, v206, v207, es208, cs209, v214⟩ := y
        obtain ⟨e203, B204, o210, hl211, r215⟩ := hI
        try dsimp only at e203 B204 o210 hl211 r215
        refine Cov.prune [(27, .int .i64 v206), (7, .slice (some ⟨b18, 0, none⟩) v207.length u16.length), (2, _), (26, _)] ⟨rfl, rfl, rfl, rfl, trivial⟩ ?_
        refine Cov.same (bl' := [(b1, .cells #[.int .i64 v214, .slice a0_1 x0_1.length k0_1] 28 (0, 0))]) (sl' := [.s (.slice (some ⟨b18, 0, none⟩) v207.length u16.length) 35 1 v207.length cs209, .g (packG 3 1 es208)]) (Fs' := G202 :: Fs) rfl rfl rfl ?_
        obtain ⟨m220, rfl⟩ : ∃ m, n200 = m + 1 := by cases n200 with | zero => exact absurd (show (none : Option _) = some _ from r215) (by simp) | succ m => exact ⟨m, rfl⟩
        have r219 : cuckoo_Layout_B2 x1 x0_1 (cuckoo_Layout_L2 x1 x0_1 m220) v206 v207 v214 = some r := r215; clear r215; unfold cuckoo_Layout_B2 at r219; try dsimp only at r219
        refine Cov.seq ?_
        refine Cov.region rfl ?_
        refine Cov.q .ro (.lss rfl rfl) rfl ?_
        refine Cov.region_end ?_
        refine Cov.seq ?_
        refine Cov.cond_dec rfl (fun c221 => ?_) (fun c221 => ?_)
        · have r222 := ifT r219 c221; clear r219
          refine Cov.skip ?_
          refine Cov.seq ?_
          refine Cov.block ?_
          refine Cov.seq ?_
          refine Cov.region rfl ?_
          refine Cov.q .ro (.move rfl) rfl ?_
          refine Cov.q .ro (.assign rfl) rfl ?_
          refine Cov.region_end ?_
          refine Cov.seq ?_
          refine Cov.region rfl ?_
          refine Cov.q .ro (.load_own_a 0 [_, _] rfl rfl ty28 rfl) rfl ?_
          refine Cov.q .ro (.move rfl) rfl ?_
          obtain ⟨u223, hu223, r224⟩ := bind_some r222; clear r222
          refine Cov.callS (b1 := []) (b2 := [_]) (s1 := []) [_, _] [] .ro rfl rfl Try.call43 rfl rfl (cuckoo_homes_c (G := G202) List.mem_cons_self (SlR.mono e203 s0_1) hu223) rfl (fun v226 bo so h225 => ?_)
          obtain ⟨a228, k229, cs230, rfl, rfl, rfl, o231⟩ := h225
          refine Cov.same (bl' := [_]) (sl' := [_, _, _]) rfl rfl rfl ?_
          refine Cov.q .ro (.len_sl rfl rfl sl35) rfl ?_
          refine Cov.q .ro (.move rfl) rfl ?_
          refine Cov.region_end ?_
          refine Cov.block ?_
          refine Cov.pullS 2 rfl [_, _, _] rfl ?_
          refine Cov.pullS 2 rfl [_, _, _] rfl ?_
          refine Cov.loop2 (α := Nat × List Int × Hp × List (List Int) × List NE × List Value) (fun y => [(7, .slice (some ⟨b18, 0, none⟩) y.2.2.2.1.length u16.length), (34, .int .i64 (y.1 : Int))]) [(27, _), (2, _), (26, _), (8, _), (32, _), (33, _)] (fun y => [y.2.2.1]) (fun y => []) [_] (fun y => [.s (.slice (some ⟨b18, 0, none⟩) y.2.2.2.1.length u16.length) 35 1 y.2.2.2.1.length y.2.2.2.2.2, .g (packG 3 1 y.2.2.2.2.1)]) [_] (fun y => HpLe G202 y.2.2.1 ∧ Bd w0 S0 Fs y.2.2.1 ∧ NL (Rep.int .i64) y.2.2.1 y.2.2.2.2.1 y.2.2.2.2.2 y.2.2.2.1 ∧ y.2.2.2.1.length = u16.length ∧ List.drop y.1 u223 = y.2.1 ∧ cuckoo_Layout_L1 (cuckoo_Layout_L2 x1 x0_1 m220) v206 v214 y.2.1 y.2.2.2.1 = some r) (fun y => y.2.1.length) (0, u223, G202, v207, es208, cs209) ⟨(HpLe.refl _), B204, o210, hl211, rfl, r224⟩ ⟨rfl, rfl, rfl, rfl, rfl, rfl, rfl, rfl, trivial⟩ rfl rfl rfl (fun y hI hb317 => ?_)
          obtain ⟨i302, w303, G305, v309, es310, cs311⟩ := y
          obtain ⟨e306, B307, o312, hl313, g304, r316⟩ := hI
          try dsimp only at e306 B307 o312 hl313 g304 r316
          refine Cov.prune [(7, .slice (some ⟨b18, 0, none⟩) v309.length u16.length), (34, .int .i64 (i302 : Int)), (27, _), (2, _), (26, _), (8, _), (32, _), (33, _)] ⟨rfl, rfl, rfl, rfl, rfl, rfl, rfl, rfl, trivial⟩ ?_
          refine Cov.same (bl' := [_]) (sl' := [.s (.slice (some ⟨b18, 0, none⟩) v309.length u16.length) 35 1 v309.length cs311, .g (packG 3 1 es310), _]) (Fs' := G305 :: Fs) rfl rfl rfl ?_
          cases w303 with
          | nil =>
            rw [cuckoo_Layout_L1] at r316; try dsimp only at r316
            refine Cov.seq ?_
            refine Cov.region rfl ?_
            refine Cov.q .ro (.lss rfl rfl) rfl ?_
            refine Cov.region_end ?_
            refine Cov.seq ?_
            refine Cov.cond_dec rfl (fun c => absurd c (drop_nil g304)) (fun _ => ?_)
            refine Cov.exit rfl ?_
            refine Cov.inBlock ?_
            refine Cov.region rfl ?_
            refine Cov.q .ro (.addw rfl rfl) rfl ?_
            refine Cov.q .ro (.move rfl) rfl ?_
            refine Cov.region_end ?_
            refine Cov.pullS 1 rfl [_, _, _] rfl ?_
            refine Cov.pullS 1 rfl [_, _, _] rfl ?_
            refine Cov.pullS 2 rfl [_, _, _] rfl ?_
            refine Cov.drop 0 1 _ [_, _] rfl rfl ?_
            refine Cov.prune _ ?_ (Cov.same rfl rfl rfl (hb216 (m220, G305, (w64 (v206 + 1)), v309, es310, cs311, v214) ⟨(HpLe.trans e203 e306), B307, o312, hl313, r316⟩ (Nat.lt_succ_self _)))
            exact ⟨rfl, rfl, rfl, rfl, trivial⟩
          | cons x325 xs326 =>
            have r324 : cuckoo_Layout_B1 (cuckoo_Layout_L2 x1 x0_1 m220) v206 v214 (cuckoo_Layout_L1 (cuckoo_Layout_L2 x1 x0_1 m220) v206 v214 xs326) x325 v309 = some r := r316; clear r316; unfold cuckoo_Layout_B1 at r324; try dsimp only at r324
            refine Cov.seq ?_
            refine Cov.region rfl ?_
            refine Cov.q .ro (.lss rfl rfl) rfl ?_
            refine Cov.region_end ?_
            refine Cov.seq ?_
            refine Cov.cond_dec rfl (fun _ => ?_) (fun c => absurd (drop_lt g304) c)
            refine Cov.skip ?_
            refine Cov.seq ?_
            refine Cov.block ?_
            refine Cov.seq ?_
            refine Cov.region rfl ?_
            obtain ⟨c327, p328, h329⟩ := OL.get (OL.mono e306 o231) (drop_idx g304)
            obtain rfl := h329
            refine Cov.q .ro (.idxO 2 rfl rfl rfl (drop_idx g304) sl35 ty3.sz) rfl ?_
            refine Cov.q .ro (.loadO 2 0 rfl (drop_idx g304) p328 rfl (.inl ⟨rfl, rfl⟩) ty3 rfl) rfl ?_
            refine Cov.q .ro (.assign rfl) rfl ?_
            refine Cov.region_end ?_
            refine Cov.seq ?_
            refine Cov.region rfl ?_
            refine Cov.q .ro (.move rfl) rfl ?_
            refine Cov.q .ro (.move rfl) rfl ?_
            obtain ⟨u330, hu330, r331⟩ := bind_some r324; clear r324
            obtain ⟨e332, he333, hn334, ho335, p336⟩ := NL.get o312 hu330
            refine Cov.q .ro (.idxO 0 rfl rfl rfl hu330 sl34 ty35.sz) rfl ?_
            refine Cov.q .ro (.loadO 0 0 rfl hu330 p336 rfl (.inl ⟨rfl, rfl⟩) ty35 rfl) rfl ?_
            refine Cov.q .ro (.assign rfl) rfl ?_
            refine Cov.region_end ?_
            refine Cov.seq ?_
            refine Cov.region rfl ?_
            refine Cov.q .ro (.move rfl) rfl ?_
            refine Cov.q .ro (.len_sl rfl rfl sl35) rfl ?_
            refine Cov.q .ro (.eql rfl rfl) rfl ?_
            refine Cov.q .ro (.move rfl) rfl ?_
            obtain ⟨u344, h345, r346⟩ := bind_some r331; clear r331
            refine Cov.cutR 9 (β := Unit) (fun y => [(54, .bool u344)]) [(7, _), (34, _), (27, _), (2, _), (26, _), (8, _), (32, _), (33, _), (10, _), (11, _)] (fun y => G305 :: Fs) (fun y => []) [_] (fun y => []) [_, _, _] (fun y => True) ⟨rfl, rfl, rfl, rfl, rfl, rfl, rfl, rfl, rfl, rfl, trivial⟩ [0] rfl [0, 1, 2] rfl ?_ ?_
            · rintro _ _
              refine Cov.prune [(54, .bool u344), (7, _), (34, _), (27, _), (2, _), (26, _), (8, _), (32, _), (33, _), (10, _), (11, _)] ⟨rfl, rfl, rfl, rfl, rfl, rfl, rfl, rfl, rfl, rfl, rfl, trivial⟩ ?_
              refine Cov.same (bl' := [_]) (sl' := [_, _, _]) (Fs' := G305 :: Fs) rfl rfl rfl ?_
              refine Cov.region_end ?_
              refine Cov.cond rfl (fun c349 => ?_) (fun c349 => ?_)
              · have r350 := ifT r346 c349; clear r346
                refine Cov.region rfl ?_
                refine Cov.q .ro (.move rfl) rfl ?_
                refine Cov.q .ro (.move rfl) rfl ?_
                refine Cov.q .ro (.move rfl) rfl ?_
                refine Cov.q .ro (.move rfl) rfl ?_
                refine Cov.lit [_] [(0, _)] .ro sl35 ty3 rfl rfl rfl rfl rfl rfl (fun b351 hb351 => ?_)
                have o352 : OL (Rep.int .i64) G305 [.int .i64 v206] ([v206] : List Int) := ((OL.cons rfl (Rep.intI .i64 v206) (OL.nil (Rp' := (Rep.int .i64)))) :)
                refine Cov.reval 59 (n' := ([v206] : List Int).length) rfl rfl ?_
                refine Cov.freezeR 0 rfl rfl o352 [_, _, _] rfl B307 (fun G354 e355 B356 s357 => ?_)
                refine Cov.takeN 1 rfl he333 hn334 ?_
                obtain ⟨u364, hu364, r365⟩ := bind_some r350; clear r350
                refine Cov.appR (Q := (Rep.int .i64)) 0 .ro sl35 ty3 rfl rfl rfl rfl rfl (OL.mono e355 ho335) rfl rfl s357 rfl List.mem_cons_self hu364 rfl (fun a360 k361 cs362 o363 => ?_)
                obtain ⟨u367, hu367, r368⟩ := bind_some r365; clear r365
                obtain ⟨e369, he370, hn371, ho372, p373⟩ := NL.get (NL.mono e355 o312) hu367
                refine Cov.q .ro (.idxO 1 rfl rfl rfl hu367 sl34 ty35.sz) rfl ?_
                obtain ⟨u374, hu374, r375⟩ := bind_some r368; clear r368
                refine Cov.storeN 0 1 (Q := (Rep.int .i64)) .ro rfl rfl rfl (NL.mono e355 o312) he333 o363 hu374 rfl (.inl ⟨rfl, rfl⟩) rfl ty35 rfl (fun es376 cs377 hlcs377 o378 => ?_)
                refine Cov.reval 7 hlcs377 rfl ?_
                refine Cov.reval 55 hlcs377 rfl ?_
                refine Cov.region_end ?_
                refine Cov.inBlock ?_
                refine Cov.region rfl ?_
                refine Cov.q .ro (.addw rfl rfl) rfl ?_
                refine Cov.q .ro (.move rfl) rfl ?_
                refine Cov.region_end ?_
                refine Cov.prune _ ?_ (Cov.same rfl rfl rfl (hb317 ((i302 + 1), xs326, G354, u374, es376, cs377) ⟨(HpLe.trans e306 e355), B356, o378, (hlcs377.trans hl313), (drop_succ g304), r375⟩ (Nat.lt_succ_self _)))
                exact ⟨rfl, (congrArg (fun z => some (Value.int .i64 z)) (idx_wrap (OL.len' o231) g304)), rfl, rfl, rfl, rfl, rfl, rfl, trivial⟩
              · have r380 := ifBF r346 c349; clear r346
                refine Cov.skip ?_
                refine Cov.inBlock ?_
                refine Cov.region rfl ?_
                refine Cov.q .ro (.addw rfl rfl) rfl ?_
                refine Cov.q .ro (.move rfl) rfl ?_
                refine Cov.region_end ?_
                refine Cov.prune _ ?_ (Cov.same rfl rfl rfl (hb317 ((i302 + 1), xs326, G305, v309, es310, cs311) ⟨e306, B307, o312, hl313, (drop_succ g304), r380⟩ (Nat.lt_succ_self _)))
                exact ⟨rfl, (congrArg (fun z => some (Value.int .i64 z)) (idx_wrap (OL.len' o231) g304)), rfl, rfl, rfl, rfl, rfl, rfl, trivial⟩
            · intro hb343
              refine Cov.split 45 rfl (fun c342 => ?_) (fun c342 => ?_)
              · have r381 := ifT h345 c342
                refine Cov.g_off rfl rfl rfl ?_
                refine Cov.g_off rfl rfl rfl ?_
                refine Cov.g_off rfl rfl rfl ?_
                refine Cov.g_off rfl rfl rfl ?_
                refine Cov.g_off rfl rfl rfl ?_
                refine Cov.g_off rfl rfl rfl ?_
                refine Cov.g_off rfl rfl rfl ?_
                refine Cov.g_off rfl rfl rfl ?_
                refine Cov.q .ro (.pick_t rfl rfl) rfl ?_
                refine Cov.prune _ ?_ (Cov.same rfl rfl rfl (hb343 () trivial))
                exact ⟨sval r381, rfl, rfl, rfl, rfl, rfl, rfl, rfl, rfl, rfl, rfl, trivial⟩
              · have r382 := ifF h345 c342
                refine Cov.g_on rfl ?_
                refine Cov.q .ro (.move rfl) rfl ?_
                refine Cov.g_on rfl ?_
                refine Cov.q .ro (.move rfl) rfl ?_
                refine Cov.g_on rfl ?_
                refine Cov.q .ro (.len_sl rfl rfl sl35) rfl ?_
                refine Cov.g_on rfl ?_
                refine Cov.q .ro (.subw rfl rfl) rfl ?_
                refine Cov.g_on rfl ?_
                obtain ⟨u383, hu383, r384⟩ := bind_some r382; clear r382
                obtain ⟨c385, p386, h387⟩ := OL.get ho335 hu383
                obtain rfl := h387
                refine Cov.q .ro (.inN 1 rfl he333 hn334 (.idxO (l := u330) 0 rfl rfl rfl hu383 sl35 ty3.sz)) rfl ?_
                refine Cov.g_on rfl ?_
                refine Cov.q .ro (.inN 1 rfl he333 hn334 (.loadO (l := u330) 0 0 rfl hu383 p386 rfl (.inl ⟨rfl, rfl⟩) ty3 rfl)) rfl ?_
                refine Cov.g_on rfl ?_
                refine Cov.q .ro (.move rfl) rfl ?_
                refine Cov.g_on rfl ?_
                refine Cov.q .ro (.neq rfl rfl) rfl ?_
                refine Cov.q .ro (.pick_f rfl rfl) rfl ?_
                refine Cov.prune _ ?_ (Cov.same rfl rfl rfl (hb343 () trivial))
                exact ⟨sval r384, rfl, rfl, rfl, rfl, rfl, rfl, rfl, rfl, rfl, rfl, trivial⟩
        · have r388 := ifF r219 c221; clear r219
          refine Cov.exit rfl ?_
          refine Cov.seq ?_
          refine Cov.region rfl ?_
          refine Cov.q .ro (.move rfl) rfl ?_
          refine Cov.q .ro (.assign rfl) rfl ?_
          refine Cov.q .ro (.assign rfl) rfl ?_
          refine Cov.region_end ?_
          refine Cov.pullS 1 rfl [_, _] rfl ?_
          refine Cov.pullS 1 rfl [_, _] rfl ?_
          refine Cov.freezeN (Q := (Rep.int .i64)) rfl o210 rfl B204 (fun G389 e390 B391 s392 => ?_)
          cases r388
          refine Cov.drop 1 0 [] _ rfl rfl ?_
          refine Cov.retW (c := ⟨26, none⟩) (.inr ⟨_, rfl⟩) [.tmp 4, .tmp 5] [_, _] rfl Try.func26 Try.results26 ⟨RV.tmp rfl, RV.tmp rfl, trivial⟩ (fun _ h => List.mem_cons_of_mem _ h) List.mem_cons_self B391 (by subst hS0; simp [blks]) (fun G' hg => ⟨(some ⟨b18, 0, none⟩), u16.length, rfl, rfl, rfl, (SlR.mono hg s392)⟩)
    · intro hb10
      refine Cov.split 19 rfl (fun c9 => ?_) (fun c9 => ?_)
      · refine Cov.g_off rfl rfl rfl ?_
        refine Cov.g_off rfl rfl rfl ?_
        refine Cov.q .ro (.pick_t rfl rfl) rfl ?_
        refine Cov.prune _ ?_ (Cov.same rfl rfl rfl (hb10 () trivial))
        exact ⟨dor_t c9, rfl, rfl, trivial⟩
      · refine Cov.g_on rfl ?_
        refine Cov.q .ro (.move rfl) rfl ?_
        refine Cov.g_on rfl ?_
        refine Cov.q .ro (.gtr rfl rfl) rfl ?_
        refine Cov.q .ro (.pick_f rfl rfl) rfl ?_
        refine Cov.prune _ ?_ (Cov.same rfl rfl rfl (hb10 () trivial))
        exact ⟨dor_f c9, rfl, rfl, trivial⟩
set_option maxHeartbeats 4000000 in
set_option maxRecDepth 100000 in
theorem scheme_Units_c {Fs : List Hp} {G : Hp} {x0_0 : Int} {x0_1 : Int} {x0_2 : Int} {x0_3 : Int} {x1 : Int} {r : Int} (hG : G ∈ Fs)  (h : scheme_Units (x0_0, x0_1, x0_2, x0_3) x1 = some r) : RetS Try.prog 58 #[.agg #[.int .i64 x0_0, .int .i64 x0_1, .int .i64 x0_2, .int .i64 x0_3], .int .i64 x1] Fs [] [] (fun v bo so => v = .int .i64 r ∧ bo = [] ∧ so = []) := by
  unfold scheme_Units at h
  try dsimp only at h
  refine RetS.of (vs := [_, _]) Try.func58 rfl Try.ntmps58 [(0, _), (1, _)] ⟨rfl, rfl, trivial⟩ rfl hG fun w0 S0 hS0 B0 => ?_
  refine Cov.seq ?_
  refine Cov.region rfl ?_
  refine Cov.box [_, _, _, _] .ro rfl rfl rfl (fun b1 hb1 => ?_)
  refine Cov.q .ro (.assign rfl) rfl ?_
  refine Cov.region_end ?_
  refine Cov.seq ?_
  refine Cov.block ?_
  refine Cov.seq ?_
  refine Cov.region rfl ?_
  refine Cov.q .ro (.load_own_a 0 [_, _, _, _] rfl rfl ty46 rfl) rfl ?_
  obtain ⟨u2, hu2, r3⟩ := bind_some h; clear h
  refine Cov.callS (b1 := []) (b2 := [_]) (s1 := []) [_] [] .ro rfl rfl Try.call57 rfl rfl (scheme_Shape_c (G := G) List.mem_cons_self  hu2) rfl (fun v5 bo so h4 => ?_)
  obtain ⟨rfl, rfl, rfl⟩ := h4
  refine Cov.same (bl' := [_]) (sl' := []) rfl rfl rfl ?_
  refine Cov.q .ro (.not rfl) rfl ?_
  refine Cov.q .ro (.move rfl) rfl ?_
  obtain ⟨u12, h13, r14⟩ := bind_some r3; clear r3
  refine Cov.cutR 4 (β := Unit) (fun y => [(13, .bool u12)]) [(1, _), (2, _)] (fun y => G :: Fs) (fun y => []) [_] (fun y => []) [] (fun y => True) ⟨rfl, rfl, trivial⟩ [0] rfl [] rfl ?_ ?_
  · rintro _ _
    refine Cov.prune [(13, .bool u12), (1, _), (2, _)] ⟨rfl, rfl, rfl, trivial⟩ ?_
    refine Cov.same (bl' := [_]) (sl' := []) (Fs' := G :: Fs) rfl rfl rfl ?_
    refine Cov.q .ro (.assign rfl) rfl ?_
    refine Cov.region_end ?_
    refine Cov.cond rfl (fun c17 => ?_) (fun c17 => ?_)
    · have r18 := ifT r14 c17; clear r14
      refine Cov.seq ?_
      refine Cov.region rfl ?_
      refine Cov.q .ro (.assign rfl) rfl ?_
      refine Cov.region_end ?_
      cases r18
      refine Cov.drop 1 0 [] _ rfl rfl ?_
      refine Cov.retS (c := ⟨58, none⟩) (.inr ⟨_, rfl⟩) [.tmp 4] [_] rfl Try.func58 Try.results58 ⟨RV.tmp rfl, trivial⟩ (fun _ h => List.mem_cons_of_mem _ h) ⟨rfl, rfl, rfl⟩
    · have r19 := ifBF r14 c17; clear r14
      refine Cov.seq ?_
      refine Cov.region rfl ?_
      refine Cov.q .ro (.fieldAddr 0 rfl fl46_0 ty3.sz rfl) rfl ?_
      refine Cov.q .ro (.load_own 0 rfl rfl ty3 rfl) rfl ?_
      refine Cov.q .ro (.eql rfl rfl) rfl ?_
      refine Cov.q .ro (.assign rfl) rfl ?_
      refine Cov.region_end ?_
      refine Cov.cond_dec rfl (fun c20 => ?_) (fun c20 => ?_)
      · have r21 := ifT r19 c20; clear r19
        refine Cov.seq ?_
        refine Cov.region rfl ?_
        refine Cov.q .ro (.load_own_a 0 [_, _, _, _] rfl rfl ty46 rfl) rfl ?_
        obtain ⟨u22, hu22, r23⟩ := bind_some r21; clear r21
        refine Cov.callS (b1 := []) (b2 := [_]) (s1 := []) [_] [] .ro rfl rfl Try.call65 rfl rfl (scheme_storage_c (G := G) List.mem_cons_self  hu22) rfl (fun v25 bo so h24 => ?_)
        obtain ⟨rfl, rfl, rfl⟩ := h24
        refine Cov.same (bl' := [_]) (sl' := []) rfl rfl rfl ?_
        refine Cov.q .ro (.move rfl) rfl ?_
        obtain ⟨u26, hu26, r27⟩ := bind_some r23; clear r23
        refine Cov.callS (b1 := []) (b2 := [_]) (s1 := []) [_, _] [] .ro rfl rfl Try.call66 rfl rfl (scheme_groups_units_c (G := G) List.mem_cons_self  hu26) rfl (fun v29 bo so h28 => ?_)
        obtain ⟨rfl, rfl, rfl⟩ := h28
        refine Cov.same (bl' := [_]) (sl' := []) rfl rfl rfl ?_
        refine Cov.q .ro (.assign rfl) rfl ?_
        refine Cov.region_end ?_
        cases r27
        refine Cov.drop 1 0 [] _ rfl rfl ?_
        refine Cov.retS (c := ⟨58, none⟩) (.inr ⟨_, rfl⟩) [.tmp 4] [_] rfl Try.func58 Try.results58 ⟨RV.tmp rfl, trivial⟩ (fun _ h => List.mem_cons_of_mem _ h) ⟨rfl, rfl, rfl⟩
      · have r30 := ifF r19 c20; clear r19
        refine Cov.skip ?_
        refine Cov.inBlock ?_
        refine Cov.seq ?_
        refine Cov.region rfl ?_
        refine Cov.q .ro (.move rfl) rfl ?_
        refine Cov.q .ro (.assign rfl) rfl ?_
        refine Cov.region_end ?_
        cases r30
        refine Cov.drop 1 0 [] _ rfl rfl ?_
        refine Cov.retS (c := ⟨58, none⟩) (.inr ⟨_, rfl⟩) [.tmp 4] [_] rfl Try.func58 Try.results58 ⟨RV.tmp rfl, trivial⟩ (fun _ h => List.mem_cons_of_mem _ h) ⟨rfl, rfl, rfl⟩
  · intro hb11
    refine Cov.split_b 9 rfl (fun c10 => ?_) (fun c10 => ?_)
    · have r31 := ifT h13 c10
      refine Cov.g_off rfl rfl rfl ?_
      refine Cov.g_off rfl rfl rfl ?_
      refine Cov.g_off rfl rfl rfl ?_
      refine Cov.q .ro (.pick_t rfl rfl) rfl ?_
      refine Cov.prune _ ?_ (Cov.same rfl rfl rfl (hb11 () trivial))
      exact ⟨sval r31, rfl, rfl, trivial⟩
    · have r32 := ifBF h13 c10
      refine Cov.g_on rfl ?_
      refine Cov.q .ro (.move rfl) rfl ?_
      refine Cov.g_on rfl ?_
      obtain ⟨u33, hu33, r34⟩ := bind_some r32; clear r32
      refine Cov.callS (b1 := []) (b2 := [_]) (s1 := []) [_, _, _] [] .ro rfl rfl Try.call64 rfl rfl (scheme_within_c (G := G) List.mem_cons_self  hu33) rfl (fun v36 bo so h35 => ?_)
      obtain ⟨rfl, rfl, rfl⟩ := h35
      refine Cov.same (bl' := [_]) (sl' := []) rfl rfl rfl ?_
      refine Cov.g_on rfl ?_
      refine Cov.q .ro (.not rfl) rfl ?_
      refine Cov.q .ro (.pick_f rfl rfl) rfl ?_
      refine Cov.prune _ ?_ (Cov.same rfl rfl rfl (hb11 () trivial))
      exact ⟨sval r34, rfl, rfl, trivial⟩
set_option maxHeartbeats 4000000 in
set_option maxRecDepth 100000 in
theorem cost_Units_c {Fs : List Hp} {G : Hp} {x0_0 : Int} {x0_1 : Int} {x0_2 : Int} {x0_3 : Int} {x1 : Int} {r : (Int × Int)} (hG : G ∈ Fs)  (h : cost_Units (x0_0, x0_1, x0_2, x0_3) x1 = some r) : RetS Try.prog 44 #[.agg #[.int .i64 x0_0, .int .i64 x0_1, .int .i64 x0_2, .int .i64 x0_3], .int .i64 x1] Fs [] [] (fun v bo so => v = .tuple #[.int .i64 r.1, .int .i64 r.2] ∧ bo = [] ∧ so = []) := by
  unfold cost_Units at h
  try dsimp only at h
  refine RetS.of (vs := [_, _]) Try.func44 rfl Try.ntmps44 [(0, _), (1, _)] ⟨rfl, rfl, trivial⟩ rfl hG fun w0 S0 hS0 B0 => ?_
  refine Cov.seq ?_
  refine Cov.region rfl ?_
  refine Cov.box [_, _, _, _] .ro rfl rfl rfl (fun b1 hb1 => ?_)
  refine Cov.q .ro (.assign rfl) rfl ?_
  refine Cov.q .ro (.assign rfl) rfl ?_
  refine Cov.region_end ?_
  refine Cov.seq ?_
  refine Cov.block ?_
  refine Cov.seq ?_
  refine Cov.region rfl ?_
  refine Cov.q .ro (.load_own_a 0 [_, _, _, _] rfl rfl ty46 rfl) rfl ?_
  obtain ⟨u2, hu2, r3⟩ := bind_some h; clear h
  refine Cov.callS (b1 := []) (b2 := [_]) (s1 := []) [_] [] .ro rfl rfl Try.call57 rfl rfl (scheme_Shape_c (G := G) List.mem_cons_self  hu2) rfl (fun v5 bo so h4 => ?_)
  obtain ⟨rfl, rfl, rfl⟩ := h4
  refine Cov.same (bl' := [_]) (sl' := []) rfl rfl rfl ?_
  refine Cov.q .ro (.not rfl) rfl ?_
  refine Cov.q .ro (.assign rfl) rfl ?_
  refine Cov.region_end ?_
  refine Cov.cond rfl (fun c6 => ?_) (fun c6 => ?_)
  · have r7 := ifT r3 c6; clear r3
    refine Cov.seq ?_
    refine Cov.region rfl ?_
    refine Cov.q .ro (.assign rfl) rfl ?_
    refine Cov.q .ro (.assign rfl) rfl ?_
    refine Cov.region_end ?_
    cases r7
    refine Cov.drop 1 0 [] _ rfl rfl ?_
    refine Cov.retS (c := ⟨44, none⟩) (.inr ⟨_, rfl⟩) [.tmp 4, .tmp 5] [_, _] rfl Try.func44 Try.results44 ⟨RV.tmp rfl, RV.tmp rfl, trivial⟩ (fun _ h => List.mem_cons_of_mem _ h) ⟨rfl, rfl, rfl⟩
  · have r8 := ifBF r3 c6; clear r3
    refine Cov.seq ?_
    refine Cov.region rfl ?_
    refine Cov.q .ro (.move rfl) rfl ?_
    refine Cov.q .ro (.lss rfl rfl) rfl ?_
    refine Cov.q .ro (.move rfl) rfl ?_
    refine Cov.cutR 3 (β := Unit) (fun y => [(16, .bool (decide ((x1 < 1) ∨ (1024 < x1))))]) [(1, _), (2, _)] (fun y => G :: Fs) (fun y => []) [_] (fun y => []) [] (fun y => True) ⟨rfl, rfl, trivial⟩ [0] rfl [] rfl ?_ ?_
    · rintro _ _
      refine Cov.prune [(16, .bool (decide ((x1 < 1) ∨ (1024 < x1)))), (1, _), (2, _)] ⟨rfl, rfl, rfl, trivial⟩ ?_
      refine Cov.same (bl' := [_]) (sl' := []) (Fs' := G :: Fs) rfl rfl rfl ?_
      refine Cov.q .ro (.assign rfl) rfl ?_
      refine Cov.region_end ?_
      refine Cov.cond_dec rfl (fun c13 => ?_) (fun c13 => ?_)
      · have r14 := ifT r8 c13; clear r8
        refine Cov.seq ?_
        refine Cov.region rfl ?_
        refine Cov.q .ro (.assign rfl) rfl ?_
        refine Cov.q .ro (.assign rfl) rfl ?_
        refine Cov.region_end ?_
        cases r14
        refine Cov.drop 1 0 [] _ rfl rfl ?_
        refine Cov.retS (c := ⟨44, none⟩) (.inr ⟨_, rfl⟩) [.tmp 4, .tmp 5] [_, _] rfl Try.func44 Try.results44 ⟨RV.tmp rfl, RV.tmp rfl, trivial⟩ (fun _ h => List.mem_cons_of_mem _ h) ⟨rfl, rfl, rfl⟩
      · have r15 := ifF r8 c13; clear r8
        refine Cov.skip ?_
        refine Cov.inBlock ?_
        refine Cov.seq ?_
        refine Cov.region rfl ?_
        refine Cov.q .ro (.load_own_a 0 [_, _, _, _] rfl rfl ty46 rfl) rfl ?_
        refine Cov.q .ro (.move rfl) rfl ?_
        obtain ⟨u16, hu16, r17⟩ := bind_some r15; clear r15
        refine Cov.callS (b1 := []) (b2 := [_]) (s1 := []) [_, _] [] .ro rfl rfl Try.call58 rfl rfl (scheme_Units_c (G := G) List.mem_cons_self  hu16) rfl (fun v19 bo so h18 => ?_)
        obtain ⟨rfl, rfl, rfl⟩ := h18
        refine Cov.same (bl' := [_]) (sl' := []) rfl rfl rfl ?_
        refine Cov.q .ro (.assign rfl) rfl ?_
        refine Cov.q .ro (.assign rfl) rfl ?_
        refine Cov.region_end ?_
        cases r17
        refine Cov.drop 1 0 [] _ rfl rfl ?_
        refine Cov.retS (c := ⟨44, none⟩) (.inr ⟨_, rfl⟩) [.tmp 4, .tmp 5] [_, _] rfl Try.func44 Try.results44 ⟨RV.tmp rfl, RV.tmp rfl, trivial⟩ (fun _ h => List.mem_cons_of_mem _ h) ⟨rfl, rfl, rfl⟩
    · intro hb10
      refine Cov.split 13 rfl (fun c9 => ?_) (fun c9 => ?_)
      · refine Cov.g_off rfl rfl rfl ?_
        refine Cov.g_off rfl rfl rfl ?_
        refine Cov.q .ro (.pick_t rfl rfl) rfl ?_
        refine Cov.prune _ ?_ (Cov.same rfl rfl rfl (hb10 () trivial))
        exact ⟨dor_t c9, rfl, rfl, trivial⟩
      · refine Cov.g_on rfl ?_
        refine Cov.q .ro (.move rfl) rfl ?_
        refine Cov.g_on rfl ?_
        refine Cov.q .ro (.gtr rfl rfl) rfl ?_
        refine Cov.q .ro (.pick_f rfl rfl) rfl ?_
        refine Cov.prune _ ?_ (Cov.same rfl rfl rfl (hb10 () trivial))
        exact ⟨dor_f c9, rfl, rfl, trivial⟩
set_option maxHeartbeats 4000000 in
set_option maxRecDepth 100000 in
theorem cost_Of_c {Fs : List Hp} {G : Hp} {x0_0 : Int} {x0_1 : Int} {x0_2 : Int} {x0_3 : Int} {x1 : Int} {x2 : Int} {x3 : Int} {r : ((Int × Int × Int) × Int)} (hG : G ∈ Fs)  (h : cost_Of (x0_0, x0_1, x0_2, x0_3) x1 x2 x3 = some r) : RetS Try.prog 27 #[.agg #[.int .i64 x0_0, .int .i64 x0_1, .int .i64 x0_2, .int .i64 x0_3], .int .i64 x1, .int .i64 x2, .int .i64 x3] Fs [] [] (fun v bo so => v = .tuple #[.agg #[.int .i64 r.1.1, .int .i64 r.1.2.1, .int .i64 r.1.2.2], .int .i64 r.2] ∧ bo = [] ∧ so = []) := by
  unfold cost_Of at h
  try dsimp only at h
  refine RetS.of (vs := [_, _, _, _]) Try.func27 rfl Try.ntmps27 [(0, _), (1, _), (2, _), (3, _)] ⟨rfl, rfl, rfl, rfl, trivial⟩ rfl hG fun w0 S0 hS0 B0 => ?_
  refine Cov.seq ?_
  refine Cov.region rfl ?_
  refine Cov.box [_, _, _, _] .ro rfl rfl rfl (fun b1 hb1 => ?_)
  refine Cov.alloc .ro ty49 rfl (fun b2 hb2 => ?_)
  refine Cov.q .ro (.assign rfl) rfl ?_
  refine Cov.region_end ?_
  refine Cov.seq ?_
  refine Cov.region rfl ?_
  refine Cov.q .ro (.load_own_a 1 [_, _, _, _] rfl rfl ty46 rfl) rfl ?_
  refine Cov.q .ro (.move rfl) rfl ?_
  obtain ⟨u3, hu3, r4⟩ := bind_some h; clear h
  refine Cov.callS (b1 := []) (b2 := [_, _]) (s1 := []) [_, _] [] .ro rfl rfl Try.call44 rfl rfl (cost_Units_c (G := G) List.mem_cons_self  hu3) rfl (fun v6 bo so h5 => ?_)
  obtain ⟨rfl, rfl, rfl⟩ := h5
  refine Cov.same (bl' := [_, _]) (sl' := []) rfl rfl rfl ?_
  refine Cov.q .ro (.move rfl) rfl ?_
  refine Cov.q .ro (.extract rfl rfl) rfl ?_
  refine Cov.q .ro (.extract rfl rfl) rfl ?_
  refine Cov.q .ro (.assign rfl) rfl ?_
  refine Cov.q .ro (.assign rfl) rfl ?_
  refine Cov.region_end ?_
  refine Cov.seq ?_
  refine Cov.block ?_
  refine Cov.seq ?_
  refine Cov.region rfl ?_
  refine Cov.q .ro (.move rfl) rfl ?_
  refine Cov.q .ro (.neq rfl rfl) rfl ?_
  refine Cov.q .ro (.assign rfl) rfl ?_
  refine Cov.region_end ?_
  refine Cov.cond_dec rfl (fun c7 => ?_) (fun c7 => ?_)
  · have r8 := ifT r4 c7; clear r4
    refine Cov.seq ?_
    refine Cov.region rfl ?_
    refine Cov.q .ro (.build [_, _, _] [] ty49 pl49 rfl rfl) rfl ?_
    refine Cov.q .ro (.move rfl) rfl ?_
    refine Cov.store 0 [_, _, _] [_, _] .ro rfl rfl rfl ty49 rfl rfl rfl rfl ?_
    refine Cov.q .ro (.assign rfl) rfl ?_
    refine Cov.region_end ?_
    refine Cov.prune [(8, _), (9, _)] ⟨rfl, rfl, trivial⟩ ?_
    cases r8
    refine Cov.retSD 2 (c := ⟨27, none⟩) (.inr ⟨_, rfl⟩) [.cell 8 49, .tmp 9] [_, _] rfl Try.func27 Try.results27 ⟨RV.cell_a 0 [_, _, _] rfl rfl ty49 rfl, RV.tmp rfl, trivial⟩ (fun _ h => List.mem_cons_of_mem _ h) ⟨rfl, rfl, rfl⟩
  · have r9 := ifF r4 c7; clear r4
    refine Cov.seq ?_
    refine Cov.region rfl ?_
    refine Cov.q .ro (.move rfl) rfl ?_
    refine Cov.q .ro (.lss rfl rfl) rfl ?_
    refine Cov.q .ro (.move rfl) rfl ?_
    refine Cov.cutR 3 (β := Unit) (fun y => [(30, .bool (decide ((x2 < 1) ∨ (64 < x2))))]) [(2, _), (3, _), (4, _), (8, _), (10, _)] (fun y => G :: Fs) (fun y => []) [_, _] (fun y => []) [] (fun y => True) ⟨rfl, rfl, rfl, rfl, rfl, trivial⟩ [0, 1] rfl [] rfl ?_ ?_
    · rintro _ _
      refine Cov.prune [(30, .bool (decide ((x2 < 1) ∨ (64 < x2)))), (2, _), (3, _), (4, _), (8, _), (10, _)] ⟨rfl, rfl, rfl, rfl, rfl, rfl, trivial⟩ ?_
      refine Cov.same (bl' := [_, _]) (sl' := []) (Fs' := G :: Fs) rfl rfl rfl ?_
      refine Cov.q .ro (.move rfl) rfl ?_
      refine Cov.cutR 3 (β := Unit) (fun y => [(34, .bool (decide (((x2 < 1) ∨ (64 < x2)) ∨ (x3 < 1))))]) [(2, _), (3, _), (4, _), (8, _), (10, _)] (fun y => G :: Fs) (fun y => []) [_, _] (fun y => []) [] (fun y => True) ⟨rfl, rfl, rfl, rfl, rfl, trivial⟩ [0, 1] rfl [] rfl ?_ ?_
      · rintro _ _
        refine Cov.prune [(34, .bool (decide (((x2 < 1) ∨ (64 < x2)) ∨ (x3 < 1)))), (2, _), (3, _), (4, _), (8, _), (10, _)] ⟨rfl, rfl, rfl, rfl, rfl, rfl, trivial⟩ ?_
        refine Cov.same (bl' := [_, _]) (sl' := []) (Fs' := G :: Fs) rfl rfl rfl ?_
        refine Cov.q .ro (.move rfl) rfl ?_
        refine Cov.cutR 3 (β := Unit) (fun y => [(38, .bool (decide ((((x2 < 1) ∨ (64 < x2)) ∨ (x3 < 1)) ∨ (16 < x3))))]) [(2, _), (3, _), (4, _), (8, _), (10, _)] (fun y => G :: Fs) (fun y => []) [_, _] (fun y => []) [] (fun y => True) ⟨rfl, rfl, rfl, rfl, rfl, trivial⟩ [0, 1] rfl [] rfl ?_ ?_
        · rintro _ _
          refine Cov.prune [(38, .bool (decide ((((x2 < 1) ∨ (64 < x2)) ∨ (x3 < 1)) ∨ (16 < x3)))), (2, _), (3, _), (4, _), (8, _), (10, _)] ⟨rfl, rfl, rfl, rfl, rfl, rfl, trivial⟩ ?_
          refine Cov.same (bl' := [_, _]) (sl' := []) (Fs' := G :: Fs) rfl rfl rfl ?_
          refine Cov.q .ro (.assign rfl) rfl ?_
          refine Cov.region_end ?_
          refine Cov.cond_dec rfl (fun c22 => ?_) (fun c22 => ?_)
          · have r23 := ifT r9 c22; clear r9
            refine Cov.seq ?_
            refine Cov.region rfl ?_
            refine Cov.q .ro (.build [_, _, _] [] ty49 pl49 rfl rfl) rfl ?_
            refine Cov.store 0 [_, _, _] [_, _] .ro rfl rfl rfl ty49 rfl rfl rfl rfl ?_
            refine Cov.q .ro (.assign rfl) rfl ?_
            refine Cov.region_end ?_
            cases r23
            refine Cov.retSD 2 (c := ⟨27, none⟩) (.inr ⟨_, rfl⟩) [.cell 8 49, .tmp 9] [_, _] rfl Try.func27 Try.results27 ⟨RV.cell_a 0 [_, _, _] rfl rfl ty49 rfl, RV.tmp rfl, trivial⟩ (fun _ h => List.mem_cons_of_mem _ h) ⟨rfl, rfl, rfl⟩
          · have r24 := ifF r9 c22; clear r9
            refine Cov.skip ?_
            refine Cov.inBlock ?_
            refine Cov.seq ?_
            refine Cov.region rfl ?_
            refine Cov.q .ro (.move rfl) rfl ?_
            refine Cov.q .ro (.fieldAddr 1 rfl fl46_1 ty3.sz rfl) rfl ?_
            refine Cov.q .ro (.load_own 1 rfl rfl ty3 rfl) rfl ?_
            refine Cov.q .ro (.mulw rfl rfl) rfl ?_
            refine Cov.q .ro (.assign rfl) rfl ?_
            refine Cov.region_end ?_
            refine Cov.seq ?_
            refine Cov.region rfl ?_
            refine Cov.q .ro (.move rfl) rfl ?_
            refine Cov.q .ro (.move rfl) rfl ?_
            refine Cov.q .ro (.mulw rfl rfl) rfl ?_
            refine Cov.q .ro (.move rfl) rfl ?_
            refine Cov.q .ro (.move rfl) rfl ?_
            refine Cov.q .ro (.mulw rfl rfl) rfl ?_
            refine Cov.q .ro (.move rfl) rfl ?_
            refine Cov.q .ro (.move rfl) rfl ?_
            refine Cov.q .ro (.mulw rfl rfl) rfl ?_
            refine Cov.q .ro (.move rfl) rfl ?_
            refine Cov.q .ro (.mulw rfl rfl) rfl ?_
            refine Cov.q .ro (.build [_, _, _] [(0, _), (1, _), (2, _)] ty49 pl49 rfl rfl) rfl ?_
            refine Cov.store 0 [_, _, _] [_, _] .ro rfl rfl rfl ty49 rfl rfl rfl rfl ?_
            refine Cov.q .ro (.assign rfl) rfl ?_
            refine Cov.region_end ?_
            refine Cov.prune [(8, _), (9, _)] ⟨rfl, rfl, trivial⟩ ?_
            cases r24
            refine Cov.retSD 2 (c := ⟨27, none⟩) (.inr ⟨_, rfl⟩) [.cell 8 49, .tmp 9] [_, _] rfl Try.func27 Try.results27 ⟨RV.cell_a 0 [_, _, _] rfl rfl ty49 rfl, RV.tmp rfl, trivial⟩ (fun _ h => List.mem_cons_of_mem _ h) ⟨rfl, rfl, rfl⟩
        · intro hb19
          refine Cov.split 35 rfl (fun c18 => ?_) (fun c18 => ?_)
          · refine Cov.g_off rfl rfl rfl ?_
            refine Cov.g_off rfl rfl rfl ?_
            refine Cov.q .ro (.pick_t rfl rfl) rfl ?_
            refine Cov.prune _ ?_ (Cov.same rfl rfl rfl (hb19 () trivial))
            exact ⟨dor_t c18, rfl, rfl, rfl, rfl, rfl, trivial⟩
          · refine Cov.g_on rfl ?_
            refine Cov.q .ro (.move rfl) rfl ?_
            refine Cov.g_on rfl ?_
            refine Cov.q .ro (.gtr rfl rfl) rfl ?_
            refine Cov.q .ro (.pick_f rfl rfl) rfl ?_
            refine Cov.prune _ ?_ (Cov.same rfl rfl rfl (hb19 () trivial))
            exact ⟨dor_f c18, rfl, rfl, rfl, rfl, rfl, trivial⟩
      · intro hb15
        refine Cov.split 31 rfl (fun c14 => ?_) (fun c14 => ?_)
        · refine Cov.g_off rfl rfl rfl ?_
          refine Cov.g_off rfl rfl rfl ?_
          refine Cov.q .ro (.pick_t rfl rfl) rfl ?_
          refine Cov.prune _ ?_ (Cov.same rfl rfl rfl (hb15 () trivial))
          exact ⟨dor_t c14, rfl, rfl, rfl, rfl, rfl, trivial⟩
        · refine Cov.g_on rfl ?_
          refine Cov.q .ro (.move rfl) rfl ?_
          refine Cov.g_on rfl ?_
          refine Cov.q .ro (.lss rfl rfl) rfl ?_
          refine Cov.q .ro (.pick_f rfl rfl) rfl ?_
          refine Cov.prune _ ?_ (Cov.same rfl rfl rfl (hb15 () trivial))
          exact ⟨dor_f c14, rfl, rfl, rfl, rfl, rfl, trivial⟩
    · intro hb11
      refine Cov.split 27 rfl (fun c10 => ?_) (fun c10 => ?_)
      · refine Cov.g_off rfl rfl rfl ?_
        refine Cov.g_off rfl rfl rfl ?_
        refine Cov.q .ro (.pick_t rfl rfl) rfl ?_
        refine Cov.prune _ ?_ (Cov.same rfl rfl rfl (hb11 () trivial))
        exact ⟨dor_t c10, rfl, rfl, rfl, rfl, rfl, trivial⟩
      · refine Cov.g_on rfl ?_
        refine Cov.q .ro (.move rfl) rfl ?_
        refine Cov.g_on rfl ?_
        refine Cov.q .ro (.gtr rfl rfl) rfl ?_
        refine Cov.q .ro (.pick_f rfl rfl) rfl ?_
        refine Cov.prune _ ?_ (Cov.same rfl rfl rfl (hb11 () trivial))
        exact ⟨dor_f c10, rfl, rfl, rfl, rfl, rfl, trivial⟩
set_option maxHeartbeats 4000000 in
set_option maxRecDepth 100000 in
theorem cost_each_c {Fs : List Hp} {G : Hp} {x0_0 : Int} {x0_1 : Int} {x0_2 : Int} {x1_0 : Int} {x1_1 : Int} {x1_2 : Int} {F2 : FuncId} {c2 : List Value} {x2 : Int → Int → Option Int} {r : (Int × Int × Int)} (hG : G ∈ Fs) (hc2 : ∀ args w, (callFunc F2 args).run Try.prog w = .ok (.enter F2 args) w) (hf2 : ∀ (Fs' : List Hp) (G1 : Hp), HpLe G G1 → G1 ∈ Fs' → ∀ (y0 : Int) (y1 : Int) (r : Int), x2 y0 y1 = some r → RetS Try.prog F2 (([.int .i64 y0, .int .i64 y1] : List Value) ++ c2).toArray Fs' [] [] (fun v bo so => v = .int .i64 r ∧ bo = [] ∧ so = [])) (h : cost_each (x0_0, x0_1, x0_2) (x1_0, x1_1, x1_2) x2 = some r) : RetS Try.prog 45 #[.agg #[.int .i64 x0_0, .int .i64 x0_1, .int .i64 x0_2], .agg #[.int .i64 x1_0, .int .i64 x1_1, .int .i64 x1_2], .func (.func F2) #[] c2.toArray] Fs [] [] (fun v bo so => v = .agg #[.int .i64 r.1, .int .i64 r.2.1, .int .i64 r.2.2] ∧ bo = [] ∧ so = []) := by
  unfold cost_each at h
  try dsimp only at h
  refine RetS.of (vs := [_, _, _]) Try.func45 rfl Try.ntmps45 [(0, _), (1, _), (2, _)] ⟨rfl, rfl, rfl, trivial⟩ rfl hG fun w0 S0 hS0 B0 => ?_
  refine Cov.seq ?_
  refine Cov.region rfl ?_
  refine Cov.box [_, _, _] .ro rfl rfl rfl (fun b1 hb1 => ?_)
  refine Cov.box [_, _, _] .ro rfl rfl rfl (fun b2 hb2 => ?_)
  refine Cov.alloc .ro ty49 rfl (fun b3 hb3 => ?_)
  refine Cov.region_end ?_
  refine Cov.seq ?_
  refine Cov.drawL (.q 0 (.q 1 (.q 2 (.q 3 (.q 4 (.q 6 (.q 7 (.q 8 (.q 9 (.q 10 (.q 12 (.q 13 (.q 14 (.q 15 (.q 16 (.e 5 1 (.e 11 1 (.e 17 1 (.q 18 (.e 19 2 .nil)))))))))))))))))))) [_, _, _] (by kernel_rfl) (by kernel_rfl) (pick_mem [0, 1, 2] rfl) ?_
  refine Cov.dq (.move rfl) rfl ?_
  refine Cov.dq (.fieldAddr 0 rfl fl49_0 ty3.sz rfl) rfl ?_
  refine Cov.dq (.load_own 2 rfl rfl ty3 rfl) rfl ?_
  refine Cov.dq (.fieldAddr 0 rfl fl49_0 ty3.sz rfl) rfl ?_
  refine Cov.dq (.load_own 1 rfl rfl ty3 rfl) rfl ?_
  refine Cov.dq (.move rfl) rfl ?_
  refine Cov.dq (.fieldAddr 1 rfl fl49_1 ty3.sz rfl) rfl ?_
  refine Cov.dq (.load_own 2 rfl rfl ty3 rfl) rfl ?_
  refine Cov.dq (.fieldAddr 1 rfl fl49_1 ty3.sz rfl) rfl ?_
  refine Cov.dq (.load_own 1 rfl rfl ty3 rfl) rfl ?_
  refine Cov.dq (.move rfl) rfl ?_
  refine Cov.dq (.fieldAddr 2 rfl fl49_2 ty3.sz rfl) rfl ?_
  refine Cov.dq (.load_own 2 rfl rfl ty3 rfl) rfl ?_
  refine Cov.dq (.fieldAddr 2 rfl fl49_2 ty3.sz rfl) rfl ?_
  refine Cov.dq (.load_own 1 rfl rfl ty3 rfl) rfl ?_
  obtain ⟨u4, hu4, r5⟩ := bind_some h; clear h
  refine Cov.callS (b1 := []) (b2 := [_, _, _]) (s1 := []) [_, _] c2 .d1 rfl rfl hc2 rfl rfl (hf2 _ G (HpLe.refl _) List.mem_cons_self _ _ _  hu4) rfl (fun v7 bo so h6 => ?_)
  obtain ⟨rfl, rfl, rfl⟩ := h6
  refine Cov.same (bl' := [_, _, _]) (sl' := []) rfl rfl rfl ?_
  refine Cov.clsL (HpLe.refl _) (pick_mem [0, 1, 2] rfl) ?_
  obtain ⟨u8, hu8, r9⟩ := bind_some r5; clear r5
  refine Cov.callS (b1 := []) (b2 := [_, _, _]) (s1 := []) [_, _] c2 .d1 rfl rfl hc2 rfl rfl (hf2 _ G (HpLe.refl _) List.mem_cons_self _ _ _  hu8) rfl (fun v11 bo so h10 => ?_)
  obtain ⟨rfl, rfl, rfl⟩ := h10
  refine Cov.same (bl' := [_, _, _]) (sl' := []) rfl rfl rfl ?_
  refine Cov.clsL (HpLe.refl _) (pick_mem [0, 1, 2] rfl) ?_
  obtain ⟨u12, hu12, r13⟩ := bind_some r9; clear r9
  refine Cov.callS (b1 := []) (b2 := [_, _, _]) (s1 := []) [_, _] c2 .d1 rfl rfl hc2 rfl rfl (hf2 _ G (HpLe.refl _) List.mem_cons_self _ _ _  hu12) rfl (fun v15 bo so h14 => ?_)
  obtain ⟨rfl, rfl, rfl⟩ := h14
  refine Cov.same (bl' := [_, _, _]) (sl' := []) rfl rfl rfl ?_
  refine Cov.clsL (HpLe.refl _) (pick_mem [0, 1, 2] rfl) ?_
  refine Cov.dq (.build [_, _, _] [(0, _), (1, _), (2, _)] ty49 pl49 rfl rfl) rfl ?_
  refine Cov.store 0 [_, _, _] [_, _, _] .d2 rfl rfl rfl ty49 rfl rfl rfl rfl ?_
  refine Cov.draw_end ?_
  refine Cov.prune [(6, _)] ⟨rfl, trivial⟩ ?_
  cases r13
  refine Cov.retSD 3 (c := ⟨45, none⟩) (.inr ⟨_, rfl⟩) [.cell 6 49] [_] rfl Try.func45 Try.results45 ⟨RV.cell_a 0 [_, _, _] rfl rfl ty49 rfl, trivial⟩ (fun _ h => List.mem_cons_of_mem _ h) ⟨rfl, rfl, rfl⟩
set_option maxHeartbeats 4000000 in
set_option maxRecDepth 100000 in
theorem cost_Add_f1_c {Fs : List Hp} {G : Hp} {x0 : Int} {x1 : Int} {r : Int} (hG : G ∈ Fs)  (h : cost_Add_f1 x0 x1 = some r) : RetS Try.prog 46 #[.int .i64 x0, .int .i64 x1] Fs [] [] (fun v bo so => v = .int .i64 r ∧ bo = [] ∧ so = []) := by
  unfold cost_Add_f1 at h
  try dsimp only at h
  refine RetS.of (vs := [_, _]) Try.func46 rfl Try.ntmps46 [(0, _), (1, _)] ⟨rfl, rfl, trivial⟩ rfl hG fun w0 S0 hS0 B0 => ?_
  refine Cov.seq ?_
  refine Cov.region rfl ?_
  refine Cov.q .ro (.assign rfl) rfl ?_
  refine Cov.region_end ?_
  refine Cov.seq ?_
  refine Cov.region rfl ?_
  refine Cov.q .ro (.move rfl) rfl ?_
  refine Cov.q .ro (.move rfl) rfl ?_
  refine Cov.q .ro (.addw rfl rfl) rfl ?_
  refine Cov.q .ro (.assign rfl) rfl ?_
  refine Cov.region_end ?_
  cases h
  refine Cov.retS (c := ⟨46, none⟩) (.inr ⟨_, rfl⟩) [.tmp 4] [_] rfl Try.func46 Try.results46 ⟨RV.tmp rfl, trivial⟩ (fun _ h => List.mem_cons_of_mem _ h) ⟨rfl, rfl, rfl⟩
set_option maxHeartbeats 4000000 in
set_option maxRecDepth 100000 in
theorem cost_Add_c {Fs : List Hp} {G : Hp} {x0_0 : Int} {x0_1 : Int} {x0_2 : Int} {x1_0 : Int} {x1_1 : Int} {x1_2 : Int} {r : (Int × Int × Int)} (hG : G ∈ Fs)  (h : cost_Add (x0_0, x0_1, x0_2) (x1_0, x1_1, x1_2) = some r) : RetS Try.prog 28 #[.agg #[.int .i64 x0_0, .int .i64 x0_1, .int .i64 x0_2], .agg #[.int .i64 x1_0, .int .i64 x1_1, .int .i64 x1_2]] Fs [] [] (fun v bo so => v = .agg #[.int .i64 r.1, .int .i64 r.2.1, .int .i64 r.2.2] ∧ bo = [] ∧ so = []) := by
  unfold cost_Add at h
  try dsimp only at h
  refine RetS.of (vs := [_, _]) Try.func28 rfl Try.ntmps28 [(0, _), (1, _)] ⟨rfl, rfl, trivial⟩ rfl hG fun w0 S0 hS0 B0 => ?_
  refine Cov.seq ?_
  refine Cov.region rfl ?_
  refine Cov.box [_, _, _] .ro rfl rfl rfl (fun b1 hb1 => ?_)
  refine Cov.box [_, _, _] .ro rfl rfl rfl (fun b2 hb2 => ?_)
  refine Cov.alloc .ro ty49 rfl (fun b3 hb3 => ?_)
  refine Cov.region_end ?_
  refine Cov.seq ?_
  refine Cov.region rfl ?_
  refine Cov.q .ro (.load_own_a 2 [_, _, _] rfl rfl ty49 rfl) rfl ?_
  refine Cov.q .ro (.load_own_a 1 [_, _, _] rfl rfl ty49 rfl) rfl ?_
  obtain ⟨u4, hu4, r5⟩ := bind_some h; clear h
  refine Cov.callS (b1 := []) (b2 := [_, _, _]) (s1 := []) [_, _, _] [] .ro rfl rfl Try.call45 rfl rfl (cost_each_c (G := G) List.mem_cons_self Try.call46 (fun Fs' G1 hle hm y0 y1 r  hr => cost_Add_f1_c (G := G1) hm   hr) hu4) rfl (fun v7 bo so h6 => ?_)
  obtain ⟨rfl, rfl, rfl⟩ := h6
  refine Cov.same (bl' := [_, _, _]) (sl' := []) rfl rfl rfl ?_
  refine Cov.store 0 [_, _, _] [_, _, _] .ro rfl rfl rfl ty49 rfl rfl rfl rfl ?_
  refine Cov.region_end ?_
  cases r5
  refine Cov.retSD 3 (c := ⟨28, none⟩) (.inr ⟨_, rfl⟩) [.cell 4 49] [_] rfl Try.func28 Try.results28 ⟨RV.cell_a 0 [_, _, _] rfl rfl ty49 rfl, trivial⟩ (fun _ h => List.mem_cons_of_mem _ h) ⟨rfl, rfl, rfl⟩
set_option maxHeartbeats 4000000 in
set_option maxRecDepth 100000 in
theorem bounds_Batched_c {Fs : List Hp} {G : Hp} {x0_0 : Int} {a0_1 : Option Addr} {k0_1 : Nat} {x0_1 : List (Int × Int)} {x1_0 : Int} {x1_1 : Int} {x1_2 : Int} {x1_3 : Int} {x2 : Int} {x3 : Int} {r : ((Int × Int × Int) × Int)} (hG : G ∈ Fs) (s0_1 : SlR (Rep.pair (Rep.int .i64) (Rep.int .i64)) G a0_1 k0_1 x0_1) (h : bounds_Batched (x0_0, x0_1) (x1_0, x1_1, x1_2, x1_3) x2 x3 = some r) : RetS Try.prog 13 #[.agg #[.int .i64 x0_0, .slice a0_1 x0_1.length k0_1], .agg #[.int .i64 x1_0, .int .i64 x1_1, .int .i64 x1_2, .int .i64 x1_3], .int .i64 x2, .int .i64 x3] Fs [] [] (fun v bo so => v = .tuple #[.agg #[.int .i64 r.1.1, .int .i64 r.1.2.1, .int .i64 r.1.2.2], .int .i64 r.2] ∧ bo = [] ∧ so = []) := by
  unfold bounds_Batched at h
  try dsimp only at h
  refine RetS.of (vs := [_, _, _, _]) Try.func13 rfl Try.ntmps13 [(0, _), (1, _), (2, _), (3, _)] ⟨rfl, rfl, rfl, rfl, trivial⟩ rfl hG fun w0 S0 hS0 B0 => ?_
  refine Cov.seq ?_
  refine Cov.region rfl ?_
  refine Cov.box [_, _] .ro rfl rfl rfl (fun b1 hb1 => ?_)
  refine Cov.box [_, _, _, _] .ro rfl rfl rfl (fun b2 hb2 => ?_)
  refine Cov.alloc .ro ty49 rfl (fun b3 hb3 => ?_)
  refine Cov.q .ro (.assign rfl) rfl ?_
  refine Cov.region_end ?_
  refine Cov.seq ?_
  refine Cov.region rfl ?_
  refine Cov.q .ro (.load_own_a 2 [_, _] rfl rfl ty28 rfl) rfl ?_
  refine Cov.q .ro (.move rfl) rfl ?_
  obtain ⟨u4, hu4, r5⟩ := bind_some h; clear h
  refine Cov.callW (b1 := []) (b2 := [_, _, _]) (s1 := []) [_, _] [] .ro rfl rfl Try.call26 rfl rfl (cuckoo_Layout_c (G := G) List.mem_cons_self s0_1 hu4) rfl B0 (fun v7 bo so G8 e9 B10 h6 => ?_)
  obtain ⟨a12, k13, rfl, rfl, rfl, s14⟩ := h6
  refine Cov.same (bl' := [_, _, _]) (sl' := []) rfl rfl rfl ?_
  refine Cov.q .ro (.move rfl) rfl ?_
  refine Cov.q .ro (.extract rfl rfl) rfl ?_
  refine Cov.q .ro (.extract rfl rfl) rfl ?_
  refine Cov.q .ro (.assign rfl) rfl ?_
  refine Cov.q .ro (.assign rfl) rfl ?_
  refine Cov.region_end ?_
  refine Cov.seq ?_
  refine Cov.seq ?_
  refine Cov.region rfl ?_
  refine Cov.q .ro (.move rfl) rfl ?_
  refine Cov.q .ro (.neq rfl rfl) rfl ?_
  refine Cov.region_end ?_
  refine Cov.cond_dec rfl (fun c15 => ?_) (fun c15 => ?_)
  · have r16 := ifT r5 c15; clear r5
    refine Cov.seq ?_
    refine Cov.region rfl ?_
    refine Cov.q .ro (.build [_, _, _] [] ty49 pl49 rfl rfl) rfl ?_
    refine Cov.q .ro (.move rfl) rfl ?_
    refine Cov.store 0 [_, _, _] [_, _, _] .ro rfl rfl rfl ty49 rfl rfl rfl rfl ?_
    refine Cov.q .ro (.assign rfl) rfl ?_
    refine Cov.region_end ?_
    refine Cov.prune [(8, _), (9, _)] ⟨rfl, rfl, trivial⟩ ?_
    cases r16
    refine Cov.retSD 3 (c := ⟨13, none⟩) (.inr ⟨_, rfl⟩) [.cell 8 49, .tmp 9] [_, _] rfl Try.func13 Try.results13 ⟨RV.cell_a 0 [_, _, _] rfl rfl ty49 rfl, RV.tmp rfl, trivial⟩ (fun _ h => List.mem_cons_of_mem _ h) ⟨rfl, rfl, rfl⟩
  · have r17 := ifF r5 c15; clear r5
    refine Cov.skip ?_
    refine Cov.seq ?_
    refine Cov.region rfl ?_
    refine Cov.alloc .ro ty49 rfl (fun b18 hb18 => ?_)
    refine Cov.region_end ?_
    refine Cov.prune [(3, _), (5, _), (8, _), (10, _), (12, _)] ⟨rfl, rfl, rfl, rfl, rfl, trivial⟩ ?_
    refine Cov.seq ?_
    refine Cov.seq ?_
    refine Cov.region rfl ?_
    refine Cov.q .ro (.move rfl) rfl ?_
    refine Cov.q .ro (.len_sl rfl rfl sl34) rfl ?_
    refine Cov.q .ro (.move rfl) rfl ?_
    refine Cov.region_end ?_
    refine Cov.cutB (β := Int × Int × Int × Int × Int × Int × Int × Int × Int × Int × Int) (fun y => []) [(8, _), (12, _)] (fun y => G8 :: Fs) (fun y => [(b18, .cells #[.int .i64 y.1, .int .i64 y.2.1, .int .i64 y.2.2.1] 49 (0, 0)), (b3, .cells #[.int .i64 y.2.2.2.1, .int .i64 y.2.2.2.2.1, .int .i64 y.2.2.2.2.2.1] 49 (0, 0)), (b2, .cells #[.int .i64 y.2.2.2.2.2.2.1, .int .i64 y.2.2.2.2.2.2.2.1, .int .i64 y.2.2.2.2.2.2.2.2.1, .int .i64 y.2.2.2.2.2.2.2.2.2.1] 46 (0, 0)), (b1, .cells #[.int .i64 y.2.2.2.2.2.2.2.2.2.2, .slice a0_1 x0_1.length k0_1] 28 (0, 0))]) [] (fun y => []) [] (fun y => bounds_Batched_J1 y.1 y.2.1 y.2.2.1 y.2.2.2.1 y.2.2.2.2.1 y.2.2.2.2.2.1 y.2.2.2.2.2.2.1 y.2.2.2.2.2.2.2.1 y.2.2.2.2.2.2.2.2.1 y.2.2.2.2.2.2.2.2.2.1 y.2.2.2.2.2.2.2.2.2.2 = some r) ⟨rfl, rfl, trivial⟩ [] rfl [] rfl ?_ ?_
    · intro y hI
      obtain ⟨v100, v101, v102, v103, v104, v105, v106, v107, v108, v109, v110⟩ := y
      have r112 := hI; clear hI
      try dsimp only at r112
      refine Cov.prune [(8, _), (12, _)] ⟨rfl, rfl, trivial⟩ ?_
      refine Cov.same (bl' := [(b18, .cells #[.int .i64 v100, .int .i64 v101, .int .i64 v102] 49 (0, 0)), (b3, .cells #[.int .i64 v103, .int .i64 v104, .int .i64 v105] 49 (0, 0)), (b2, .cells #[.int .i64 v106, .int .i64 v107, .int .i64 v108, .int .i64 v109] 46 (0, 0)), (b1, .cells #[.int .i64 v110, .slice a0_1 x0_1.length k0_1] 28 (0, 0))]) (sl' := []) (Fs' := G8 :: Fs) rfl rfl rfl ?_
      unfold bounds_Batched_J1 at r112
      try dsimp only at r112
      refine Cov.seq ?_
      refine Cov.region rfl ?_
      refine Cov.q .ro (.load_own_a 0 [_, _, _] rfl rfl ty49 rfl) rfl ?_
      refine Cov.store 1 [_, _, _] [_, _, _, _] .ro rfl rfl rfl ty49 rfl rfl rfl rfl ?_
      refine Cov.q .ro (.assign rfl) rfl ?_
      refine Cov.region_end ?_
      cases r112
      refine Cov.retSD 4 (c := ⟨13, none⟩) (.inr ⟨_, rfl⟩) [.cell 8 49, .tmp 9] [_, _] rfl Try.func13 Try.results13 ⟨RV.cell_a 1 [_, _, _] rfl rfl ty49 rfl, RV.tmp rfl, trivial⟩ (fun _ h => List.mem_cons_of_mem _ h) ⟨rfl, rfl, rfl⟩
    · intro hb114
      refine Cov.block ?_
      refine Cov.loop2 (α := Nat × List (List Int) × Int × Int × Int) (fun y => [(29, .int .i64 (y.1 : Int))]) [(3, _), (5, _), (8, _), (12, _), (27, _), (28, _)] (fun y => []) (fun y => [(b18, .cells #[.int .i64 y.2.2.1, .int .i64 y.2.2.2.1, .int .i64 y.2.2.2.2] 49 (0, 0))]) [_, _, _] (fun y => []) [] (fun y => List.drop y.1 u4.1 = y.2.1 ∧ bounds_Batched_L2 bounds_Batched_J1 x3 x1_0 x1_1 x1_2 x1_3 x0_0 y.2.1 y.2.2.1 y.2.2.2.1 y.2.2.2.2 = some r) (fun y => y.2.1.length) (0, u4.1, 0, 0, 0) ⟨rfl, r17⟩ ⟨rfl, rfl, rfl, rfl, rfl, rfl, rfl, trivial⟩ rfl rfl rfl (fun y hI hb162 => ?_)
      obtain ⟨i155, w156, v158, v159, v160⟩ := y
      obtain ⟨g157, r161⟩ := hI
      try dsimp only at g157 r161
      refine Cov.prune [(29, .int .i64 (i155 : Int)), (3, _), (5, _), (8, _), (12, _), (27, _), (28, _)] ⟨rfl, rfl, rfl, rfl, rfl, rfl, rfl, trivial⟩ ?_
      refine Cov.same (bl' := [(b18, .cells #[.int .i64 v158, .int .i64 v159, .int .i64 v160] 49 (0, 0)), _, _, _]) (sl' := []) (Fs' := G8 :: Fs) rfl rfl rfl ?_
      cases w156 with
      | nil =>
        rw [bounds_Batched_L2] at r161; try dsimp only at r161
        refine Cov.seq ?_
        refine Cov.region rfl ?_
        refine Cov.q .ro (.lss rfl rfl) rfl ?_
        refine Cov.region_end ?_
        refine Cov.seq ?_
        refine Cov.cond_dec rfl (fun c => absurd c (drop_nil g157)) (fun _ => ?_)
        refine Cov.exit rfl ?_
        refine Cov.prune _ ?_ (Cov.same rfl rfl rfl (hb114 (v158, v159, v160, 0, 0, 0, x1_0, x1_1, x1_2, x1_3, x0_0) r161))
        exact ⟨rfl, rfl, trivial⟩
      | cons x173 xs174 =>
        have r172 : bounds_Batched_B2 bounds_Batched_J1 x3 x1_0 x1_1 x1_2 x1_3 x0_0 (bounds_Batched_L2 bounds_Batched_J1 x3 x1_0 x1_1 x1_2 x1_3 x0_0 xs174) x173 v158 v159 v160 = some r := r161; clear r161; unfold bounds_Batched_B2 at r172; try dsimp only at r172
        refine Cov.seq ?_
        refine Cov.region rfl ?_
        refine Cov.q .ro (.lss rfl rfl) rfl ?_
        refine Cov.region_end ?_
        refine Cov.seq ?_
        refine Cov.cond_dec rfl (fun _ => ?_) (fun c => absurd (drop_lt g157) c)
        refine Cov.skip ?_
        refine Cov.seq ?_
        refine Cov.block ?_
        refine Cov.seq ?_
        refine Cov.region rfl ?_
        obtain ⟨c175, p176, h177⟩ := SlR.get s14 (drop_idx g157)
        obtain ⟨a178, k179, rfl, s180⟩ := h177
        refine Cov.q .ro (.idxR s14 rfl rfl (drop_idx g157) sl34 ty35.sz) rfl ?_
        refine Cov.q .ro (.load_rp p176 List.mem_cons_self rfl ty35 rfl) rfl ?_
        refine Cov.q .ro (.assign rfl) rfl ?_
        refine Cov.region_end ?_
        refine Cov.seq ?_
        refine Cov.seq ?_
        refine Cov.region rfl ?_
        refine Cov.q .ro (.move rfl) rfl ?_
        refine Cov.q .ro (.len_sl rfl rfl sl35) rfl ?_
        refine Cov.q .ro (.eql rfl rfl) rfl ?_
        refine Cov.region_end ?_
        refine Cov.cond_dec rfl (fun c181 => ?_) (fun c181 => ?_)
        · have r182 := ifT r172 c181; clear r172
          refine Cov.exit rfl ?_
          refine Cov.region rfl ?_
          refine Cov.q .ro (.addw rfl rfl) rfl ?_
          refine Cov.q .ro (.move rfl) rfl ?_
          refine Cov.region_end ?_
          refine Cov.prune _ ?_ (Cov.same rfl rfl rfl (hb162 ((i155 + 1), xs174, v158, v159, v160) ⟨(drop_succ g157), r182⟩ (Nat.lt_succ_self _)))
          exact ⟨(congrArg (fun z => some (Value.int .i64 z)) (idx_wrap (SlR.len s14) g157)), rfl, rfl, rfl, rfl, rfl, rfl, trivial⟩
        · have r183 := ifF r172 c181; clear r172
          refine Cov.skip ?_
          refine Cov.seq ?_
          refine Cov.region rfl ?_
          refine Cov.q .ro (.load_own_a 2 [_, _, _, _] rfl rfl ty46 rfl) rfl ?_
          refine Cov.q .ro (.move rfl) rfl ?_
          refine Cov.q .ro (.len_sl rfl rfl sl35) rfl ?_
          refine Cov.q .ro (.move rfl) rfl ?_
          obtain ⟨u184, hu184, r185⟩ := bind_some r183; clear r183
          refine Cov.callS (b1 := []) (b2 := [_, _, _, _]) (s1 := []) [_, _, _, _] [] .ro rfl rfl Try.call27 rfl rfl (cost_Of_c (G := G8) List.mem_cons_self  hu184) rfl (fun v187 bo so h186 => ?_)
          obtain ⟨rfl, rfl, rfl⟩ := h186
          refine Cov.same (bl' := [_, _, _, _]) (sl' := []) rfl rfl rfl ?_
          refine Cov.q .ro (.move rfl) rfl ?_
          refine Cov.q .ro (.extract rfl rfl) rfl ?_
          refine Cov.q .ro (.extract rfl rfl) rfl ?_
          refine Cov.alloc .ro ty49 rfl (fun b188 hb188 => ?_)
          refine Cov.store 0 [_, _, _] [_, _, _, _, _] .ro rfl rfl rfl ty49 rfl rfl rfl rfl ?_
          refine Cov.q .ro (.assign rfl) rfl ?_
          refine Cov.region_end ?_
          refine Cov.prune [(29, _), (3, _), (5, _), (8, _), (12, _), (27, _), (28, _), (15, _), (16, _)] ⟨rfl, rfl, rfl, rfl, rfl, rfl, rfl, rfl, rfl, trivial⟩ ?_
          refine Cov.seq ?_
          refine Cov.seq ?_
          refine Cov.region rfl ?_
          refine Cov.q .ro (.move rfl) rfl ?_
          refine Cov.q .ro (.neq rfl rfl) rfl ?_
          refine Cov.region_end ?_
          refine Cov.cond_dec rfl (fun c189 => ?_) (fun c189 => ?_)
          · have r190 := ifT r185 c189; clear r185
            refine Cov.seq ?_
            refine Cov.region rfl ?_
            refine Cov.q .ro (.build [_, _, _] [] ty49 pl49 rfl rfl) rfl ?_
            refine Cov.q .ro (.move rfl) rfl ?_
            refine Cov.store 2 [_, _, _] [_, _, _, _, _] .ro rfl rfl rfl ty49 rfl rfl rfl rfl ?_
            refine Cov.q .ro (.assign rfl) rfl ?_
            refine Cov.region_end ?_
            cases r190
            refine Cov.retSD 5 (c := ⟨13, none⟩) (.inr ⟨_, rfl⟩) [.cell 8 49, .tmp 9] [_, _] rfl Try.func13 Try.results13 ⟨RV.cell_a 2 [_, _, _] rfl rfl ty49 rfl, RV.tmp rfl, trivial⟩ (fun _ h => List.mem_cons_of_mem _ h) ⟨rfl, rfl, rfl⟩
          · have r191 := ifF r185 c189; clear r185
            refine Cov.skip ?_
            refine Cov.region rfl ?_
            refine Cov.q .ro (.load_own_a 1 [_, _, _] rfl rfl ty49 rfl) rfl ?_
            refine Cov.q .ro (.load_own_a 0 [_, _, _] rfl rfl ty49 rfl) rfl ?_
            obtain ⟨u192, hu192, r193⟩ := bind_some r191; clear r191
            refine Cov.callS (b1 := []) (b2 := [_, _, _, _, _]) (s1 := []) [_, _] [] .ro rfl rfl Try.call28 rfl rfl (cost_Add_c (G := G8) List.mem_cons_self  hu192) rfl (fun v195 bo so h194 => ?_)
            obtain ⟨rfl, rfl, rfl⟩ := h194
            refine Cov.same (bl' := [_, _, _, _, _]) (sl' := []) rfl rfl rfl ?_
            refine Cov.store 1 [_, _, _] [_, _, _, _, _] .ro rfl rfl rfl ty49 rfl rfl rfl rfl ?_
            refine Cov.region_end ?_
            refine Cov.inBlock ?_
            refine Cov.region rfl ?_
            refine Cov.q .ro (.addw rfl rfl) rfl ?_
            refine Cov.q .ro (.move rfl) rfl ?_
            refine Cov.region_end ?_
            refine Cov.drop 1 0 [_, _, _, _] _ rfl rfl ?_
            refine Cov.prune _ ?_ (Cov.same rfl rfl rfl (hb162 ((i155 + 1), xs174, u192.1, u192.2.1, u192.2.2) ⟨(drop_succ g157), r193⟩ (Nat.lt_succ_self _)))
            exact ⟨(congrArg (fun z => some (Value.int .i64 z)) (idx_wrap (SlR.len s14) g157)), rfl, rfl, rfl, rfl, rfl, rfl, trivial⟩
set_option maxHeartbeats 4000000 in
set_option maxRecDepth 100000 in
theorem ref23_Shape_c {Fs : List Hp} {G : Hp} {x0_0 : Int} {x0_1 : Int} {x0_2 : Int} {x0_3 : Int} {r : Bool} (hG : G ∈ Fs)  (h : ref23_Shape (x0_0, x0_1, x0_2, x0_3) = some r) : RetS Try.prog 47 #[.agg #[.int .i64 x0_0, .int .i64 x0_1, .int .i64 x0_2, .int .i64 x0_3]] Fs [] [] (fun v bo so => v = .bool r ∧ bo = [] ∧ so = []) := by
  unfold ref23_Shape at h
  try dsimp only at h
  refine RetS.of (vs := [_]) Try.func47 rfl Try.ntmps47 [(0, _)] ⟨rfl, trivial⟩ rfl hG fun w0 S0 hS0 B0 => ?_
  refine Cov.seq ?_
  refine Cov.region rfl ?_
  refine Cov.box [_, _, _, _] .ro rfl rfl rfl (fun b1 hb1 => ?_)
  refine Cov.q .ro (.assign rfl) rfl ?_
  refine Cov.region_end ?_
  refine Cov.seq ?_
  refine Cov.seq ?_
  refine Cov.region rfl ?_
  refine Cov.q .ro (.fieldAddr 1 rfl fl46_1 ty3.sz rfl) rfl ?_
  refine Cov.q .ro (.load_own 0 rfl rfl ty3 rfl) rfl ?_
  refine Cov.q .ro (.lss rfl rfl) rfl ?_
  refine Cov.q .ro (.move rfl) rfl ?_
  refine Cov.cutR 4 (β := Unit) (fun y => [(10, .bool (decide ((x0_1 < 2) ∨ (10 < x0_1))))]) [(1, _)] (fun y => G :: Fs) (fun y => []) [_] (fun y => []) [] (fun y => True) ⟨rfl, trivial⟩ [0] rfl [] rfl ?_ ?_
  · rintro _ _
    refine Cov.prune [(10, .bool (decide ((x0_1 < 2) ∨ (10 < x0_1)))), (1, _)] ⟨rfl, rfl, trivial⟩ ?_
    refine Cov.same (bl' := [_]) (sl' := []) (Fs' := G :: Fs) rfl rfl rfl ?_
    refine Cov.region_end ?_
    refine Cov.cond_dec rfl (fun c6 => ?_) (fun c6 => ?_)
    · have r7 := ifT h c6; clear h
      refine Cov.seq ?_
      refine Cov.region rfl ?_
      refine Cov.q .ro (.assign rfl) rfl ?_
      refine Cov.region_end ?_
      cases r7
      refine Cov.drop 1 0 [] _ rfl rfl ?_
      refine Cov.retS (c := ⟨47, none⟩) (.inr ⟨_, rfl⟩) [.tmp 2] [_] rfl Try.func47 Try.results47 ⟨RV.tmp rfl, trivial⟩ (fun _ h => List.mem_cons_of_mem _ h) ⟨rfl, rfl, rfl⟩
    · have r8 := ifF h c6; clear h
      refine Cov.skip ?_
      refine Cov.seq ?_
      refine Cov.seq ?_
      refine Cov.region rfl ?_
      refine Cov.q .ro (.fieldAddr 0 rfl fl46_0 ty3.sz rfl) rfl ?_
      refine Cov.q .ro (.load_own 0 rfl rfl ty3 rfl) rfl ?_
      refine Cov.region_end ?_
      refine Cov.block ?_
      refine Cov.seq ?_
      refine Cov.region rfl ?_
      refine Cov.q .ro (.eql rfl rfl) rfl ?_
      refine Cov.q .ro (.assign rfl) rfl ?_
      refine Cov.region_end ?_
      refine Cov.cond_dec rfl (fun c9 => ?_) (fun c9 => ?_)
      · have r10 := ifT r8 c9; clear r8
        refine Cov.seq ?_
        refine Cov.region rfl ?_
        refine Cov.q .ro (.fieldAddr 2 rfl fl46_2 ty3.sz rfl) rfl ?_
        refine Cov.q .ro (.load_own 0 rfl rfl ty3 rfl) rfl ?_
        refine Cov.q .ro (.eql rfl rfl) rfl ?_
        refine Cov.q .ro (.move rfl) rfl ?_
        refine Cov.cutR 4 (β := Unit) (fun y => [(22, .bool (decide ((x0_2 = 0) ∧ (x0_3 = 0))))]) [] (fun y => G :: Fs) (fun y => []) [_] (fun y => []) [] (fun y => True) trivial [0] rfl [] rfl ?_ ?_
        · rintro _ _
          refine Cov.prune [(22, .bool (decide ((x0_2 = 0) ∧ (x0_3 = 0))))] ⟨rfl, trivial⟩ ?_
          refine Cov.same (bl' := [_]) (sl' := []) (Fs' := G :: Fs) rfl rfl rfl ?_
          refine Cov.q .ro (.assign rfl) rfl ?_
          refine Cov.region_end ?_
          cases r10
          refine Cov.drop 1 0 [] _ rfl rfl ?_
          refine Cov.retS (c := ⟨47, none⟩) (.inr ⟨_, rfl⟩) [.tmp 2] [_] rfl Try.func47 Try.results47 ⟨RV.tmp rfl, trivial⟩ (fun _ h => List.mem_cons_of_mem _ h) ⟨rfl, rfl, rfl⟩
        · intro hb12
          refine Cov.split 18 rfl (fun c11 => ?_) (fun c11 => ?_)
          · refine Cov.g_on rfl ?_
            refine Cov.q .ro (.fieldAddr 3 rfl fl46_3 ty3.sz rfl) rfl ?_
            refine Cov.g_on rfl ?_
            refine Cov.q .ro (.load_own 0 rfl rfl ty3 rfl) rfl ?_
            refine Cov.g_on rfl ?_
            refine Cov.q .ro (.eql rfl rfl) rfl ?_
            refine Cov.q .ro (.pick_t rfl rfl) rfl ?_
            refine Cov.prune _ ?_ (Cov.same rfl rfl rfl (hb12 () trivial))
            exact ⟨dand_t c11, trivial⟩
          · refine Cov.g_off rfl rfl rfl ?_
            refine Cov.g_off rfl rfl rfl ?_
            refine Cov.g_off rfl rfl rfl ?_
            refine Cov.q .ro (.pick_f rfl rfl) rfl ?_
            refine Cov.prune _ ?_ (Cov.same rfl rfl rfl (hb12 () trivial))
            exact ⟨dand_f c11, trivial⟩
      · have r15 := ifF r8 c9; clear r8
        refine Cov.seq ?_
        refine Cov.region rfl ?_
        refine Cov.q .ro (.eql rfl rfl) rfl ?_
        refine Cov.q .ro (.assign rfl) rfl ?_
        refine Cov.region_end ?_
        refine Cov.cond_dec rfl (fun c16 => ?_) (fun c16 => ?_)
        · have r17 := ifT r15 c16; clear r15
          refine Cov.seq ?_
          refine Cov.region rfl ?_
          refine Cov.q .ro (.fieldAddr 2 rfl fl46_2 ty3.sz rfl) rfl ?_
          refine Cov.q .ro (.load_own 0 rfl rfl ty3 rfl) rfl ?_
          refine Cov.q .ro (.geq rfl rfl) rfl ?_
          refine Cov.q .ro (.move rfl) rfl ?_
          refine Cov.cutR 7 (β := Unit) (fun y => [(35, .bool (decide ((1 ≤ x0_2) ∧ (x0_2 ≤ (w64 (x0_1 - 1))))))]) [(1, _)] (fun y => G :: Fs) (fun y => []) [_] (fun y => []) [] (fun y => True) ⟨rfl, trivial⟩ [0] rfl [] rfl ?_ ?_
          · rintro _ _
            refine Cov.prune [(35, .bool (decide ((1 ≤ x0_2) ∧ (x0_2 ≤ (w64 (x0_1 - 1)))))), (1, _)] ⟨rfl, rfl, trivial⟩ ?_
            refine Cov.same (bl' := [_]) (sl' := []) (Fs' := G :: Fs) rfl rfl rfl ?_
            refine Cov.q .ro (.move rfl) rfl ?_
            refine Cov.cutR 4 (β := Unit) (fun y => [(40, .bool (decide (((1 ≤ x0_2) ∧ (x0_2 ≤ (w64 (x0_1 - 1)))) ∧ (x0_3 = 0))))]) [] (fun y => G :: Fs) (fun y => []) [_] (fun y => []) [] (fun y => True) trivial [0] rfl [] rfl ?_ ?_
            · rintro _ _
              refine Cov.prune [(40, .bool (decide (((1 ≤ x0_2) ∧ (x0_2 ≤ (w64 (x0_1 - 1)))) ∧ (x0_3 = 0))))] ⟨rfl, trivial⟩ ?_
              refine Cov.same (bl' := [_]) (sl' := []) (Fs' := G :: Fs) rfl rfl rfl ?_
              refine Cov.q .ro (.assign rfl) rfl ?_
              refine Cov.region_end ?_
              cases r17
              refine Cov.drop 1 0 [] _ rfl rfl ?_
              refine Cov.retS (c := ⟨47, none⟩) (.inr ⟨_, rfl⟩) [.tmp 2] [_] rfl Try.func47 Try.results47 ⟨RV.tmp rfl, trivial⟩ (fun _ h => List.mem_cons_of_mem _ h) ⟨rfl, rfl, rfl⟩
            · intro hb23
              refine Cov.split 36 rfl (fun c22 => ?_) (fun c22 => ?_)
              · refine Cov.g_on rfl ?_
                refine Cov.q .ro (.fieldAddr 3 rfl fl46_3 ty3.sz rfl) rfl ?_
                refine Cov.g_on rfl ?_
                refine Cov.q .ro (.load_own 0 rfl rfl ty3 rfl) rfl ?_
                refine Cov.g_on rfl ?_
                refine Cov.q .ro (.eql rfl rfl) rfl ?_
                refine Cov.q .ro (.pick_t rfl rfl) rfl ?_
                refine Cov.prune _ ?_ (Cov.same rfl rfl rfl (hb23 () trivial))
                exact ⟨dand_t c22, trivial⟩
              · refine Cov.g_off rfl rfl rfl ?_
                refine Cov.g_off rfl rfl rfl ?_
                refine Cov.g_off rfl rfl rfl ?_
                refine Cov.q .ro (.pick_f rfl rfl) rfl ?_
                refine Cov.prune _ ?_ (Cov.same rfl rfl rfl (hb23 () trivial))
                exact ⟨dand_f c22, trivial⟩
          · intro hb19
            refine Cov.split 28 rfl (fun c18 => ?_) (fun c18 => ?_)
            · refine Cov.g_on rfl ?_
              refine Cov.q .ro (.fieldAddr 2 rfl fl46_2 ty3.sz rfl) rfl ?_
              refine Cov.g_on rfl ?_
              refine Cov.q .ro (.load_own 0 rfl rfl ty3 rfl) rfl ?_
              refine Cov.g_on rfl ?_
              refine Cov.q .ro (.fieldAddr 1 rfl fl46_1 ty3.sz rfl) rfl ?_
              refine Cov.g_on rfl ?_
              refine Cov.q .ro (.load_own 0 rfl rfl ty3 rfl) rfl ?_
              refine Cov.g_on rfl ?_
              refine Cov.q .ro (.subw rfl rfl) rfl ?_
              refine Cov.g_on rfl ?_
              refine Cov.q .ro (.leq rfl rfl) rfl ?_
              refine Cov.q .ro (.pick_t rfl rfl) rfl ?_
              refine Cov.prune _ ?_ (Cov.same rfl rfl rfl (hb19 () trivial))
              exact ⟨dand_t c18, rfl, trivial⟩
            · refine Cov.g_off rfl rfl rfl ?_
              refine Cov.g_off rfl rfl rfl ?_
              refine Cov.g_off rfl rfl rfl ?_
              refine Cov.g_off rfl rfl rfl ?_
              refine Cov.g_off rfl rfl rfl ?_
              refine Cov.g_off rfl rfl rfl ?_
              refine Cov.q .ro (.pick_f rfl rfl) rfl ?_
              refine Cov.prune _ ?_ (Cov.same rfl rfl rfl (hb19 () trivial))
              exact ⟨dand_f c18, rfl, trivial⟩
        · have r26 := ifF r15 c16; clear r15
          refine Cov.seq ?_
          refine Cov.region rfl ?_
          refine Cov.q .ro (.eql rfl rfl) rfl ?_
          refine Cov.q .ro (.assign rfl) rfl ?_
          refine Cov.region_end ?_
          refine Cov.cond_dec rfl (fun c27 => ?_) (fun c27 => ?_)
          · have r28 := ifT r26 c27; clear r26
            refine Cov.seq ?_
            refine Cov.region rfl ?_
            refine Cov.q .ro (.fieldAddr 2 rfl fl46_2 ty3.sz rfl) rfl ?_
            refine Cov.q .ro (.load_own 0 rfl rfl ty3 rfl) rfl ?_
            refine Cov.q .ro (.geq rfl rfl) rfl ?_
            refine Cov.q .ro (.move rfl) rfl ?_
            refine Cov.cutR 4 (β := Unit) (fun y => [(50, .bool (decide ((1 ≤ x0_2) ∧ (1 ≤ x0_3))))]) [(1, _)] (fun y => G :: Fs) (fun y => []) [_] (fun y => []) [] (fun y => True) ⟨rfl, trivial⟩ [0] rfl [] rfl ?_ ?_
            · rintro _ _
              refine Cov.prune [(50, .bool (decide ((1 ≤ x0_2) ∧ (1 ≤ x0_3)))), (1, _)] ⟨rfl, rfl, trivial⟩ ?_
              refine Cov.same (bl' := [_]) (sl' := []) (Fs' := G :: Fs) rfl rfl rfl ?_
              refine Cov.q .ro (.move rfl) rfl ?_
              refine Cov.cutR 4 (β := Unit) (fun y => [(55, .bool (decide (((1 ≤ x0_2) ∧ (1 ≤ x0_3)) ∧ (x0_2 ≤ 10))))]) [(1, _)] (fun y => G :: Fs) (fun y => []) [_] (fun y => []) [] (fun y => True) ⟨rfl, trivial⟩ [0] rfl [] rfl ?_ ?_
              · rintro _ _
                refine Cov.prune [(55, .bool (decide (((1 ≤ x0_2) ∧ (1 ≤ x0_3)) ∧ (x0_2 ≤ 10)))), (1, _)] ⟨rfl, rfl, trivial⟩ ?_
                refine Cov.same (bl' := [_]) (sl' := []) (Fs' := G :: Fs) rfl rfl rfl ?_
                refine Cov.q .ro (.move rfl) rfl ?_
                refine Cov.cutR 4 (β := Unit) (fun y => [(60, .bool (decide ((((1 ≤ x0_2) ∧ (1 ≤ x0_3)) ∧ (x0_2 ≤ 10)) ∧ (x0_3 ≤ 10))))]) [(1, _)] (fun y => G :: Fs) (fun y => []) [_] (fun y => []) [] (fun y => True) ⟨rfl, trivial⟩ [0] rfl [] rfl ?_ ?_
                · rintro _ _
                  refine Cov.prune [(60, .bool (decide ((((1 ≤ x0_2) ∧ (1 ≤ x0_3)) ∧ (x0_2 ≤ 10)) ∧ (x0_3 ≤ 10)))), (1, _)] ⟨rfl, rfl, trivial⟩ ?_
                  refine Cov.same (bl' := [_]) (sl' := []) (Fs' := G :: Fs) rfl rfl rfl ?_
                  refine Cov.q .ro (.move rfl) rfl ?_
                  refine Cov.cutR 11 (β := Unit) (fun y => [(72, .bool (decide (((((1 ≤ x0_2) ∧ (1 ≤ x0_3)) ∧ (x0_2 ≤ 10)) ∧ (x0_3 ≤ 10)) ∧ ((w64 ((w64 ((w64 (2 * x0_3)) + x0_2)) - 1)) ≤ x0_1))))]) [] (fun y => G :: Fs) (fun y => []) [_] (fun y => []) [] (fun y => True) trivial [0] rfl [] rfl ?_ ?_
                  · rintro _ _
                    refine Cov.prune [(72, .bool (decide (((((1 ≤ x0_2) ∧ (1 ≤ x0_3)) ∧ (x0_2 ≤ 10)) ∧ (x0_3 ≤ 10)) ∧ ((w64 ((w64 ((w64 (2 * x0_3)) + x0_2)) - 1)) ≤ x0_1))))] ⟨rfl, trivial⟩ ?_
                    refine Cov.same (bl' := [_]) (sl' := []) (Fs' := G :: Fs) rfl rfl rfl ?_
                    refine Cov.q .ro (.assign rfl) rfl ?_
                    refine Cov.region_end ?_
                    cases r28
                    refine Cov.drop 1 0 [] _ rfl rfl ?_
                    refine Cov.retS (c := ⟨47, none⟩) (.inr ⟨_, rfl⟩) [.tmp 2] [_] rfl Try.func47 Try.results47 ⟨RV.tmp rfl, trivial⟩ (fun _ h => List.mem_cons_of_mem _ h) ⟨rfl, rfl, rfl⟩
                  · intro hb42
                    refine Cov.split 61 rfl (fun c41 => ?_) (fun c41 => ?_)
                    · refine Cov.g_on rfl ?_
                      refine Cov.q .ro (.fieldAddr 3 rfl fl46_3 ty3.sz rfl) rfl ?_
                      refine Cov.g_on rfl ?_
                      refine Cov.q .ro (.load_own 0 rfl rfl ty3 rfl) rfl ?_
                      refine Cov.g_on rfl ?_
                      refine Cov.q .ro (.mulw rfl rfl) rfl ?_
                      refine Cov.g_on rfl ?_
                      refine Cov.q .ro (.fieldAddr 2 rfl fl46_2 ty3.sz rfl) rfl ?_
                      refine Cov.g_on rfl ?_
                      refine Cov.q .ro (.load_own 0 rfl rfl ty3 rfl) rfl ?_
                      refine Cov.g_on rfl ?_
                      refine Cov.q .ro (.addw rfl rfl) rfl ?_
                      refine Cov.g_on rfl ?_
                      refine Cov.q .ro (.subw rfl rfl) rfl ?_
                      refine Cov.g_on rfl ?_
                      refine Cov.q .ro (.fieldAddr 1 rfl fl46_1 ty3.sz rfl) rfl ?_
                      refine Cov.g_on rfl ?_
                      refine Cov.q .ro (.load_own 0 rfl rfl ty3 rfl) rfl ?_
                      refine Cov.g_on rfl ?_
                      refine Cov.q .ro (.leq rfl rfl) rfl ?_
                      refine Cov.q .ro (.pick_t rfl rfl) rfl ?_
                      refine Cov.prune _ ?_ (Cov.same rfl rfl rfl (hb42 () trivial))
                      exact ⟨dand_t c41, trivial⟩
                    · refine Cov.g_off rfl rfl rfl ?_
                      refine Cov.g_off rfl rfl rfl ?_
                      refine Cov.g_off rfl rfl rfl ?_
                      refine Cov.g_off rfl rfl rfl ?_
                      refine Cov.g_off rfl rfl rfl ?_
                      refine Cov.g_off rfl rfl rfl ?_
                      refine Cov.g_off rfl rfl rfl ?_
                      refine Cov.g_off rfl rfl rfl ?_
                      refine Cov.g_off rfl rfl rfl ?_
                      refine Cov.g_off rfl rfl rfl ?_
                      refine Cov.q .ro (.pick_f rfl rfl) rfl ?_
                      refine Cov.prune _ ?_ (Cov.same rfl rfl rfl (hb42 () trivial))
                      exact ⟨dand_f c41, trivial⟩
                · intro hb38
                  refine Cov.split 56 rfl (fun c37 => ?_) (fun c37 => ?_)
                  · refine Cov.g_on rfl ?_
                    refine Cov.q .ro (.fieldAddr 3 rfl fl46_3 ty3.sz rfl) rfl ?_
                    refine Cov.g_on rfl ?_
                    refine Cov.q .ro (.load_own 0 rfl rfl ty3 rfl) rfl ?_
                    refine Cov.g_on rfl ?_
                    refine Cov.q .ro (.leq rfl rfl) rfl ?_
                    refine Cov.q .ro (.pick_t rfl rfl) rfl ?_
                    refine Cov.prune _ ?_ (Cov.same rfl rfl rfl (hb38 () trivial))
                    exact ⟨dand_t c37, rfl, trivial⟩
                  · refine Cov.g_off rfl rfl rfl ?_
                    refine Cov.g_off rfl rfl rfl ?_
                    refine Cov.g_off rfl rfl rfl ?_
                    refine Cov.q .ro (.pick_f rfl rfl) rfl ?_
                    refine Cov.prune _ ?_ (Cov.same rfl rfl rfl (hb38 () trivial))
                    exact ⟨dand_f c37, rfl, trivial⟩
              · intro hb34
                refine Cov.split 51 rfl (fun c33 => ?_) (fun c33 => ?_)
                · refine Cov.g_on rfl ?_
                  refine Cov.q .ro (.fieldAddr 2 rfl fl46_2 ty3.sz rfl) rfl ?_
                  refine Cov.g_on rfl ?_
                  refine Cov.q .ro (.load_own 0 rfl rfl ty3 rfl) rfl ?_
                  refine Cov.g_on rfl ?_
                  refine Cov.q .ro (.leq rfl rfl) rfl ?_
                  refine Cov.q .ro (.pick_t rfl rfl) rfl ?_
                  refine Cov.prune _ ?_ (Cov.same rfl rfl rfl (hb34 () trivial))
                  exact ⟨dand_t c33, rfl, trivial⟩
                · refine Cov.g_off rfl rfl rfl ?_
                  refine Cov.g_off rfl rfl rfl ?_
                  refine Cov.g_off rfl rfl rfl ?_
                  refine Cov.q .ro (.pick_f rfl rfl) rfl ?_
                  refine Cov.prune _ ?_ (Cov.same rfl rfl rfl (hb34 () trivial))
                  exact ⟨dand_f c33, rfl, trivial⟩
            · intro hb30
              refine Cov.split 46 rfl (fun c29 => ?_) (fun c29 => ?_)
              · refine Cov.g_on rfl ?_
                refine Cov.q .ro (.fieldAddr 3 rfl fl46_3 ty3.sz rfl) rfl ?_
                refine Cov.g_on rfl ?_
                refine Cov.q .ro (.load_own 0 rfl rfl ty3 rfl) rfl ?_
                refine Cov.g_on rfl ?_
                refine Cov.q .ro (.geq rfl rfl) rfl ?_
                refine Cov.q .ro (.pick_t rfl rfl) rfl ?_
                refine Cov.prune _ ?_ (Cov.same rfl rfl rfl (hb30 () trivial))
                exact ⟨dand_t c29, rfl, trivial⟩
              · refine Cov.g_off rfl rfl rfl ?_
                refine Cov.g_off rfl rfl rfl ?_
                refine Cov.g_off rfl rfl rfl ?_
                refine Cov.q .ro (.pick_f rfl rfl) rfl ?_
                refine Cov.prune _ ?_ (Cov.same rfl rfl rfl (hb30 () trivial))
                exact ⟨dand_f c29, rfl, trivial⟩
          · have r45 := ifF r26 c27; clear r26
            refine Cov.skip ?_
            refine Cov.inBlock ?_
            refine Cov.seq ?_
            refine Cov.region rfl ?_
            refine Cov.q .ro (.assign rfl) rfl ?_
            refine Cov.region_end ?_
            cases r45
            refine Cov.drop 1 0 [] _ rfl rfl ?_
            refine Cov.retS (c := ⟨47, none⟩) (.inr ⟨_, rfl⟩) [.tmp 2] [_] rfl Try.func47 Try.results47 ⟨RV.tmp rfl, trivial⟩ (fun _ h => List.mem_cons_of_mem _ h) ⟨rfl, rfl, rfl⟩
  · intro hb3
    refine Cov.split 6 rfl (fun c2 => ?_) (fun c2 => ?_)
    · refine Cov.g_off rfl rfl rfl ?_
      refine Cov.g_off rfl rfl rfl ?_
      refine Cov.g_off rfl rfl rfl ?_
      refine Cov.q .ro (.pick_t rfl rfl) rfl ?_
      refine Cov.prune _ ?_ (Cov.same rfl rfl rfl (hb3 () trivial))
      exact ⟨dor_t c2, rfl, trivial⟩
    · refine Cov.g_on rfl ?_
      refine Cov.q .ro (.fieldAddr 1 rfl fl46_1 ty3.sz rfl) rfl ?_
      refine Cov.g_on rfl ?_
      refine Cov.q .ro (.load_own 0 rfl rfl ty3 rfl) rfl ?_
      refine Cov.g_on rfl ?_
      refine Cov.q .ro (.gtr rfl rfl) rfl ?_
      refine Cov.q .ro (.pick_f rfl rfl) rfl ?_
      refine Cov.prune _ ?_ (Cov.same rfl rfl rfl (hb3 () trivial))
      exact ⟨dor_f c2, rfl, trivial⟩
set_option maxHeartbeats 4000000 in
set_option maxRecDepth 100000 in
theorem ref23_Units_c {Fs : List Hp} {G : Hp} {x0_0 : Int} {x0_1 : Int} {x0_2 : Int} {x0_3 : Int} {x1 : Int} {r : Int} (hG : G ∈ Fs)  (h : ref23_Units (x0_0, x0_1, x0_2, x0_3) x1 = some r) : RetS Try.prog 48 #[.agg #[.int .i64 x0_0, .int .i64 x0_1, .int .i64 x0_2, .int .i64 x0_3], .int .i64 x1] Fs [] [] (fun v bo so => v = .int .i64 r ∧ bo = [] ∧ so = []) := by
  unfold ref23_Units at h
  try dsimp only at h
  refine RetS.of (vs := [_, _]) Try.func48 rfl Try.ntmps48 [(0, _), (1, _)] ⟨rfl, rfl, trivial⟩ rfl hG fun w0 S0 hS0 B0 => ?_
  refine Cov.seq ?_
  refine Cov.region rfl ?_
  refine Cov.box [_, _, _, _] .ro rfl rfl rfl (fun b1 hb1 => ?_)
  refine Cov.q .ro (.assign rfl) rfl ?_
  refine Cov.region_end ?_
  refine Cov.seq ?_
  refine Cov.seq ?_
  refine Cov.region rfl ?_
  refine Cov.q .ro (.load_own_a 0 [_, _, _, _] rfl rfl ty46 rfl) rfl ?_
  obtain ⟨u2, hu2, r3⟩ := bind_some h; clear h
  refine Cov.callS (b1 := []) (b2 := [_]) (s1 := []) [_] [] .ro rfl rfl Try.call47 rfl rfl (ref23_Shape_c (G := G) List.mem_cons_self  hu2) rfl (fun v5 bo so h4 => ?_)
  obtain ⟨rfl, rfl, rfl⟩ := h4
  refine Cov.same (bl' := [_]) (sl' := []) rfl rfl rfl ?_
  refine Cov.q .ro (.not rfl) rfl ?_
  refine Cov.q .ro (.move rfl) rfl ?_
  refine Cov.cutR 3 (β := Unit) (fun y => [(11, .bool (decide (((!u2) = true) ∨ (x1 < 1))))]) [(1, _), (2, _)] (fun y => G :: Fs) (fun y => []) [_] (fun y => []) [] (fun y => True) ⟨rfl, rfl, trivial⟩ [0] rfl [] rfl ?_ ?_
  · rintro _ _
    refine Cov.prune [(11, .bool (decide (((!u2) = true) ∨ (x1 < 1)))), (1, _), (2, _)] ⟨rfl, rfl, rfl, trivial⟩ ?_
    refine Cov.same (bl' := [_]) (sl' := []) (Fs' := G :: Fs) rfl rfl rfl ?_
    refine Cov.q .ro (.move rfl) rfl ?_
    refine Cov.cutR 3 (β := Unit) (fun y => [(15, .bool (decide ((((!u2) = true) ∨ (x1 < 1)) ∨ (1024 < x1))))]) [(1, _), (2, _)] (fun y => G :: Fs) (fun y => []) [_] (fun y => []) [] (fun y => True) ⟨rfl, rfl, trivial⟩ [0] rfl [] rfl ?_ ?_
    · rintro _ _
      refine Cov.prune [(15, .bool (decide ((((!u2) = true) ∨ (x1 < 1)) ∨ (1024 < x1)))), (1, _), (2, _)] ⟨rfl, rfl, rfl, trivial⟩ ?_
      refine Cov.same (bl' := [_]) (sl' := []) (Fs' := G :: Fs) rfl rfl rfl ?_
      refine Cov.region_end ?_
      refine Cov.cond_dec rfl (fun c14 => ?_) (fun c14 => ?_)
      · have r15 := ifT r3 c14; clear r3
        refine Cov.seq ?_
        refine Cov.region rfl ?_
        refine Cov.q .ro (.assign rfl) rfl ?_
        refine Cov.region_end ?_
        cases r15
        refine Cov.drop 1 0 [] _ rfl rfl ?_
        refine Cov.retS (c := ⟨48, none⟩) (.inr ⟨_, rfl⟩) [.tmp 4] [_] rfl Try.func48 Try.results48 ⟨RV.tmp rfl, trivial⟩ (fun _ h => List.mem_cons_of_mem _ h) ⟨rfl, rfl, rfl⟩
      · have r16 := ifF r3 c14; clear r3
        refine Cov.skip ?_
        refine Cov.seq ?_
        refine Cov.seq ?_
        refine Cov.region rfl ?_
        refine Cov.q .ro (.fieldAddr 0 rfl fl46_0 ty3.sz rfl) rfl ?_
        refine Cov.q .ro (.load_own 0 rfl rfl ty3 rfl) rfl ?_
        refine Cov.q .ro (.eql rfl rfl) rfl ?_
        refine Cov.region_end ?_
        refine Cov.cond_dec rfl (fun c17 => ?_) (fun c17 => ?_)
        · have r18 := ifT r16 c17; clear r16
          refine Cov.seq ?_
          refine Cov.region rfl ?_
          refine Cov.q .ro (.move rfl) rfl ?_
          refine Cov.q .ro (.fieldAddr 3 rfl fl46_3 ty3.sz rfl) rfl ?_
          refine Cov.q .ro (.load_own 0 rfl rfl ty3 rfl) rfl ?_
          refine Cov.q .ro (.addw rfl rfl) rfl ?_
          refine Cov.q .ro (.subw rfl rfl) rfl ?_
          refine Cov.q .ro (.fieldAddr 3 rfl fl46_3 ty3.sz rfl) rfl ?_
          refine Cov.q .ro (.load_own 0 rfl rfl ty3 rfl) rfl ?_
          obtain ⟨u19, hu19, r20⟩ := bind_some r18; clear r18
          refine Cov.q .ro (.quow rfl rfl (nz_some hu19)) rfl ?_
          refine Cov.q .ro (.assign rfl) rfl ?_
          refine Cov.region_end ?_
          refine Cov.prune [(4, _)] ⟨rfl, trivial⟩ ?_
          cases r20
          refine Cov.drop 1 0 [] _ rfl rfl ?_
          refine Cov.retS (c := ⟨48, none⟩) (.inr ⟨_, rfl⟩) [.tmp 4] [_] rfl Try.func48 Try.results48 ⟨RV.tmp rfl, trivial⟩ (fun _ h => List.mem_cons_of_mem _ h) ⟨rfl, rfl, rfl⟩
        · have r21 := ifF r16 c17; clear r16
          refine Cov.skip ?_
          refine Cov.seq ?_
          refine Cov.region rfl ?_
          refine Cov.q .ro (.move rfl) rfl ?_
          refine Cov.q .ro (.assign rfl) rfl ?_
          refine Cov.region_end ?_
          cases r21
          refine Cov.drop 1 0 [] _ rfl rfl ?_
          refine Cov.retS (c := ⟨48, none⟩) (.inr ⟨_, rfl⟩) [.tmp 4] [_] rfl Try.func48 Try.results48 ⟨RV.tmp rfl, trivial⟩ (fun _ h => List.mem_cons_of_mem _ h) ⟨rfl, rfl, rfl⟩
    · intro hb11
      refine Cov.split 12 rfl (fun c10 => ?_) (fun c10 => ?_)
      · refine Cov.g_off rfl rfl rfl ?_
        refine Cov.g_off rfl rfl rfl ?_
        refine Cov.q .ro (.pick_t rfl rfl) rfl ?_
        refine Cov.prune _ ?_ (Cov.same rfl rfl rfl (hb11 () trivial))
        exact ⟨dor_t c10, rfl, rfl, trivial⟩
      · refine Cov.g_on rfl ?_
        refine Cov.q .ro (.move rfl) rfl ?_
        refine Cov.g_on rfl ?_
        refine Cov.q .ro (.gtr rfl rfl) rfl ?_
        refine Cov.q .ro (.pick_f rfl rfl) rfl ?_
        refine Cov.prune _ ?_ (Cov.same rfl rfl rfl (hb11 () trivial))
        exact ⟨dor_f c10, rfl, rfl, trivial⟩
  · intro hb7
    refine Cov.split_b 8 rfl (fun c6 => ?_) (fun c6 => ?_)
    · refine Cov.g_off rfl rfl rfl ?_
      refine Cov.g_off rfl rfl rfl ?_
      refine Cov.q .ro (.pick_t rfl rfl) rfl ?_
      refine Cov.prune _ ?_ (Cov.same rfl rfl rfl (hb7 () trivial))
      exact ⟨dor_t c6, rfl, rfl, trivial⟩
    · refine Cov.g_on rfl ?_
      refine Cov.q .ro (.move rfl) rfl ?_
      refine Cov.g_on rfl ?_
      refine Cov.q .ro (.lss rfl rfl) rfl ?_
      refine Cov.q .ro (.pick_f rfl rfl) rfl ?_
      refine Cov.prune _ ?_ (Cov.same rfl rfl rfl (hb7 () trivial))
      exact ⟨dor_f (bne_of c6), rfl, rfl, trivial⟩
set_option maxHeartbeats 4000000 in
set_option maxRecDepth 100000 in
theorem ref28_Units_c {Fs : List Hp} {G : Hp} {x0_0 : Int} {x0_1 : Int} {x0_2 : Int} {x0_3 : Int} {x1 : Int} {r : (Int × Int)} (hG : G ∈ Fs)  (h : ref28_Units (x0_0, x0_1, x0_2, x0_3) x1 = some r) : RetS Try.prog 29 #[.agg #[.int .i64 x0_0, .int .i64 x0_1, .int .i64 x0_2, .int .i64 x0_3], .int .i64 x1] Fs [] [] (fun v bo so => v = .tuple #[.int .i64 r.1, .int .i64 r.2] ∧ bo = [] ∧ so = []) := by
  unfold ref28_Units at h
  try dsimp only at h
  refine RetS.of (vs := [_, _]) Try.func29 rfl Try.ntmps29 [(0, _), (1, _)] ⟨rfl, rfl, trivial⟩ rfl hG fun w0 S0 hS0 B0 => ?_
  refine Cov.seq ?_
  refine Cov.region rfl ?_
  refine Cov.box [_, _, _, _] .ro rfl rfl rfl (fun b1 hb1 => ?_)
  refine Cov.q .ro (.assign rfl) rfl ?_
  refine Cov.q .ro (.assign rfl) rfl ?_
  refine Cov.region_end ?_
  refine Cov.seq ?_
  refine Cov.seq ?_
  refine Cov.region rfl ?_
  refine Cov.q .ro (.load_own_a 0 [_, _, _, _] rfl rfl ty46 rfl) rfl ?_
  obtain ⟨u2, hu2, r3⟩ := bind_some h; clear h
  refine Cov.callS (b1 := []) (b2 := [_]) (s1 := []) [_] [] .ro rfl rfl Try.call47 rfl rfl (ref23_Shape_c (G := G) List.mem_cons_self  hu2) rfl (fun v5 bo so h4 => ?_)
  obtain ⟨rfl, rfl, rfl⟩ := h4
  refine Cov.same (bl' := [_]) (sl' := []) rfl rfl rfl ?_
  refine Cov.q .ro (.not rfl) rfl ?_
  refine Cov.region_end ?_
  refine Cov.cond rfl (fun c6 => ?_) (fun c6 => ?_)
  · have r7 := ifT r3 c6; clear r3
    refine Cov.seq ?_
    refine Cov.region rfl ?_
    refine Cov.q .ro (.assign rfl) rfl ?_
    refine Cov.q .ro (.assign rfl) rfl ?_
    refine Cov.region_end ?_
    cases r7
    refine Cov.drop 1 0 [] _ rfl rfl ?_
    refine Cov.retS (c := ⟨29, none⟩) (.inr ⟨_, rfl⟩) [.tmp 4, .tmp 5] [_, _] rfl Try.func29 Try.results29 ⟨RV.tmp rfl, RV.tmp rfl, trivial⟩ (fun _ h => List.mem_cons_of_mem _ h) ⟨rfl, rfl, rfl⟩
  · have r8 := ifBF r3 c6; clear r3
    refine Cov.skip ?_
    refine Cov.seq ?_
    refine Cov.seq ?_
    refine Cov.region rfl ?_
    refine Cov.q .ro (.move rfl) rfl ?_
    refine Cov.q .ro (.lss rfl rfl) rfl ?_
    refine Cov.q .ro (.move rfl) rfl ?_
    refine Cov.cutR 3 (β := Unit) (fun y => [(14, .bool (decide ((x1 < 1) ∨ (1024 < x1))))]) [(1, _), (2, _)] (fun y => G :: Fs) (fun y => []) [_] (fun y => []) [] (fun y => True) ⟨rfl, rfl, trivial⟩ [0] rfl [] rfl ?_ ?_
    · rintro _ _
      refine Cov.prune [(14, .bool (decide ((x1 < 1) ∨ (1024 < x1)))), (1, _), (2, _)] ⟨rfl, rfl, rfl, trivial⟩ ?_
      refine Cov.same (bl' := [_]) (sl' := []) (Fs' := G :: Fs) rfl rfl rfl ?_
      refine Cov.region_end ?_
      refine Cov.cond_dec rfl (fun c13 => ?_) (fun c13 => ?_)
      · have r14 := ifT r8 c13; clear r8
        refine Cov.seq ?_
        refine Cov.region rfl ?_
        refine Cov.q .ro (.assign rfl) rfl ?_
        refine Cov.q .ro (.assign rfl) rfl ?_
        refine Cov.region_end ?_
        cases r14
        refine Cov.drop 1 0 [] _ rfl rfl ?_
        refine Cov.retS (c := ⟨29, none⟩) (.inr ⟨_, rfl⟩) [.tmp 4, .tmp 5] [_, _] rfl Try.func29 Try.results29 ⟨RV.tmp rfl, RV.tmp rfl, trivial⟩ (fun _ h => List.mem_cons_of_mem _ h) ⟨rfl, rfl, rfl⟩
      · have r15 := ifF r8 c13; clear r8
        refine Cov.skip ?_
        refine Cov.seq ?_
        refine Cov.region rfl ?_
        refine Cov.q .ro (.load_own_a 0 [_, _, _, _] rfl rfl ty46 rfl) rfl ?_
        refine Cov.q .ro (.move rfl) rfl ?_
        obtain ⟨u16, hu16, r17⟩ := bind_some r15; clear r15
        refine Cov.callS (b1 := []) (b2 := [_]) (s1 := []) [_, _] [] .ro rfl rfl Try.call48 rfl rfl (ref23_Units_c (G := G) List.mem_cons_self  hu16) rfl (fun v19 bo so h18 => ?_)
        obtain ⟨rfl, rfl, rfl⟩ := h18
        refine Cov.same (bl' := [_]) (sl' := []) rfl rfl rfl ?_
        refine Cov.q .ro (.assign rfl) rfl ?_
        refine Cov.q .ro (.assign rfl) rfl ?_
        refine Cov.region_end ?_
        cases r17
        refine Cov.drop 1 0 [] _ rfl rfl ?_
        refine Cov.retS (c := ⟨29, none⟩) (.inr ⟨_, rfl⟩) [.tmp 4, .tmp 5] [_, _] rfl Try.func29 Try.results29 ⟨RV.tmp rfl, RV.tmp rfl, trivial⟩ (fun _ h => List.mem_cons_of_mem _ h) ⟨rfl, rfl, rfl⟩
    · intro hb10
      refine Cov.split 11 rfl (fun c9 => ?_) (fun c9 => ?_)
      · refine Cov.g_off rfl rfl rfl ?_
        refine Cov.g_off rfl rfl rfl ?_
        refine Cov.q .ro (.pick_t rfl rfl) rfl ?_
        refine Cov.prune _ ?_ (Cov.same rfl rfl rfl (hb10 () trivial))
        exact ⟨dor_t c9, rfl, rfl, trivial⟩
      · refine Cov.g_on rfl ?_
        refine Cov.q .ro (.move rfl) rfl ?_
        refine Cov.g_on rfl ?_
        refine Cov.q .ro (.gtr rfl rfl) rfl ?_
        refine Cov.q .ro (.pick_f rfl rfl) rfl ?_
        refine Cov.prune _ ?_ (Cov.same rfl rfl rfl (hb10 () trivial))
        exact ⟨dor_f c9, rfl, rfl, trivial⟩
set_option maxHeartbeats 4000000 in
set_option maxRecDepth 100000 in
theorem ref28_Of_c {Fs : List Hp} {G : Hp} {x0_0 : Int} {x0_1 : Int} {x0_2 : Int} {x0_3 : Int} {x1 : Int} {x2 : Int} {x3 : Int} {r : ((Int × Int × Int) × Int)} (hG : G ∈ Fs)  (h : ref28_Of (x0_0, x0_1, x0_2, x0_3) x1 x2 x3 = some r) : RetS Try.prog 14 #[.agg #[.int .i64 x0_0, .int .i64 x0_1, .int .i64 x0_2, .int .i64 x0_3], .int .i64 x1, .int .i64 x2, .int .i64 x3] Fs [] [] (fun v bo so => v = .tuple #[.agg #[.int .i64 r.1.1, .int .i64 r.1.2.1, .int .i64 r.1.2.2], .int .i64 r.2] ∧ bo = [] ∧ so = []) := by
  unfold ref28_Of at h
  try dsimp only at h
  refine RetS.of (vs := [_, _, _, _]) Try.func14 rfl Try.ntmps14 [(0, _), (1, _), (2, _), (3, _)] ⟨rfl, rfl, rfl, rfl, trivial⟩ rfl hG fun w0 S0 hS0 B0 => ?_
  refine Cov.seq ?_
  refine Cov.region rfl ?_
  refine Cov.box [_, _, _, _] .ro rfl rfl rfl (fun b1 hb1 => ?_)
  refine Cov.alloc .ro ty49 rfl (fun b2 hb2 => ?_)
  refine Cov.q .ro (.assign rfl) rfl ?_
  refine Cov.region_end ?_
  refine Cov.seq ?_
  refine Cov.region rfl ?_
  refine Cov.q .ro (.load_own_a 1 [_, _, _, _] rfl rfl ty46 rfl) rfl ?_
  refine Cov.q .ro (.move rfl) rfl ?_
  obtain ⟨u3, hu3, r4⟩ := bind_some h; clear h
  refine Cov.callS (b1 := []) (b2 := [_, _]) (s1 := []) [_, _] [] .ro rfl rfl Try.call29 rfl rfl (ref28_Units_c (G := G) List.mem_cons_self  hu3) rfl (fun v6 bo so h5 => ?_)
  obtain ⟨rfl, rfl, rfl⟩ := h5
  refine Cov.same (bl' := [_, _]) (sl' := []) rfl rfl rfl ?_
  refine Cov.q .ro (.move rfl) rfl ?_
  refine Cov.q .ro (.extract rfl rfl) rfl ?_
  refine Cov.q .ro (.extract rfl rfl) rfl ?_
  refine Cov.q .ro (.assign rfl) rfl ?_
  refine Cov.q .ro (.assign rfl) rfl ?_
  refine Cov.region_end ?_
  refine Cov.seq ?_
  refine Cov.seq ?_
  refine Cov.region rfl ?_
  refine Cov.q .ro (.move rfl) rfl ?_
  refine Cov.q .ro (.neq rfl rfl) rfl ?_
  refine Cov.region_end ?_
  refine Cov.cond_dec rfl (fun c7 => ?_) (fun c7 => ?_)
  · have r8 := ifT r4 c7; clear r4
    refine Cov.seq ?_
    refine Cov.region rfl ?_
    refine Cov.q .ro (.build [_, _, _] [] ty49 pl49 rfl rfl) rfl ?_
    refine Cov.q .ro (.move rfl) rfl ?_
    refine Cov.store 0 [_, _, _] [_, _] .ro rfl rfl rfl ty49 rfl rfl rfl rfl ?_
    refine Cov.q .ro (.assign rfl) rfl ?_
    refine Cov.region_end ?_
    refine Cov.prune [(8, _), (9, _)] ⟨rfl, rfl, trivial⟩ ?_
    cases r8
    refine Cov.retSD 2 (c := ⟨14, none⟩) (.inr ⟨_, rfl⟩) [.cell 8 49, .tmp 9] [_, _] rfl Try.func14 Try.results14 ⟨RV.cell_a 0 [_, _, _] rfl rfl ty49 rfl, RV.tmp rfl, trivial⟩ (fun _ h => List.mem_cons_of_mem _ h) ⟨rfl, rfl, rfl⟩
  · have r9 := ifF r4 c7; clear r4
    refine Cov.skip ?_
    refine Cov.seq ?_
    refine Cov.seq ?_
    refine Cov.region rfl ?_
    refine Cov.q .ro (.move rfl) rfl ?_
    refine Cov.q .ro (.lss rfl rfl) rfl ?_
    refine Cov.q .ro (.move rfl) rfl ?_
    refine Cov.cutR 3 (β := Unit) (fun y => [(28, .bool (decide ((x2 < 1) ∨ (64 < x2))))]) [(2, _), (3, _), (4, _), (8, _), (10, _)] (fun y => G :: Fs) (fun y => []) [_, _] (fun y => []) [] (fun y => True) ⟨rfl, rfl, rfl, rfl, rfl, trivial⟩ [0, 1] rfl [] rfl ?_ ?_
    · rintro _ _
      refine Cov.prune [(28, .bool (decide ((x2 < 1) ∨ (64 < x2)))), (2, _), (3, _), (4, _), (8, _), (10, _)] ⟨rfl, rfl, rfl, rfl, rfl, rfl, trivial⟩ ?_
      refine Cov.same (bl' := [_, _]) (sl' := []) (Fs' := G :: Fs) rfl rfl rfl ?_
      refine Cov.q .ro (.move rfl) rfl ?_
      refine Cov.cutR 3 (β := Unit) (fun y => [(32, .bool (decide (((x2 < 1) ∨ (64 < x2)) ∨ (x3 < 1))))]) [(2, _), (3, _), (4, _), (8, _), (10, _)] (fun y => G :: Fs) (fun y => []) [_, _] (fun y => []) [] (fun y => True) ⟨rfl, rfl, rfl, rfl, rfl, trivial⟩ [0, 1] rfl [] rfl ?_ ?_
      · rintro _ _
        refine Cov.prune [(32, .bool (decide (((x2 < 1) ∨ (64 < x2)) ∨ (x3 < 1)))), (2, _), (3, _), (4, _), (8, _), (10, _)] ⟨rfl, rfl, rfl, rfl, rfl, rfl, trivial⟩ ?_
        refine Cov.same (bl' := [_, _]) (sl' := []) (Fs' := G :: Fs) rfl rfl rfl ?_
        refine Cov.q .ro (.move rfl) rfl ?_
        refine Cov.cutR 3 (β := Unit) (fun y => [(36, .bool (decide ((((x2 < 1) ∨ (64 < x2)) ∨ (x3 < 1)) ∨ (16 < x3))))]) [(2, _), (3, _), (4, _), (8, _), (10, _)] (fun y => G :: Fs) (fun y => []) [_, _] (fun y => []) [] (fun y => True) ⟨rfl, rfl, rfl, rfl, rfl, trivial⟩ [0, 1] rfl [] rfl ?_ ?_
        · rintro _ _
          refine Cov.prune [(36, .bool (decide ((((x2 < 1) ∨ (64 < x2)) ∨ (x3 < 1)) ∨ (16 < x3)))), (2, _), (3, _), (4, _), (8, _), (10, _)] ⟨rfl, rfl, rfl, rfl, rfl, rfl, trivial⟩ ?_
          refine Cov.same (bl' := [_, _]) (sl' := []) (Fs' := G :: Fs) rfl rfl rfl ?_
          refine Cov.region_end ?_
          refine Cov.cond_dec rfl (fun c22 => ?_) (fun c22 => ?_)
          · have r23 := ifT r9 c22; clear r9
            refine Cov.seq ?_
            refine Cov.region rfl ?_
            refine Cov.q .ro (.build [_, _, _] [] ty49 pl49 rfl rfl) rfl ?_
            refine Cov.store 0 [_, _, _] [_, _] .ro rfl rfl rfl ty49 rfl rfl rfl rfl ?_
            refine Cov.q .ro (.assign rfl) rfl ?_
            refine Cov.region_end ?_
            cases r23
            refine Cov.retSD 2 (c := ⟨14, none⟩) (.inr ⟨_, rfl⟩) [.cell 8 49, .tmp 9] [_, _] rfl Try.func14 Try.results14 ⟨RV.cell_a 0 [_, _, _] rfl rfl ty49 rfl, RV.tmp rfl, trivial⟩ (fun _ h => List.mem_cons_of_mem _ h) ⟨rfl, rfl, rfl⟩
          · have r24 := ifF r9 c22; clear r9
            refine Cov.skip ?_
            refine Cov.seq ?_
            refine Cov.region rfl ?_
            refine Cov.q .ro (.move rfl) rfl ?_
            refine Cov.q .ro (.fieldAddr 1 rfl fl46_1 ty3.sz rfl) rfl ?_
            refine Cov.q .ro (.load_own 1 rfl rfl ty3 rfl) rfl ?_
            refine Cov.q .ro (.mulw rfl rfl) rfl ?_
            refine Cov.q .ro (.assign rfl) rfl ?_
            refine Cov.region_end ?_
            refine Cov.seq ?_
            refine Cov.region rfl ?_
            refine Cov.q .ro (.move rfl) rfl ?_
            refine Cov.q .ro (.move rfl) rfl ?_
            refine Cov.q .ro (.mulw rfl rfl) rfl ?_
            refine Cov.q .ro (.move rfl) rfl ?_
            refine Cov.q .ro (.move rfl) rfl ?_
            refine Cov.q .ro (.mulw rfl rfl) rfl ?_
            refine Cov.q .ro (.move rfl) rfl ?_
            refine Cov.q .ro (.move rfl) rfl ?_
            refine Cov.q .ro (.mulw rfl rfl) rfl ?_
            refine Cov.q .ro (.move rfl) rfl ?_
            refine Cov.q .ro (.mulw rfl rfl) rfl ?_
            refine Cov.q .ro (.build [_, _, _] [(0, _), (1, _), (2, _)] ty49 pl49 rfl rfl) rfl ?_
            refine Cov.store 0 [_, _, _] [_, _] .ro rfl rfl rfl ty49 rfl rfl rfl rfl ?_
            refine Cov.q .ro (.assign rfl) rfl ?_
            refine Cov.region_end ?_
            refine Cov.prune [(8, _), (9, _)] ⟨rfl, rfl, trivial⟩ ?_
            cases r24
            refine Cov.retSD 2 (c := ⟨14, none⟩) (.inr ⟨_, rfl⟩) [.cell 8 49, .tmp 9] [_, _] rfl Try.func14 Try.results14 ⟨RV.cell_a 0 [_, _, _] rfl rfl ty49 rfl, RV.tmp rfl, trivial⟩ (fun _ h => List.mem_cons_of_mem _ h) ⟨rfl, rfl, rfl⟩
        · intro hb19
          refine Cov.split 33 rfl (fun c18 => ?_) (fun c18 => ?_)
          · refine Cov.g_off rfl rfl rfl ?_
            refine Cov.g_off rfl rfl rfl ?_
            refine Cov.q .ro (.pick_t rfl rfl) rfl ?_
            refine Cov.prune _ ?_ (Cov.same rfl rfl rfl (hb19 () trivial))
            exact ⟨dor_t c18, rfl, rfl, rfl, rfl, rfl, trivial⟩
          · refine Cov.g_on rfl ?_
            refine Cov.q .ro (.move rfl) rfl ?_
            refine Cov.g_on rfl ?_
            refine Cov.q .ro (.gtr rfl rfl) rfl ?_
            refine Cov.q .ro (.pick_f rfl rfl) rfl ?_
            refine Cov.prune _ ?_ (Cov.same rfl rfl rfl (hb19 () trivial))
            exact ⟨dor_f c18, rfl, rfl, rfl, rfl, rfl, trivial⟩
      · intro hb15
        refine Cov.split 29 rfl (fun c14 => ?_) (fun c14 => ?_)
        · refine Cov.g_off rfl rfl rfl ?_
          refine Cov.g_off rfl rfl rfl ?_
          refine Cov.q .ro (.pick_t rfl rfl) rfl ?_
          refine Cov.prune _ ?_ (Cov.same rfl rfl rfl (hb15 () trivial))
          exact ⟨dor_t c14, rfl, rfl, rfl, rfl, rfl, trivial⟩
        · refine Cov.g_on rfl ?_
          refine Cov.q .ro (.move rfl) rfl ?_
          refine Cov.g_on rfl ?_
          refine Cov.q .ro (.lss rfl rfl) rfl ?_
          refine Cov.q .ro (.pick_f rfl rfl) rfl ?_
          refine Cov.prune _ ?_ (Cov.same rfl rfl rfl (hb15 () trivial))
          exact ⟨dor_f c14, rfl, rfl, rfl, rfl, rfl, trivial⟩
    · intro hb11
      refine Cov.split 25 rfl (fun c10 => ?_) (fun c10 => ?_)
      · refine Cov.g_off rfl rfl rfl ?_
        refine Cov.g_off rfl rfl rfl ?_
        refine Cov.q .ro (.pick_t rfl rfl) rfl ?_
        refine Cov.prune _ ?_ (Cov.same rfl rfl rfl (hb11 () trivial))
        exact ⟨dor_t c10, rfl, rfl, rfl, rfl, rfl, trivial⟩
      · refine Cov.g_on rfl ?_
        refine Cov.q .ro (.move rfl) rfl ?_
        refine Cov.g_on rfl ?_
        refine Cov.q .ro (.gtr rfl rfl) rfl ?_
        refine Cov.q .ro (.pick_f rfl rfl) rfl ?_
        refine Cov.prune _ ?_ (Cov.same rfl rfl rfl (hb11 () trivial))
        exact ⟨dor_f c10, rfl, rfl, rfl, rfl, rfl, trivial⟩
end Go.Proofs.Ytnfalgmfmiolbaa
end

section
namespace Go.Proofs.Ytnfalgmfmiolbaa
open Go.RowKit
set_option linter.unusedSimpArgs false
set_option linter.unusedVariables false
set_option synthInstance.maxSize 2000
set_option synthInstance.maxHeartbeats 400000
set_option maxHeartbeats 4000000 in
set_option maxRecDepth 100000 in
theorem ref28_Add_c {Fs : List Hp} {G : Hp} {x0_0 : Int} {x0_1 : Int} {x0_2 : Int} {x1_0 : Int} {x1_1 : Int} {x1_2 : Int} {r : (Int × Int × Int)} (hG : G ∈ Fs)  (h : ref28_Add (x0_0, x0_1, x0_2) (x1_0, x1_1, x1_2) = some r) : RetS Try.prog 15 #[.agg #[.int .i64 x0_0, .int .i64 x0_1, .int .i64 x0_2], .agg #[.int .i64 x1_0, .int .i64 x1_1, .int .i64 x1_2]] Fs [] [] (fun v bo so => v = .agg #[.int .i64 r.1, .int .i64 r.2.1, .int .i64 r.2.2] ∧ bo = [] ∧ so = []) := by
  unfold ref28_Add at h
  try dsimp only at h
  refine RetS.of (vs := [_, _]) Try.func15 rfl Try.ntmps15 [(0, _), (1, _)] ⟨rfl, rfl, trivial⟩ rfl hG fun w0 S0 hS0 B0 => ?_
  refine Cov.seq ?_
  refine Cov.region rfl ?_
  refine Cov.box [_, _, _] .ro rfl rfl rfl (fun b1 hb1 => ?_)
  refine Cov.box [_, _, _] .ro rfl rfl rfl (fun b2 hb2 => ?_)
  refine Cov.alloc .ro ty49 rfl (fun b3 hb3 => ?_)
  refine Cov.region_end ?_
  refine Cov.seq ?_
  refine Cov.region rfl ?_
  refine Cov.q .ro (.fieldAddr 0 rfl fl49_0 ty3.sz rfl) rfl ?_
  refine Cov.q .ro (.load_own 2 rfl rfl ty3 rfl) rfl ?_
  refine Cov.q .ro (.fieldAddr 0 rfl fl49_0 ty3.sz rfl) rfl ?_
  refine Cov.q .ro (.load_own 1 rfl rfl ty3 rfl) rfl ?_
  refine Cov.q .ro (.addw rfl rfl) rfl ?_
  refine Cov.q .ro (.fieldAddr 1 rfl fl49_1 ty3.sz rfl) rfl ?_
  refine Cov.q .ro (.load_own 2 rfl rfl ty3 rfl) rfl ?_
  refine Cov.q .ro (.fieldAddr 1 rfl fl49_1 ty3.sz rfl) rfl ?_
  refine Cov.q .ro (.load_own 1 rfl rfl ty3 rfl) rfl ?_
  refine Cov.q .ro (.addw rfl rfl) rfl ?_
  refine Cov.q .ro (.fieldAddr 2 rfl fl49_2 ty3.sz rfl) rfl ?_
  refine Cov.q .ro (.load_own 2 rfl rfl ty3 rfl) rfl ?_
  refine Cov.q .ro (.fieldAddr 2 rfl fl49_2 ty3.sz rfl) rfl ?_
  refine Cov.q .ro (.load_own 1 rfl rfl ty3 rfl) rfl ?_
  refine Cov.q .ro (.addw rfl rfl) rfl ?_
  refine Cov.q .ro (.build [_, _, _] [(0, _), (1, _), (2, _)] ty49 pl49 rfl rfl) rfl ?_
  refine Cov.store 0 [_, _, _] [_, _, _] .ro rfl rfl rfl ty49 rfl rfl rfl rfl ?_
  refine Cov.region_end ?_
  refine Cov.prune [(4, _)] ⟨rfl, trivial⟩ ?_
  cases h
  refine Cov.retSD 3 (c := ⟨15, none⟩) (.inr ⟨_, rfl⟩) [.cell 4 49] [_] rfl Try.func15 Try.results15 ⟨RV.cell_a 0 [_, _, _] rfl rfl ty49 rfl, trivial⟩ (fun _ h => List.mem_cons_of_mem _ h) ⟨rfl, rfl, rfl⟩
set_option maxHeartbeats 4000000 in
set_option maxRecDepth 100000 in
theorem fence_sized_c {Fs : List Hp} {G : Hp} {x0 : Int} {r : Bool} (hG : G ∈ Fs)  (h : fence_sized x0 = some r) : RetS Try.prog 49 #[.int .i64 x0] Fs [] [] (fun v bo so => v = .bool r ∧ bo = [] ∧ so = []) := by
  unfold fence_sized at h
  try dsimp only at h
  refine RetS.of (vs := [_]) Try.func49 rfl Try.ntmps49 [(0, _)] ⟨rfl, trivial⟩ rfl hG fun w0 S0 hS0 B0 => ?_
  refine Cov.seq ?_
  refine Cov.region rfl ?_
  refine Cov.q .ro (.assign rfl) rfl ?_
  refine Cov.region_end ?_
  refine Cov.seq ?_
  refine Cov.region rfl ?_
  refine Cov.q .ro (.move rfl) rfl ?_
  refine Cov.q .ro (.geq rfl rfl) rfl ?_
  refine Cov.q .ro (.move rfl) rfl ?_
  refine Cov.cutR 3 (β := Unit) (fun y => [(8, .bool (decide ((2 ≤ x0) ∧ (x0 ≤ 8))))]) [(2, _)] (fun y => G :: Fs) (fun y => []) [] (fun y => []) [] (fun y => True) ⟨rfl, trivial⟩ [] rfl [] rfl ?_ ?_
  · rintro _ _
    refine Cov.prune [(8, .bool (decide ((2 ≤ x0) ∧ (x0 ≤ 8)))), (2, _)] ⟨rfl, rfl, trivial⟩ ?_
    refine Cov.same (bl' := []) (sl' := []) (Fs' := G :: Fs) rfl rfl rfl ?_
    refine Cov.q .ro (.assign rfl) rfl ?_
    refine Cov.region_end ?_
    cases h
    refine Cov.retS (c := ⟨49, none⟩) (.inr ⟨_, rfl⟩) [.tmp 2] [_] rfl Try.func49 Try.results49 ⟨RV.tmp rfl, trivial⟩ (fun _ h => List.mem_cons_of_mem _ h) ⟨rfl, rfl, rfl⟩
  · intro hb2
    refine Cov.split 5 rfl (fun c1 => ?_) (fun c1 => ?_)
    · refine Cov.g_on rfl ?_
      refine Cov.q .ro (.move rfl) rfl ?_
      refine Cov.g_on rfl ?_
      refine Cov.q .ro (.leq rfl rfl) rfl ?_
      refine Cov.q .ro (.pick_t rfl rfl) rfl ?_
      refine Cov.prune _ ?_ (Cov.same rfl rfl rfl (hb2 () trivial))
      exact ⟨dand_t c1, rfl, trivial⟩
    · refine Cov.g_off rfl rfl rfl ?_
      refine Cov.g_off rfl rfl rfl ?_
      refine Cov.q .ro (.pick_f rfl rfl) rfl ?_
      refine Cov.prune _ ?_ (Cov.same rfl rfl rfl (hb2 () trivial))
      exact ⟨dand_f c1, rfl, trivial⟩
set_option maxHeartbeats 4000000 in
set_option maxRecDepth 100000 in
theorem fence_proper_c {Fs : List Hp} {G : Hp} {x0 : ByteArray} {r : Bool} (hG : G ∈ Fs)  (h : fence_proper x0 = some r) : RetS Try.prog 59 #[.string x0] Fs [] [] (fun v bo so => v = .bool r ∧ bo = [] ∧ so = []) := by
  unfold fence_proper at h
  try dsimp only at h
  refine RetS.of (vs := [_]) Try.func59 rfl Try.ntmps59 [(0, _)] ⟨rfl, trivial⟩ rfl hG fun w0 S0 hS0 B0 => ?_
  refine Cov.seq ?_
  refine Cov.region rfl ?_
  refine Cov.q .ro (.assign rfl) rfl ?_
  refine Cov.region_end ?_
  refine Cov.seq ?_
  refine Cov.region rfl ?_
  refine Cov.q .ro (.move rfl) rfl ?_
  refine Cov.q .ro (.len_s rfl Try.underlying9) rfl ?_
  refine Cov.q .ro (.geq rfl rfl) rfl ?_
  refine Cov.q .ro (.move rfl) rfl ?_
  refine Cov.cutR 4 (β := Unit) (fun y => [(10, .bool (decide ((1 ≤ (x0.size : Int)) ∧ ((x0.size : Int) ≤ 32))))]) [(2, _)] (fun y => G :: Fs) (fun y => []) [] (fun y => []) [] (fun y => True) ⟨rfl, trivial⟩ [] rfl [] rfl ?_ ?_
  · rintro _ _
    refine Cov.prune [(10, .bool (decide ((1 ≤ (x0.size : Int)) ∧ ((x0.size : Int) ≤ 32)))), (2, _)] ⟨rfl, rfl, trivial⟩ ?_
    refine Cov.same (bl' := []) (sl' := []) (Fs' := G :: Fs) rfl rfl rfl ?_
    refine Cov.q .ro (.assign rfl) rfl ?_
    refine Cov.region_end ?_
    cases h
    refine Cov.retS (c := ⟨59, none⟩) (.inr ⟨_, rfl⟩) [.tmp 2] [_] rfl Try.func59 Try.results59 ⟨RV.tmp rfl, trivial⟩ (fun _ h => List.mem_cons_of_mem _ h) ⟨rfl, rfl, rfl⟩
  · intro hb2
    refine Cov.split 6 rfl (fun c1 => ?_) (fun c1 => ?_)
    · refine Cov.g_on rfl ?_
      refine Cov.q .ro (.move rfl) rfl ?_
      refine Cov.g_on rfl ?_
      refine Cov.q .ro (.len_s rfl Try.underlying9) rfl ?_
      refine Cov.g_on rfl ?_
      refine Cov.q .ro (.leq rfl rfl) rfl ?_
      refine Cov.q .ro (.pick_t rfl rfl) rfl ?_
      refine Cov.prune _ ?_ (Cov.same rfl rfl rfl (hb2 () trivial))
      exact ⟨dand_t c1, rfl, trivial⟩
    · refine Cov.g_off rfl rfl rfl ?_
      refine Cov.g_off rfl rfl rfl ?_
      refine Cov.g_off rfl rfl rfl ?_
      refine Cov.q .ro (.pick_f rfl rfl) rfl ?_
      refine Cov.prune _ ?_ (Cov.same rfl rfl rfl (hb2 () trivial))
      exact ⟨dand_f c1, rfl, trivial⟩
set_option maxHeartbeats 4000000 in
set_option maxRecDepth 100000 in
theorem fence_ascend_c {Fs : List Hp} {G : Hp} {a0 : Option Addr} {k0 : Nat} {x0 : List ByteArray} {r : Bool} (hG : G ∈ Fs) (s0 : SlR Rep.str G a0 k0 x0) (h : fence_ascend x0 = some r) : RetS Try.prog 50 #[.slice a0 x0.length k0] Fs [] [] (fun v bo so => v = .bool r ∧ bo = [] ∧ so = []) := by
  unfold fence_ascend at h
  try dsimp only at h
  refine RetS.of (vs := [_]) Try.func50 rfl Try.ntmps50 [(0, _)] ⟨rfl, trivial⟩ rfl hG fun w0 S0 hS0 B0 => ?_
  refine Cov.seq ?_
  refine Cov.region rfl ?_
  refine Cov.q .ro (.assign rfl) rfl ?_
  refine Cov.region_end ?_
  refine Cov.seq ?_
  refine Cov.seq ?_
  refine Cov.region rfl ?_
  refine Cov.q .ro (.move rfl) rfl ?_
  refine Cov.q .ro (.len_sl rfl rfl sl55) rfl ?_
  refine Cov.q .ro (.move rfl) rfl ?_
  refine Cov.region_end ?_
  refine Cov.block ?_
  refine Cov.loop2 (α := Nat × List ByteArray) (fun y => [(7, .int .i64 (y.1 : Int))]) [(0, _), (5, _), (6, _)] (fun y => []) (fun y => []) [] (fun y => []) [] (fun y => List.drop y.1 x0 = y.2 ∧ fence_ascend_L1 x0 y.2 y.1  = some r) (fun y => y.2.length) (0, x0) ⟨rfl, h⟩ ⟨rfl, rfl, rfl, rfl, trivial⟩ rfl rfl rfl (fun y hI hb70 => ?_)
  obtain ⟨i66, w67⟩ := y
  obtain ⟨g68, r69⟩ := hI
  try dsimp only at g68 r69
  refine Cov.prune [(7, .int .i64 (i66 : Int)), (0, _), (5, _), (6, _)] ⟨rfl, rfl, rfl, rfl, trivial⟩ ?_
  refine Cov.same (bl' := []) (sl' := []) (Fs' := G :: Fs) rfl rfl rfl ?_
  cases w67 with
  | nil =>
    rw [fence_ascend_L1] at r69; try dsimp only at r69
    refine Cov.seq ?_
    refine Cov.region rfl ?_
    refine Cov.q .ro (.lss rfl rfl) rfl ?_
    refine Cov.region_end ?_
    refine Cov.seq ?_
    refine Cov.cond_dec rfl (fun c => absurd c (drop_nil g68)) (fun _ => ?_)
    refine Cov.exit rfl ?_
    refine Cov.seq ?_
    refine Cov.region rfl ?_
    refine Cov.q .ro (.assign rfl) rfl ?_
    refine Cov.region_end ?_
    cases r69
    refine Cov.retS (c := ⟨50, none⟩) (.inr ⟨_, rfl⟩) [.tmp 2] [_] rfl Try.func50 Try.results50 ⟨RV.tmp rfl, trivial⟩ (fun _ h => List.mem_cons_of_mem _ h) ⟨rfl, rfl, rfl⟩
  | cons x74 xs75 =>
    have r73 : fence_ascend_B1 x0 (fence_ascend_L1 x0 xs75 (i66 + 1)) x74 i66  = some r := r69; clear r69; unfold fence_ascend_B1 at r73; try dsimp only at r73
    refine Cov.seq ?_
    refine Cov.region rfl ?_
    refine Cov.q .ro (.lss rfl rfl) rfl ?_
    refine Cov.region_end ?_
    refine Cov.seq ?_
    refine Cov.cond_dec rfl (fun _ => ?_) (fun c => absurd (drop_lt g68) c)
    refine Cov.skip ?_
    refine Cov.seq ?_
    refine Cov.block ?_
    refine Cov.seq ?_
    refine Cov.region rfl ?_
    refine Cov.q .ro (.move rfl) rfl ?_
    obtain ⟨c76, p77, h78⟩ := SlR.get s0 (drop_idx g68)
    obtain rfl := h78
    refine Cov.q .ro (.idxR s0 rfl rfl (drop_idx g68) sl55 ty9.sz) rfl ?_
    refine Cov.q .ro (.load_rp p77 List.mem_cons_self rfl ty9 rfl) rfl ?_
    refine Cov.q .ro (.assign rfl) rfl ?_
    refine Cov.q .ro (.assign rfl) rfl ?_
    refine Cov.region_end ?_
    refine Cov.seq ?_
    refine Cov.region rfl ?_
    refine Cov.q .ro (.move rfl) rfl ?_
    obtain ⟨u79, hu79, r80⟩ := bind_some r73; clear r73
    refine Cov.callS (b1 := []) (b2 := []) (s1 := []) [_] [] .ro rfl rfl Try.call59 rfl rfl (fence_proper_c (G := G) List.mem_cons_self  hu79) rfl (fun v82 bo so h81 => ?_)
    obtain ⟨rfl, rfl, rfl⟩ := h81
    refine Cov.same (bl' := []) (sl' := []) rfl rfl rfl ?_
    refine Cov.q .ro (.not rfl) rfl ?_
    refine Cov.q .ro (.move rfl) rfl ?_
    obtain ⟨u104, h105, r106⟩ := bind_some r80; clear r80
    refine Cov.cutR 12 (β := Unit) (fun y => [(27, .bool u104)]) [(7, _), (0, _), (5, _), (6, _)] (fun y => G :: Fs) (fun y => []) [] (fun y => []) [] (fun y => True) ⟨rfl, rfl, rfl, rfl, trivial⟩ [] rfl [] rfl ?_ ?_
    · rintro _ _
      refine Cov.prune [(27, .bool u104), (7, _), (0, _), (5, _), (6, _)] ⟨rfl, rfl, rfl, rfl, rfl, trivial⟩ ?_
      refine Cov.same (bl' := []) (sl' := []) (Fs' := G :: Fs) rfl rfl rfl ?_
      refine Cov.region_end ?_
      refine Cov.cond rfl (fun c109 => ?_) (fun c109 => ?_)
      · have r110 := ifT r106 c109; clear r106
        refine Cov.seq ?_
        refine Cov.region rfl ?_
        refine Cov.q .ro (.assign rfl) rfl ?_
        refine Cov.region_end ?_
        cases r110
        refine Cov.retS (c := ⟨50, none⟩) (.inr ⟨_, rfl⟩) [.tmp 2] [_] rfl Try.func50 Try.results50 ⟨RV.tmp rfl, trivial⟩ (fun _ h => List.mem_cons_of_mem _ h) ⟨rfl, rfl, rfl⟩
      · have r111 := ifBF r106 c109; clear r106
        refine Cov.skip ?_
        refine Cov.inBlock ?_
        refine Cov.region rfl ?_
        refine Cov.q .ro (.addw rfl rfl) rfl ?_
        refine Cov.q .ro (.move rfl) rfl ?_
        refine Cov.region_end ?_
        refine Cov.prune _ ?_ (Cov.same rfl rfl rfl (hb70 ((i66 + 1), xs75) ⟨(drop_succ g68), r111⟩ (Nat.lt_succ_self _)))
        exact ⟨(congrArg (fun z => some (Value.int .i64 z)) (idx_wrap (SlR.len s0) g68)), rfl, rfl, rfl, trivial⟩
    · intro hb103
      refine Cov.split_b 15 rfl (fun c102 => ?_) (fun c102 => ?_)
      · have r112 := ifT h105 c102
        refine Cov.g_off rfl rfl rfl ?_
        refine Cov.g_off rfl rfl rfl ?_
        refine Cov.g_off rfl rfl rfl ?_
        refine Cov.gu_off rfl rfl ?_
        refine Cov.gu_off rfl rfl ?_
        refine Cov.gu_off rfl rfl ?_
        refine Cov.gu_off rfl rfl ?_
        refine Cov.gu_off rfl rfl ?_
        refine Cov.gu_off rfl rfl ?_
        refine Cov.gu_off rfl rfl ?_
        refine Cov.g_off rfl rfl rfl ?_
        refine Cov.q .ro (.pick_t rfl rfl) rfl ?_
        refine Cov.prune _ ?_ (Cov.same rfl rfl rfl (hb103 () trivial))
        exact ⟨sval r112, rfl, rfl, rfl, rfl, trivial⟩
      · have r113 := ifBF h105 c102
        refine Cov.g_on rfl ?_
        refine Cov.q .ro (.move rfl) rfl ?_
        refine Cov.g_on rfl ?_
        refine Cov.q .ro (.gtr rfl rfl) rfl ?_
        refine Cov.g_on rfl ?_
        refine Cov.q .ro (.move rfl) rfl ?_
        obtain ⟨u121, h122, r123⟩ := bind_some r113; clear r113
        refine Cov.cutR 8 (β := Unit) (fun y => [(26, .bool u121)]) [(7, _), (0, _), (5, _), (6, _), (15, _), (16, _), (17, _)] (fun y => G :: Fs) (fun y => []) [] (fun y => []) [] (fun y => True) ⟨rfl, rfl, rfl, rfl, rfl, rfl, rfl, trivial⟩ [] rfl [] rfl ?_ ?_
        · rintro _ _
          refine Cov.prune [(26, .bool u121), (7, _), (0, _), (5, _), (6, _), (15, _), (16, _), (17, _)] ⟨rfl, rfl, rfl, rfl, rfl, rfl, rfl, rfl, trivial⟩ ?_
          refine Cov.same (bl' := []) (sl' := []) (Fs' := G :: Fs) rfl rfl rfl ?_
          refine Cov.q .ro (.pick_f rfl rfl) rfl ?_
          refine Cov.prune _ ?_ (Cov.same rfl rfl rfl (hb103 () trivial))
          exact ⟨sval r123, rfl, rfl, rfl, rfl, trivial⟩
        · intro hb120
          refine Cov.split 18 rfl (fun c119 => ?_) (fun c119 => ?_)
          · have r126 := ifT h122 c119
            refine Cov.g_on rfl ?_
            refine Cov.q .ro (.move rfl) rfl ?_
            refine Cov.g_on rfl ?_
            refine Cov.q .ro (.move rfl) rfl ?_
            refine Cov.g_on rfl ?_
            refine Cov.q .ro (.move rfl) rfl ?_
            refine Cov.g_on rfl ?_
            refine Cov.q .ro (.subw rfl rfl) rfl ?_
            refine Cov.g_on rfl ?_
            obtain ⟨u127, hu127, r128⟩ := bind_some r126; clear r126
            obtain ⟨c129, p130, h131⟩ := SlR.get s0 hu127
            obtain rfl := h131
            refine Cov.q .ro (.idxR s0 rfl rfl hu127 sl55 ty9.sz) rfl ?_
            refine Cov.g_on rfl ?_
            refine Cov.q .ro (.load_rp p130 List.mem_cons_self rfl ty9 rfl) rfl ?_
            refine Cov.g_on rfl ?_
            refine Cov.q .ro (.leq_d rfl rfl) rfl ?_
            refine Cov.g_on rfl ?_
            refine Cov.q .ro (.pick_t rfl rfl) rfl ?_
            refine Cov.prune _ ?_ (Cov.same rfl rfl rfl (hb120 () trivial))
            exact ⟨sval r128, rfl, rfl, rfl, rfl, rfl, rfl, rfl, trivial⟩
          · have r132 := ifF h122 c119
            refine Cov.g_off rfl rfl rfl ?_
            refine Cov.g_off rfl rfl rfl ?_
            refine Cov.g_off rfl rfl rfl ?_
            refine Cov.g_off rfl rfl rfl ?_
            refine Cov.g_off rfl rfl rfl ?_
            refine Cov.g_off rfl rfl rfl ?_
            refine Cov.g_off rfl rfl rfl ?_
            refine Cov.g_on rfl ?_
            refine Cov.q .ro (.pick_f rfl rfl) rfl ?_
            refine Cov.prune _ ?_ (Cov.same rfl rfl rfl (hb120 () trivial))
            exact ⟨sval r132, rfl, rfl, rfl, rfl, rfl, rfl, rfl, trivial⟩
set_option maxHeartbeats 4000000 in
set_option maxRecDepth 100000 in
theorem fence_Check_c {Fs : List Hp} {G : Hp} {x0_0 : Int} {a0_1 : Option Addr} {k0_1 : Nat} {x0_1 : List ByteArray} {r : Int} (hG : G ∈ Fs) (s0_1 : SlR Rep.str G a0_1 k0_1 x0_1) (h : fence_Check (x0_0, x0_1) = some r) : RetS Try.prog 31 #[.agg #[.int .i64 x0_0, .slice a0_1 x0_1.length k0_1]] Fs [] [] (fun v bo so => v = .int .i64 r ∧ bo = [] ∧ so = []) := by
  unfold fence_Check at h
  try dsimp only at h
  refine RetS.of (vs := [_]) Try.func31 rfl Try.ntmps31 [(0, _)] ⟨rfl, trivial⟩ rfl hG fun w0 S0 hS0 B0 => ?_
  refine Cov.seq ?_
  refine Cov.region rfl ?_
  refine Cov.box [_, _] .ro rfl rfl rfl (fun b1 hb1 => ?_)
  refine Cov.q .ro (.assign rfl) rfl ?_
  refine Cov.region_end ?_
  refine Cov.seq ?_
  refine Cov.seq ?_
  refine Cov.region rfl ?_
  refine Cov.q .ro (.fieldAddr 0 rfl fl57_0 ty3.sz rfl) rfl ?_
  refine Cov.q .ro (.load_own 0 rfl rfl ty3 rfl) rfl ?_
  obtain ⟨u2, hu2, r3⟩ := bind_some h; clear h
  refine Cov.callS (b1 := []) (b2 := [_]) (s1 := []) [_] [] .ro rfl rfl Try.call49 rfl rfl (fence_sized_c (G := G) List.mem_cons_self  hu2) rfl (fun v5 bo so h4 => ?_)
  obtain ⟨rfl, rfl, rfl⟩ := h4
  refine Cov.same (bl' := [_]) (sl' := []) rfl rfl rfl ?_
  refine Cov.q .ro (.not rfl) rfl ?_
  refine Cov.q .ro (.move rfl) rfl ?_
  refine Cov.cutR 5 (β := Unit) (fun y => [(12, .bool (decide (((!u2) = true) ∨ ((x0_1.length : Int) < 1))))]) [(1, _)] (fun y => G :: Fs) (fun y => []) [_] (fun y => []) [] (fun y => True) ⟨rfl, trivial⟩ [0] rfl [] rfl ?_ ?_
  · rintro _ _
    refine Cov.prune [(12, .bool (decide (((!u2) = true) ∨ ((x0_1.length : Int) < 1)))), (1, _)] ⟨rfl, rfl, trivial⟩ ?_
    refine Cov.same (bl' := [_]) (sl' := []) (Fs' := G :: Fs) rfl rfl rfl ?_
    refine Cov.q .ro (.move rfl) rfl ?_
    refine Cov.cutR 5 (β := Unit) (fun y => [(18, .bool (decide ((((!u2) = true) ∨ ((x0_1.length : Int) < 1)) ∨ (256 < (x0_1.length : Int)))))]) [(1, _)] (fun y => G :: Fs) (fun y => []) [_] (fun y => []) [] (fun y => True) ⟨rfl, trivial⟩ [0] rfl [] rfl ?_ ?_
    · rintro _ _
      refine Cov.prune [(18, .bool (decide ((((!u2) = true) ∨ ((x0_1.length : Int) < 1)) ∨ (256 < (x0_1.length : Int))))), (1, _)] ⟨rfl, rfl, trivial⟩ ?_
      refine Cov.same (bl' := [_]) (sl' := []) (Fs' := G :: Fs) rfl rfl rfl ?_
      refine Cov.q .ro (.move rfl) rfl ?_
      obtain ⟨u20, h21, r22⟩ := bind_some r3; clear r3
      refine Cov.cutR 5 (β := Unit) (fun y => [(24, .bool u20)]) [] (fun y => G :: Fs) (fun y => []) [_] (fun y => []) [] (fun y => True) trivial [0] rfl [] rfl ?_ ?_
      · rintro _ _
        refine Cov.prune [(24, .bool u20)] ⟨rfl, trivial⟩ ?_
        refine Cov.same (bl' := [_]) (sl' := []) (Fs' := G :: Fs) rfl rfl rfl ?_
        refine Cov.region_end ?_
        refine Cov.cond rfl (fun c25 => ?_) (fun c25 => ?_)
        · have r26 := ifT r22 c25; clear r22
          refine Cov.seq ?_
          refine Cov.region rfl ?_
          refine Cov.q .ro (.assign rfl) rfl ?_
          refine Cov.region_end ?_
          cases r26
          refine Cov.drop 1 0 [] _ rfl rfl ?_
          refine Cov.retS (c := ⟨31, none⟩) (.inr ⟨_, rfl⟩) [.tmp 2] [_] rfl Try.func31 Try.results31 ⟨RV.tmp rfl, trivial⟩ (fun _ h => List.mem_cons_of_mem _ h) ⟨rfl, rfl, rfl⟩
        · have r27 := ifBF r22 c25; clear r22
          refine Cov.skip ?_
          refine Cov.seq ?_
          refine Cov.region rfl ?_
          refine Cov.q .ro (.assign rfl) rfl ?_
          refine Cov.region_end ?_
          cases r27
          refine Cov.drop 1 0 [] _ rfl rfl ?_
          refine Cov.retS (c := ⟨31, none⟩) (.inr ⟨_, rfl⟩) [.tmp 2] [_] rfl Try.func31 Try.results31 ⟨RV.tmp rfl, trivial⟩ (fun _ h => List.mem_cons_of_mem _ h) ⟨rfl, rfl, rfl⟩
      · intro hb19
        refine Cov.split 19 rfl (fun c18 => ?_) (fun c18 => ?_)
        · have r28 := ifT h21 c18
          refine Cov.g_off rfl rfl rfl ?_
          refine Cov.g_off rfl rfl rfl ?_
          refine Cov.g_off rfl rfl rfl ?_
          refine Cov.g_off rfl rfl rfl ?_
          refine Cov.q .ro (.pick_t rfl rfl) rfl ?_
          refine Cov.prune _ ?_ (Cov.same rfl rfl rfl (hb19 () trivial))
          exact ⟨sval r28, trivial⟩
        · have r29 := ifF h21 c18
          refine Cov.g_on rfl ?_
          refine Cov.q .ro (.fieldAddr 1 rfl fl57_1 ty55.sz rfl) rfl ?_
          refine Cov.g_on rfl ?_
          refine Cov.q .ro (.load_own 0 rfl rfl ty55 rfl) rfl ?_
          refine Cov.g_on rfl ?_
          obtain ⟨u30, hu30, r31⟩ := bind_some r29; clear r29
          refine Cov.callS (b1 := []) (b2 := [_]) (s1 := []) [_] [] .ro rfl rfl Try.call50 rfl rfl (fence_ascend_c (G := G) List.mem_cons_self s0_1 hu30) rfl (fun v33 bo so h32 => ?_)
          obtain ⟨rfl, rfl, rfl⟩ := h32
          refine Cov.same (bl' := [_]) (sl' := []) rfl rfl rfl ?_
          refine Cov.g_on rfl ?_
          refine Cov.q .ro (.not rfl) rfl ?_
          refine Cov.q .ro (.pick_f rfl rfl) rfl ?_
          refine Cov.prune _ ?_ (Cov.same rfl rfl rfl (hb19 () trivial))
          exact ⟨sval r31, trivial⟩
    · intro hb11
      refine Cov.split 13 rfl (fun c10 => ?_) (fun c10 => ?_)
      · refine Cov.g_off rfl rfl rfl ?_
        refine Cov.g_off rfl rfl rfl ?_
        refine Cov.g_off rfl rfl rfl ?_
        refine Cov.g_off rfl rfl rfl ?_
        refine Cov.q .ro (.pick_t rfl rfl) rfl ?_
        refine Cov.prune _ ?_ (Cov.same rfl rfl rfl (hb11 () trivial))
        exact ⟨dor_t c10, rfl, trivial⟩
      · refine Cov.g_on rfl ?_
        refine Cov.q .ro (.fieldAddr 1 rfl fl57_1 ty55.sz rfl) rfl ?_
        refine Cov.g_on rfl ?_
        refine Cov.q .ro (.load_own 0 rfl rfl ty55 rfl) rfl ?_
        refine Cov.g_on rfl ?_
        refine Cov.q .ro (.len_sl rfl rfl sl55) rfl ?_
        refine Cov.g_on rfl ?_
        refine Cov.q .ro (.gtr rfl rfl) rfl ?_
        refine Cov.q .ro (.pick_f rfl rfl) rfl ?_
        refine Cov.prune _ ?_ (Cov.same rfl rfl rfl (hb11 () trivial))
        exact ⟨dor_f c10, rfl, trivial⟩
  · intro hb7
    refine Cov.split_b 7 rfl (fun c6 => ?_) (fun c6 => ?_)
    · refine Cov.g_off rfl rfl rfl ?_
      refine Cov.g_off rfl rfl rfl ?_
      refine Cov.g_off rfl rfl rfl ?_
      refine Cov.g_off rfl rfl rfl ?_
      refine Cov.q .ro (.pick_t rfl rfl) rfl ?_
      refine Cov.prune _ ?_ (Cov.same rfl rfl rfl (hb7 () trivial))
      exact ⟨dor_t c6, rfl, trivial⟩
    · refine Cov.g_on rfl ?_
      refine Cov.q .ro (.fieldAddr 1 rfl fl57_1 ty55.sz rfl) rfl ?_
      refine Cov.g_on rfl ?_
      refine Cov.q .ro (.load_own 0 rfl rfl ty55 rfl) rfl ?_
      refine Cov.g_on rfl ?_
      refine Cov.q .ro (.len_sl rfl rfl sl55) rfl ?_
      refine Cov.g_on rfl ?_
      refine Cov.q .ro (.lss rfl rfl) rfl ?_
      refine Cov.q .ro (.pick_f rfl rfl) rfl ?_
      refine Cov.prune _ ?_ (Cov.same rfl rfl rfl (hb7 () trivial))
      exact ⟨dor_f (bne_of c6), rfl, trivial⟩
set_option maxHeartbeats 4000000 in
set_option maxRecDepth 100000 in
theorem fence_Steps_c {Fs : List Hp} {G : Hp} {x0 : Int} {x1 : Int} {r : (Int × Int)} (hG : G ∈ Fs)  (h : fence_Steps x0 x1 = some r) : RetS Try.prog 32 #[.int .i64 x0, .int .i64 x1] Fs [] [] (fun v bo so => v = .tuple #[.int .i64 r.1, .int .i64 r.2] ∧ bo = [] ∧ so = []) := by
  unfold fence_Steps at h
  try dsimp only at h
  refine RetS.of (vs := [_, _]) Try.func32 rfl Try.ntmps32 [(0, _), (1, _)] ⟨rfl, rfl, trivial⟩ rfl hG fun w0 S0 hS0 B0 => ?_
  refine Cov.seq ?_
  refine Cov.region rfl ?_
  refine Cov.q .ro (.assign rfl) rfl ?_
  refine Cov.q .ro (.assign rfl) rfl ?_
  refine Cov.region_end ?_
  refine Cov.seq ?_
  refine Cov.seq ?_
  refine Cov.region rfl ?_
  refine Cov.q .ro (.move rfl) rfl ?_
  refine Cov.q .ro (.lss rfl rfl) rfl ?_
  refine Cov.q .ro (.move rfl) rfl ?_
  refine Cov.cutR 3 (β := Unit) (fun y => [(12, .bool (decide ((x0 < 1) ∨ (256 < x0))))]) [(0, _), (1, _)] (fun y => G :: Fs) (fun y => []) [] (fun y => []) [] (fun y => True) ⟨rfl, rfl, trivial⟩ [] rfl [] rfl ?_ ?_
  · rintro _ _
    refine Cov.prune [(12, .bool (decide ((x0 < 1) ∨ (256 < x0)))), (0, _), (1, _)] ⟨rfl, rfl, rfl, trivial⟩ ?_
    refine Cov.same (bl' := []) (sl' := []) (Fs' := G :: Fs) rfl rfl rfl ?_
    refine Cov.q .ro (.move rfl) rfl ?_
    obtain ⟨u11, h12, r13⟩ := bind_some h; clear h
    refine Cov.cutR 4 (β := Unit) (fun y => [(17, .bool u11)]) [(0, _), (1, _)] (fun y => G :: Fs) (fun y => []) [] (fun y => []) [] (fun y => True) ⟨rfl, rfl, trivial⟩ [] rfl [] rfl ?_ ?_
    · rintro _ _
      refine Cov.prune [(17, .bool u11), (0, _), (1, _)] ⟨rfl, rfl, rfl, trivial⟩ ?_
      refine Cov.same (bl' := []) (sl' := []) (Fs' := G :: Fs) rfl rfl rfl ?_
      refine Cov.region_end ?_
      refine Cov.cond rfl (fun c16 => ?_) (fun c16 => ?_)
      · have r17 := ifT r13 c16; clear r13
        refine Cov.seq ?_
        refine Cov.region rfl ?_
        refine Cov.q .ro (.assign rfl) rfl ?_
        refine Cov.q .ro (.assign rfl) rfl ?_
        refine Cov.region_end ?_
        cases r17
        refine Cov.retS (c := ⟨32, none⟩) (.inr ⟨_, rfl⟩) [.tmp 4, .tmp 5] [_, _] rfl Try.func32 Try.results32 ⟨RV.tmp rfl, RV.tmp rfl, trivial⟩ (fun _ h => List.mem_cons_of_mem _ h) ⟨rfl, rfl, rfl⟩
      · have r18 := ifBF r13 c16; clear r13
        refine Cov.skip ?_
        refine Cov.seq ?_
        refine Cov.region rfl ?_
        refine Cov.q .ro (.assign rfl) rfl ?_
        refine Cov.region_end ?_
        refine Cov.seq ?_
        refine Cov.block ?_
        refine Cov.loop2 (α := Nat × Int × Int) (fun y => [(0, .int .i64 y.2.1), (6, .int .i64 y.2.2)]) [(1, _)] (fun y => []) (fun y => []) [] (fun y => []) [] (fun y => fence_Steps_L1 x1 y.1 y.2.1 y.2.2 = some r) (fun y => y.1) (big, x0, 1) r18 ⟨rfl, rfl, rfl, trivial⟩ rfl rfl rfl (fun y hI hb32 => ?_)
        obtain ⟨n27, v29, v30⟩ := y
        have r31 := hI; clear hI
        try dsimp only at r31
        refine Cov.prune [(0, .int .i64 v29), (6, .int .i64 v30), (1, _)] ⟨rfl, rfl, rfl, trivial⟩ ?_
        refine Cov.same (bl' := []) (sl' := []) (Fs' := G :: Fs) rfl rfl rfl ?_
        obtain ⟨m35, rfl⟩ : ∃ m, n27 = m + 1 := by cases n27 with | zero => exact absurd (show (none : Option _) = some _ from r31) (by simp) | succ m => exact ⟨m, rfl⟩
        have r34 : fence_Steps_B1 x1 (fence_Steps_L1 x1 m35) v29 v30 = some r := r31; clear r31; unfold fence_Steps_B1 at r34; try dsimp only at r34
        refine Cov.seq ?_
        refine Cov.seq ?_
        refine Cov.region rfl ?_
        refine Cov.q .ro (.move rfl) rfl ?_
        refine Cov.q .ro (.move rfl) rfl ?_
        refine Cov.q .ro (.gtr rfl rfl) rfl ?_
        refine Cov.region_end ?_
        refine Cov.cond_dec rfl (fun c36 => ?_) (fun c36 => ?_)
        · have r37 := ifT r34 c36; clear r34
          refine Cov.skip ?_
          refine Cov.seq ?_
          refine Cov.block ?_
          refine Cov.region rfl ?_
          refine Cov.q .ro (.move rfl) rfl ?_
          refine Cov.q .ro (.addw rfl rfl) rfl ?_
          refine Cov.q .ro (.assign rfl) rfl ?_
          refine Cov.region_end ?_
          refine Cov.inBlock ?_
          refine Cov.region rfl ?_
          refine Cov.q .ro (.move rfl) rfl ?_
          refine Cov.q .ro (.move rfl) rfl ?_
          refine Cov.q .ro (.addw rfl rfl) rfl ?_
          refine Cov.q .ro (.subw rfl rfl) rfl ?_
          refine Cov.q .ro (.move rfl) rfl ?_
          obtain ⟨u38, hu38, r39⟩ := bind_some r37; clear r37
          refine Cov.q .ro (.quow rfl rfl (nz_some hu38)) rfl ?_
          refine Cov.q .ro (.assign rfl) rfl ?_
          refine Cov.region_end ?_
          refine Cov.prune _ ?_ (Cov.same rfl rfl rfl (hb32 (m35, (w64 (Int.tdiv (w64 ((w64 (v29 + x1)) - 1)) x1)), (w64 (v30 + 1))) r39 (Nat.lt_succ_self _)))
          exact ⟨rfl, rfl, rfl, trivial⟩
        · have r40 := ifF r34 c36; clear r34
          refine Cov.exit rfl ?_
          refine Cov.seq ?_
          refine Cov.region rfl ?_
          refine Cov.q .ro (.move rfl) rfl ?_
          refine Cov.q .ro (.assign rfl) rfl ?_
          refine Cov.q .ro (.assign rfl) rfl ?_
          refine Cov.region_end ?_
          cases r40
          refine Cov.retS (c := ⟨32, none⟩) (.inr ⟨_, rfl⟩) [.tmp 4, .tmp 5] [_, _] rfl Try.func32 Try.results32 ⟨RV.tmp rfl, RV.tmp rfl, trivial⟩ (fun _ h => List.mem_cons_of_mem _ h) ⟨rfl, rfl, rfl⟩
    · intro hb10
      refine Cov.split 13 rfl (fun c9 => ?_) (fun c9 => ?_)
      · have r41 := ifT h12 c9
        refine Cov.g_off rfl rfl rfl ?_
        refine Cov.g_off rfl rfl rfl ?_
        refine Cov.g_off rfl rfl rfl ?_
        refine Cov.q .ro (.pick_t rfl rfl) rfl ?_
        refine Cov.prune _ ?_ (Cov.same rfl rfl rfl (hb10 () trivial))
        exact ⟨sval r41, rfl, rfl, trivial⟩
      · have r42 := ifF h12 c9
        refine Cov.g_on rfl ?_
        refine Cov.q .ro (.move rfl) rfl ?_
        refine Cov.g_on rfl ?_
        obtain ⟨u43, hu43, r44⟩ := bind_some r42; clear r42
        refine Cov.callS (b1 := []) (b2 := []) (s1 := []) [_] [] .ro rfl rfl Try.call49 rfl rfl (fence_sized_c (G := G) List.mem_cons_self  hu43) rfl (fun v46 bo so h45 => ?_)
        obtain ⟨rfl, rfl, rfl⟩ := h45
        refine Cov.same (bl' := []) (sl' := []) rfl rfl rfl ?_
        refine Cov.g_on rfl ?_
        refine Cov.q .ro (.not rfl) rfl ?_
        refine Cov.q .ro (.pick_f rfl rfl) rfl ?_
        refine Cov.prune _ ?_ (Cov.same rfl rfl rfl (hb10 () trivial))
        exact ⟨sval r44, rfl, rfl, trivial⟩
  · intro hb2
    refine Cov.split 9 rfl (fun c1 => ?_) (fun c1 => ?_)
    · refine Cov.g_off rfl rfl rfl ?_
      refine Cov.g_off rfl rfl rfl ?_
      refine Cov.q .ro (.pick_t rfl rfl) rfl ?_
      refine Cov.prune _ ?_ (Cov.same rfl rfl rfl (hb2 () trivial))
      exact ⟨dor_t c1, rfl, rfl, trivial⟩
    · refine Cov.g_on rfl ?_
      refine Cov.q .ro (.move rfl) rfl ?_
      refine Cov.g_on rfl ?_
      refine Cov.q .ro (.gtr rfl rfl) rfl ?_
      refine Cov.q .ro (.pick_f rfl rfl) rfl ?_
      refine Cov.prune _ ?_ (Cov.same rfl rfl rfl (hb2 () trivial))
      exact ⟨dor_f c1, rfl, rfl, trivial⟩
set_option maxHeartbeats 4000000 in
set_option maxRecDepth 100000 in
theorem bounds_Looks_c {Fs : List Hp} {G : Hp} {x0_0 : Int} {a0_1 : Option Addr} {k0_1 : Nat} {x0_1 : List (Int × Int)} {x1_0 : Int} {a1_1 : Option Addr} {k1_1 : Nat} {x1_1 : List ByteArray} {r : (Int × Int × Int)} (hG : G ∈ Fs) (s0_1 : SlR (Rep.pair (Rep.int .i64) (Rep.int .i64)) G a0_1 k0_1 x0_1) (s1_1 : SlR Rep.str G a1_1 k1_1 x1_1) (h : bounds_Looks (x0_0, x0_1) (x1_0, x1_1) = some r) : RetS Try.prog 16 #[.agg #[.int .i64 x0_0, .slice a0_1 x0_1.length k0_1], .agg #[.int .i64 x1_0, .slice a1_1 x1_1.length k1_1]] Fs [] [] (fun v bo so => v = .tuple #[.int .i64 r.1, .int .i64 r.2.1, .int .i64 r.2.2] ∧ bo = [] ∧ so = []) := by
  unfold bounds_Looks at h
  try dsimp only at h
  refine RetS.of (vs := [_, _]) Try.func16 rfl Try.ntmps16 [(0, _), (1, _)] ⟨rfl, rfl, trivial⟩ rfl hG fun w0 S0 hS0 B0 => ?_
  refine Cov.seq ?_
  refine Cov.region rfl ?_
  refine Cov.box [_, _] .ro rfl rfl rfl (fun b1 hb1 => ?_)
  refine Cov.box [_, _] .ro rfl rfl rfl (fun b2 hb2 => ?_)
  refine Cov.q .ro (.assign rfl) rfl ?_
  refine Cov.q .ro (.assign rfl) rfl ?_
  refine Cov.q .ro (.assign rfl) rfl ?_
  refine Cov.region_end ?_
  refine Cov.seq ?_
  refine Cov.seq ?_
  refine Cov.region rfl ?_
  refine Cov.q .ro (.load_own_a 1 [_, _] rfl rfl ty28 rfl) rfl ?_
  obtain ⟨u3, hu3, r4⟩ := bind_some h; clear h
  refine Cov.callS (b1 := []) (b2 := [_, _]) (s1 := []) [_] [] .ro rfl rfl Try.call30 rfl rfl (cuckoo_Check_c (G := G) List.mem_cons_self s0_1 hu3) rfl (fun v6 bo so h5 => ?_)
  obtain ⟨rfl, rfl, rfl⟩ := h5
  refine Cov.same (bl' := [_, _]) (sl' := []) rfl rfl rfl ?_
  refine Cov.q .ro (.assign rfl) rfl ?_
  refine Cov.region_end ?_
  refine Cov.seq ?_
  refine Cov.region rfl ?_
  refine Cov.q .ro (.move rfl) rfl ?_
  refine Cov.q .ro (.neq rfl rfl) rfl ?_
  refine Cov.region_end ?_
  refine Cov.cond_dec rfl (fun c7 => ?_) (fun c7 => ?_)
  · have r8 := ifT r4 c7; clear r4
    refine Cov.seq ?_
    refine Cov.region rfl ?_
    refine Cov.q .ro (.move rfl) rfl ?_
    refine Cov.q .ro (.assign rfl) rfl ?_
    refine Cov.q .ro (.assign rfl) rfl ?_
    refine Cov.q .ro (.assign rfl) rfl ?_
    refine Cov.region_end ?_
    cases r8
    refine Cov.drop 2 0 [] _ rfl rfl ?_
    refine Cov.retS (c := ⟨16, none⟩) (.inr ⟨_, rfl⟩) [.tmp 4, .tmp 5, .tmp 6] [_, _, _] rfl Try.func16 Try.results16 ⟨RV.tmp rfl, RV.tmp rfl, RV.tmp rfl, trivial⟩ (fun _ h => List.mem_cons_of_mem _ h) ⟨rfl, rfl, rfl⟩
  · have r9 := ifF r4 c7; clear r4
    refine Cov.skip ?_
    refine Cov.seq ?_
    refine Cov.seq ?_
    refine Cov.region rfl ?_
    refine Cov.q .ro (.load_own_a 0 [_, _] rfl rfl ty57 rfl) rfl ?_
    obtain ⟨u10, hu10, r11⟩ := bind_some r9; clear r9
    refine Cov.callS (b1 := []) (b2 := [_, _]) (s1 := []) [_] [] .ro rfl rfl Try.call31 rfl rfl (fence_Check_c (G := G) List.mem_cons_self s1_1 hu10) rfl (fun v13 bo so h12 => ?_)
    obtain ⟨rfl, rfl, rfl⟩ := h12
    refine Cov.same (bl' := [_, _]) (sl' := []) rfl rfl rfl ?_
    refine Cov.q .ro (.assign rfl) rfl ?_
    refine Cov.region_end ?_
    refine Cov.seq ?_
    refine Cov.region rfl ?_
    refine Cov.q .ro (.move rfl) rfl ?_
    refine Cov.q .ro (.neq rfl rfl) rfl ?_
    refine Cov.region_end ?_
    refine Cov.prune [(2, _), (3, _), (8, _), (19, _)] ⟨rfl, rfl, rfl, rfl, trivial⟩ ?_
    refine Cov.cond_dec rfl (fun c14 => ?_) (fun c14 => ?_)
    · have r15 := ifT r11 c14; clear r11
      refine Cov.seq ?_
      refine Cov.region rfl ?_
      refine Cov.q .ro (.move rfl) rfl ?_
      refine Cov.q .ro (.assign rfl) rfl ?_
      refine Cov.q .ro (.assign rfl) rfl ?_
      refine Cov.q .ro (.assign rfl) rfl ?_
      refine Cov.region_end ?_
      cases r15
      refine Cov.drop 2 0 [] _ rfl rfl ?_
      refine Cov.retS (c := ⟨16, none⟩) (.inr ⟨_, rfl⟩) [.tmp 4, .tmp 5, .tmp 6] [_, _, _] rfl Try.func16 Try.results16 ⟨RV.tmp rfl, RV.tmp rfl, RV.tmp rfl, trivial⟩ (fun _ h => List.mem_cons_of_mem _ h) ⟨rfl, rfl, rfl⟩
    · have r16 := ifF r11 c14; clear r11
      refine Cov.skip ?_
      refine Cov.seq ?_
      refine Cov.region rfl ?_
      refine Cov.q .ro (.fieldAddr 1 rfl fl57_1 ty55.sz rfl) rfl ?_
      refine Cov.q .ro (.load_own 0 rfl rfl ty55 rfl) rfl ?_
      refine Cov.q .ro (.len_sl rfl rfl sl55) rfl ?_
      refine Cov.q .ro (.fieldAddr 0 rfl fl57_0 ty3.sz rfl) rfl ?_
      refine Cov.q .ro (.load_own 0 rfl rfl ty3 rfl) rfl ?_
      obtain ⟨u17, hu17, r18⟩ := bind_some r16; clear r16
      refine Cov.callS (b1 := []) (b2 := [_, _]) (s1 := []) [_, _] [] .ro rfl rfl Try.call32 rfl rfl (fence_Steps_c (G := G) List.mem_cons_self  hu17) rfl (fun v20 bo so h19 => ?_)
      obtain ⟨rfl, rfl, rfl⟩ := h19
      refine Cov.same (bl' := [_, _]) (sl' := []) rfl rfl rfl ?_
      refine Cov.q .ro (.move rfl) rfl ?_
      refine Cov.q .ro (.extract rfl rfl) rfl ?_
      refine Cov.q .ro (.extract rfl rfl) rfl ?_
      refine Cov.q .ro (.assign rfl) rfl ?_
      refine Cov.q .ro (.assign rfl) rfl ?_
      refine Cov.region_end ?_
      refine Cov.seq ?_
      refine Cov.seq ?_
      refine Cov.region rfl ?_
      refine Cov.q .ro (.move rfl) rfl ?_
      refine Cov.q .ro (.neq rfl rfl) rfl ?_
      refine Cov.region_end ?_
      refine Cov.prune [(2, _), (9, _), (10, _), (31, _)] ⟨rfl, rfl, rfl, rfl, trivial⟩ ?_
      refine Cov.cond_dec rfl (fun c21 => ?_) (fun c21 => ?_)
      · have r22 := ifT r18 c21; clear r18
        refine Cov.seq ?_
        refine Cov.region rfl ?_
        refine Cov.q .ro (.move rfl) rfl ?_
        refine Cov.q .ro (.assign rfl) rfl ?_
        refine Cov.q .ro (.assign rfl) rfl ?_
        refine Cov.q .ro (.assign rfl) rfl ?_
        refine Cov.region_end ?_
        cases r22
        refine Cov.drop 2 0 [] _ rfl rfl ?_
        refine Cov.retS (c := ⟨16, none⟩) (.inr ⟨_, rfl⟩) [.tmp 4, .tmp 5, .tmp 6] [_, _, _] rfl Try.func16 Try.results16 ⟨RV.tmp rfl, RV.tmp rfl, RV.tmp rfl, trivial⟩ (fun _ h => List.mem_cons_of_mem _ h) ⟨rfl, rfl, rfl⟩
      · have r23 := ifF r18 c21; clear r18
        refine Cov.skip ?_
        refine Cov.seq ?_
        refine Cov.region rfl ?_
        refine Cov.q .ro (.fieldAddr 1 rfl fl28_1 ty26.sz rfl) rfl ?_
        refine Cov.q .ro (.load_own 1 rfl rfl ty26 rfl) rfl ?_
        refine Cov.q .ro (.len_sl rfl rfl sl26) rfl ?_
        refine Cov.q .ro (.move rfl) rfl ?_
        refine Cov.q .ro (.assign rfl) rfl ?_
        refine Cov.q .ro (.assign rfl) rfl ?_
        refine Cov.q .ro (.assign rfl) rfl ?_
        refine Cov.region_end ?_
        cases r23
        refine Cov.drop 2 0 [] _ rfl rfl ?_
        refine Cov.retS (c := ⟨16, none⟩) (.inr ⟨_, rfl⟩) [.tmp 4, .tmp 5, .tmp 6] [_, _, _] rfl Try.func16 Try.results16 ⟨RV.tmp rfl, RV.tmp rfl, RV.tmp rfl, trivial⟩ (fun _ h => List.mem_cons_of_mem _ h) ⟨rfl, rfl, rfl⟩
set_option maxHeartbeats 4000000 in
set_option maxRecDepth 100000 in
theorem ref21_Steps_c {Fs : List Hp} {G : Hp} {x0 : Int} {x1 : Int} {r : (Int × Int)} (hG : G ∈ Fs)  (h : ref21_Steps x0 x1 = some r) : RetS Try.prog 17 #[.int .i64 x0, .int .i64 x1] Fs [] [] (fun v bo so => v = .tuple #[.int .i64 r.1, .int .i64 r.2] ∧ bo = [] ∧ so = []) := by
  unfold ref21_Steps at h
  try dsimp only at h
  refine RetS.of (vs := [_, _]) Try.func17 rfl Try.ntmps17 [(0, _), (1, _)] ⟨rfl, rfl, trivial⟩ rfl hG fun w0 S0 hS0 B0 => ?_
  refine Cov.seq ?_
  refine Cov.region rfl ?_
  refine Cov.q .ro (.assign rfl) rfl ?_
  refine Cov.q .ro (.assign rfl) rfl ?_
  refine Cov.region_end ?_
  refine Cov.seq ?_
  refine Cov.seq ?_
  refine Cov.region rfl ?_
  refine Cov.q .ro (.move rfl) rfl ?_
  refine Cov.q .ro (.lss rfl rfl) rfl ?_
  refine Cov.q .ro (.move rfl) rfl ?_
  refine Cov.cutR 3 (β := Unit) (fun y => [(12, .bool (decide ((x0 < 1) ∨ (256 < x0))))]) [(0, _), (1, _)] (fun y => G :: Fs) (fun y => []) [] (fun y => []) [] (fun y => True) ⟨rfl, rfl, trivial⟩ [] rfl [] rfl ?_ ?_
  · rintro _ _
    refine Cov.prune [(12, .bool (decide ((x0 < 1) ∨ (256 < x0)))), (0, _), (1, _)] ⟨rfl, rfl, rfl, trivial⟩ ?_
    refine Cov.same (bl' := []) (sl' := []) (Fs' := G :: Fs) rfl rfl rfl ?_
    refine Cov.q .ro (.move rfl) rfl ?_
    refine Cov.cutR 3 (β := Unit) (fun y => [(16, .bool (decide (((x0 < 1) ∨ (256 < x0)) ∨ (x1 < 2))))]) [(0, _), (1, _)] (fun y => G :: Fs) (fun y => []) [] (fun y => []) [] (fun y => True) ⟨rfl, rfl, trivial⟩ [] rfl [] rfl ?_ ?_
    · rintro _ _
      refine Cov.prune [(16, .bool (decide (((x0 < 1) ∨ (256 < x0)) ∨ (x1 < 2)))), (0, _), (1, _)] ⟨rfl, rfl, rfl, trivial⟩ ?_
      refine Cov.same (bl' := []) (sl' := []) (Fs' := G :: Fs) rfl rfl rfl ?_
      refine Cov.q .ro (.move rfl) rfl ?_
      refine Cov.cutR 3 (β := Unit) (fun y => [(20, .bool (decide ((((x0 < 1) ∨ (256 < x0)) ∨ (x1 < 2)) ∨ (8 < x1))))]) [(0, _), (1, _)] (fun y => G :: Fs) (fun y => []) [] (fun y => []) [] (fun y => True) ⟨rfl, rfl, trivial⟩ [] rfl [] rfl ?_ ?_
      · rintro _ _
        refine Cov.prune [(20, .bool (decide ((((x0 < 1) ∨ (256 < x0)) ∨ (x1 < 2)) ∨ (8 < x1)))), (0, _), (1, _)] ⟨rfl, rfl, rfl, trivial⟩ ?_
        refine Cov.same (bl' := []) (sl' := []) (Fs' := G :: Fs) rfl rfl rfl ?_
        refine Cov.region_end ?_
        refine Cov.cond_dec rfl (fun c13 => ?_) (fun c13 => ?_)
        · have r14 := ifT h c13; clear h
          refine Cov.seq ?_
          refine Cov.region rfl ?_
          refine Cov.q .ro (.assign rfl) rfl ?_
          refine Cov.q .ro (.assign rfl) rfl ?_
          refine Cov.region_end ?_
          cases r14
          refine Cov.retS (c := ⟨17, none⟩) (.inr ⟨_, rfl⟩) [.tmp 4, .tmp 5] [_, _] rfl Try.func17 Try.results17 ⟨RV.tmp rfl, RV.tmp rfl, trivial⟩ (fun _ h => List.mem_cons_of_mem _ h) ⟨rfl, rfl, rfl⟩
        · have r15 := ifF h c13; clear h
          refine Cov.skip ?_
          refine Cov.seq ?_
          refine Cov.region rfl ?_
          refine Cov.q .ro (.assign rfl) rfl ?_
          refine Cov.region_end ?_
          refine Cov.seq ?_
          refine Cov.block ?_
          refine Cov.loop2 (α := Nat × Int × Int) (fun y => [(0, .int .i64 y.2.1), (6, .int .i64 y.2.2)]) [(1, _)] (fun y => []) (fun y => []) [] (fun y => []) [] (fun y => ref21_Steps_L1 x1 y.1 y.2.1 y.2.2 = some r) (fun y => y.1) (big, x0, 1) r15 ⟨rfl, rfl, rfl, trivial⟩ rfl rfl rfl (fun y hI hb29 => ?_)
          obtain ⟨n24, v26, v27⟩ := y
          have r28 := hI; clear hI
          try dsimp only at r28
          refine Cov.prune [(0, .int .i64 v26), (6, .int .i64 v27), (1, _)] ⟨rfl, rfl, rfl, trivial⟩ ?_
          refine Cov.same (bl' := []) (sl' := []) (Fs' := G :: Fs) rfl rfl rfl ?_
          obtain ⟨m32, rfl⟩ : ∃ m, n24 = m + 1 := by cases n24 with | zero => exact absurd (show (none : Option _) = some _ from r28) (by simp) | succ m => exact ⟨m, rfl⟩
          have r31 : ref21_Steps_B1 x1 (ref21_Steps_L1 x1 m32) v26 v27 = some r := r28; clear r28; unfold ref21_Steps_B1 at r31; try dsimp only at r31
          refine Cov.seq ?_
          refine Cov.seq ?_
          refine Cov.region rfl ?_
          refine Cov.q .ro (.move rfl) rfl ?_
          refine Cov.q .ro (.move rfl) rfl ?_
          refine Cov.q .ro (.gtr rfl rfl) rfl ?_
          refine Cov.region_end ?_
          refine Cov.cond_dec rfl (fun c33 => ?_) (fun c33 => ?_)
          · have r34 := ifT r31 c33; clear r31
            refine Cov.skip ?_
            refine Cov.seq ?_
            refine Cov.block ?_
            refine Cov.region rfl ?_
            refine Cov.q .ro (.move rfl) rfl ?_
            refine Cov.q .ro (.addw rfl rfl) rfl ?_
            refine Cov.q .ro (.assign rfl) rfl ?_
            refine Cov.region_end ?_
            refine Cov.inBlock ?_
            refine Cov.region rfl ?_
            refine Cov.q .ro (.move rfl) rfl ?_
            refine Cov.q .ro (.move rfl) rfl ?_
            refine Cov.q .ro (.addw rfl rfl) rfl ?_
            refine Cov.q .ro (.subw rfl rfl) rfl ?_
            refine Cov.q .ro (.move rfl) rfl ?_
            obtain ⟨u35, hu35, r36⟩ := bind_some r34; clear r34
            refine Cov.q .ro (.quow rfl rfl (nz_some hu35)) rfl ?_
            refine Cov.q .ro (.assign rfl) rfl ?_
            refine Cov.region_end ?_
            refine Cov.prune _ ?_ (Cov.same rfl rfl rfl (hb29 (m32, (w64 (Int.tdiv (w64 ((w64 (v26 + x1)) - 1)) x1)), (w64 (v27 + 1))) r36 (Nat.lt_succ_self _)))
            exact ⟨rfl, rfl, rfl, trivial⟩
          · have r37 := ifF r31 c33; clear r31
            refine Cov.exit rfl ?_
            refine Cov.seq ?_
            refine Cov.region rfl ?_
            refine Cov.q .ro (.move rfl) rfl ?_
            refine Cov.q .ro (.assign rfl) rfl ?_
            refine Cov.q .ro (.assign rfl) rfl ?_
            refine Cov.region_end ?_
            cases r37
            refine Cov.retS (c := ⟨17, none⟩) (.inr ⟨_, rfl⟩) [.tmp 4, .tmp 5] [_, _] rfl Try.func17 Try.results17 ⟨RV.tmp rfl, RV.tmp rfl, trivial⟩ (fun _ h => List.mem_cons_of_mem _ h) ⟨rfl, rfl, rfl⟩
      · intro hb10
        refine Cov.split 17 rfl (fun c9 => ?_) (fun c9 => ?_)
        · refine Cov.g_off rfl rfl rfl ?_
          refine Cov.g_off rfl rfl rfl ?_
          refine Cov.q .ro (.pick_t rfl rfl) rfl ?_
          refine Cov.prune _ ?_ (Cov.same rfl rfl rfl (hb10 () trivial))
          exact ⟨dor_t c9, rfl, rfl, trivial⟩
        · refine Cov.g_on rfl ?_
          refine Cov.q .ro (.move rfl) rfl ?_
          refine Cov.g_on rfl ?_
          refine Cov.q .ro (.gtr rfl rfl) rfl ?_
          refine Cov.q .ro (.pick_f rfl rfl) rfl ?_
          refine Cov.prune _ ?_ (Cov.same rfl rfl rfl (hb10 () trivial))
          exact ⟨dor_f c9, rfl, rfl, trivial⟩
    · intro hb6
      refine Cov.split 13 rfl (fun c5 => ?_) (fun c5 => ?_)
      · refine Cov.g_off rfl rfl rfl ?_
        refine Cov.g_off rfl rfl rfl ?_
        refine Cov.q .ro (.pick_t rfl rfl) rfl ?_
        refine Cov.prune _ ?_ (Cov.same rfl rfl rfl (hb6 () trivial))
        exact ⟨dor_t c5, rfl, rfl, trivial⟩
      · refine Cov.g_on rfl ?_
        refine Cov.q .ro (.move rfl) rfl ?_
        refine Cov.g_on rfl ?_
        refine Cov.q .ro (.lss rfl rfl) rfl ?_
        refine Cov.q .ro (.pick_f rfl rfl) rfl ?_
        refine Cov.prune _ ?_ (Cov.same rfl rfl rfl (hb6 () trivial))
        exact ⟨dor_f c5, rfl, rfl, trivial⟩
  · intro hb2
    refine Cov.split 9 rfl (fun c1 => ?_) (fun c1 => ?_)
    · refine Cov.g_off rfl rfl rfl ?_
      refine Cov.g_off rfl rfl rfl ?_
      refine Cov.q .ro (.pick_t rfl rfl) rfl ?_
      refine Cov.prune _ ?_ (Cov.same rfl rfl rfl (hb2 () trivial))
      exact ⟨dor_t c1, rfl, rfl, trivial⟩
    · refine Cov.g_on rfl ?_
      refine Cov.q .ro (.move rfl) rfl ?_
      refine Cov.g_on rfl ?_
      refine Cov.q .ro (.gtr rfl rfl) rfl ?_
      refine Cov.q .ro (.pick_f rfl rfl) rfl ?_
      refine Cov.prune _ ?_ (Cov.same rfl rfl rfl (hb2 () trivial))
      exact ⟨dor_f c1, rfl, rfl, trivial⟩
end Go.Proofs.Ytnfalgmfmiolbaa
end
