/- What the proof needs, gathered by wip/gen/shake.py. -/
import Derived.Calls
import Derived.Deep.Quiet
import Derived.Below
import Derived.Laws.AppendOwn
import Derived.WalkKit
import Derived.Laws.OwnMore
import Derived.Deep.Slices
import Derived.ChangeOld
import Derived.ArgAppend
import Derived.RangeFuncIn
import Derived.RangeFuncRecord
import Derived.RangeFuncLeaves
import Derived.Laws.MakeOwn
import Derived.IntWalk
import Derived.Laws.IdiomStrings
import Derived.Laws.Cover3
import Derived.Laws.CopyOwn
import Derived.MapKept
import Derived.RangeFuncNested
import Derived.Test.YtnfalgmfmiolbaaGreatRows
import Derived.ProofKit
import Derived.OpenShut
import Derived.ShutString
import Derived.Test.YtnfalgmfmiolbaaGreatBoundsStepsQ5

section
namespace Go.Proofs.YtnfalgmfmiolbaaGreat
open Go.RowKit
set_option linter.unusedSimpArgs false
set_option linter.unusedVariables false
set_option synthInstance.maxSize 2000
set_option synthInstance.maxHeartbeats 400000
set_option maxHeartbeats 4000000 in
set_option maxRecDepth 100000 in
theorem ref19_sets_c {Fs : List Hp} {G : Hp} {x0 : Int} {x1 : Int} {r : Int} (hG : G ∈ Fs)  (h : ref19_sets x0 x1 = some r) : RetS Tryz.prog 115 #[.int .i64 x0, .int .i64 x1] Fs [] [] (fun v bo so => v = .int .i64 r ∧ bo = [] ∧ so = []) := by
 unfold ref19_sets at h
 try dsimp only at h
 refine RetS.of (vs := [_, _]) Tryz.func115 rfl Tryz.ntmps115 [(0, _), (1, _)] ⟨rfl, rfl, trivial⟩ rfl hG fun w0 S0 hS0 B0 => ?_
 refine Cov.seq ?_;refine Cov.region rfl ?_;refine Cov.q .ro (.assign rfl) rfl ?_;refine Cov.region_end ?_;refine Cov.seq ?_;refine Cov.region rfl ?_;refine Cov.q .ro (.assign rfl) rfl ?_;refine Cov.region_end ?_;refine Cov.seq ?_
 refine Cov.seq ?_;refine Cov.region rfl ?_;refine Cov.q .ro (.assign rfl) rfl ?_;refine Cov.region_end ?_;refine Cov.block ?_
 refine Cov.loop2 (α := Nat × Int × Int) (fun y => [(5, .int .i64 y.2.1), (6, .int .i64 y.2.2)]) [(0, _), (1, _)] (fun y => []) (fun y => []) [] (fun y => []) [] (fun y => ref19_sets_L1 x0 x1 y.1 y.2.1 y.2.2 = some r) (fun y => y.1) (big, 1, 0) h ⟨rfl, rfl, rfl, rfl, trivial⟩ rfl rfl rfl (fun y hI hb17 => ?_)
 obtain ⟨n12, v14, v15⟩ := y
 have r16 := hI; clear hI
 try dsimp only at r16
 refine Cov.prune [(5, .int .i64 v14), (6, .int .i64 v15), (0, _), (1, _)] ⟨rfl, rfl, rfl, rfl, trivial⟩ ?_;refine Cov.same (bl' := []) (sl' := []) (Fs' := G :: Fs) rfl rfl rfl ?_
 obtain ⟨m21, rfl⟩ : ∃ m, n12 = m + 1 := by cases n12 with | zero => exact absurd (show (none : Option _) = some _ from r16) (by simp) | succ m => exact ⟨m, rfl⟩
 have r20 : ref19_sets_B1 x0 x1 (ref19_sets_L1 x0 x1 m21) v14 v15 = some r := r16; clear r16; unfold ref19_sets_B1 at r20; try dsimp only at r20
 refine Cov.seq ?_;refine Cov.seq ?_;refine Cov.region rfl ?_;refine Cov.q .ro (.move rfl) rfl ?_;refine Cov.q .ro (.move rfl) rfl ?_;refine Cov.q .ro (.move rfl) rfl ?_;refine Cov.q .ro (.move rfl) rfl ?_;refine Cov.q .ro (.subw rfl rfl) rfl ?_;refine Cov.q .ro (.min2 rfl rfl) rfl ?_
 refine Cov.q .ro (.lss rfl rfl) rfl ?_;refine Cov.region_end ?_
 refine Cov.cond_dec rfl (fun c22 => ?_) (fun c22 => ?_)
 ·have r23 := ifT r20 c22; clear r20
  refine Cov.skip ?_;refine Cov.seq ?_;refine Cov.block ?_;refine Cov.seq ?_;refine Cov.region rfl ?_;refine Cov.q .ro (.move rfl) rfl ?_;refine Cov.q .ro (.move rfl) rfl ?_;refine Cov.q .ro (.move rfl) rfl ?_;refine Cov.q .ro (.subw rfl rfl) rfl ?_
  refine Cov.q .ro (.mulw rfl rfl) rfl ?_;refine Cov.q .ro (.move rfl) rfl ?_;refine Cov.q .ro (.addw rfl rfl) rfl ?_
  obtain ⟨u24, hu24, r25⟩ := bind_some r23; clear r23
  refine Cov.q .ro (.quow rfl rfl (nz_some hu24)) rfl ?_;refine Cov.q .ro (.assign rfl) rfl ?_;refine Cov.region_end ?_;refine Cov.prune [(5, _), (6, _), (0, _), (1, _)] ⟨rfl, rfl, rfl, rfl, trivial⟩ ?_;refine Cov.seq ?_;refine Cov.region rfl ?_;refine Cov.q .ro (.move rfl) rfl ?_;refine Cov.q .ro (.gtr rfl rfl) rfl ?_;refine Cov.region_end ?_
  refine Cov.cond_dec rfl (fun c26 => ?_) (fun c26 => ?_)
  ·have r27 := ifT r25 c26; clear r25
   refine Cov.seq ?_;refine Cov.region rfl ?_;refine Cov.q .ro (.assign rfl) rfl ?_;refine Cov.region_end ?_
   cases r27
   refine Cov.retS (c := ⟨115, none⟩) (.inr ⟨_, rfl⟩) [.tmp 4] [_] rfl Tryz.func115 Tryz.results115 ⟨RV.tmp rfl, trivial⟩ (fun _ h => List.mem_cons_of_mem _ h) ⟨rfl, rfl, rfl⟩
  ·have r28 := ifF r25 c26; clear r25
   refine Cov.skip ?_;refine Cov.inBlock ?_;refine Cov.region rfl ?_;refine Cov.q .ro (.move rfl) rfl ?_;refine Cov.q .ro (.addw rfl rfl) rfl ?_;refine Cov.q .ro (.assign rfl) rfl ?_;refine Cov.region_end ?_
   refine Cov.prune _ ?_ (Cov.same rfl rfl rfl (hb17 (m21, (w64 (Int.tdiv (w64 (v14 * (w64 (x0 - v15)))) (w64 (v15 + 1)))), (w64 (v15 + 1))) r28 (Nat.lt_succ_self _)))
   exact ⟨rfl, rfl, rfl, rfl, trivial⟩
 ·have r29 := ifF r20 c22; clear r20
  refine Cov.exit rfl ?_;refine Cov.seq ?_;refine Cov.region rfl ?_;refine Cov.q .ro (.move rfl) rfl ?_;refine Cov.q .ro (.assign rfl) rfl ?_;refine Cov.region_end ?_
  cases r29
  refine Cov.retS (c := ⟨115, none⟩) (.inr ⟨_, rfl⟩) [.tmp 4] [_] rfl Tryz.func115 Tryz.results115 ⟨RV.tmp rfl, trivial⟩ (fun _ h => List.mem_cons_of_mem _ h) ⟨rfl, rfl, rfl⟩
set_option maxHeartbeats 4000000 in
set_option maxRecDepth 100000 in
theorem ref19_all_c {Fs : List Hp} {G : Hp} {x0_0 : Int} {a0_1 : Option Addr} {k0_1 : Nat} {x0_1 : List (Int × Int)} {a1 : Option Addr} {k1 : Nat} {x1 : List Int} {r : ((List (List Int)) × Int)} (hG : G ∈ Fs) (s0_1 : SlR (Rep.pair (Rep.int .i64) (Rep.int .i64)) G a0_1 k0_1 x0_1) (s1 : SlR (Rep.int .i64) G a1 k1 x1) (h : ref19_all (x0_0, x0_1) x1 = some r) : RetW Tryz.prog 157 #[.agg #[.int .i64 x0_0, .slice a0_1 x0_1.length k0_1], .slice a1 x1.length k1] Fs [] [] (fun v bo so G => ∃ (oa0 : Option Addr) (ok0 : Nat) (oc0 : List Value), v = .tuple #[.slice oa0 r.1.length ok0, .int .i64 r.2] ∧ bo = [] ∧ so = [.s (.slice oa0 r.1.length ok0) 41 1 r.1.length oc0] ∧ OL (Rep.sl (Rep.int .i64)) G oc0 r.1) := by
 unfold ref19_all at h
 try dsimp only at h
 refine RetW.of (vs := [_, _]) Tryz.func157 rfl Tryz.ntmps157 [(0, _), (1, _)] ⟨rfl, rfl, trivial⟩ rfl hG fun w0 S0 hS0 B0 => ?_
 refine Cov.seq ?_;refine Cov.region rfl ?_
 refine Cov.box [_, _] .ro rfl rfl rfl (fun b1 hb1 => ?_)
 refine Cov.q .ro (.assign rfl) rfl ?_;refine Cov.q .ro (.assign rfl) rfl ?_;refine Cov.region_end ?_;refine Cov.seq ?_;refine Cov.seq ?_;refine Cov.region rfl ?_;refine Cov.q .ro (.load_own_a 0 [_, _] rfl rfl ty73 rfl) rfl ?_
 obtain ⟨u2, hu2, r3⟩ := bind_some h; clear h
 refine Cov.callS (b1 := []) (b2 := [_]) (s1 := []) [_] [] .ro rfl rfl Tryz.call63 rfl rfl (ref19_Check_c (G := G) List.mem_cons_self s0_1 hu2) rfl (fun v5 bo so h4 => ?_)
 obtain ⟨rfl, rfl, rfl⟩ := h4
 refine Cov.same (bl' := [_]) (sl' := []) rfl rfl rfl ?_;refine Cov.q .ro (.assign rfl) rfl ?_;refine Cov.region_end ?_;refine Cov.seq ?_;refine Cov.region rfl ?_;refine Cov.q .ro (.move rfl) rfl ?_;refine Cov.q .ro (.neq rfl rfl) rfl ?_;refine Cov.region_end ?_
 refine Cov.cond_dec rfl (fun c6 => ?_) (fun c6 => ?_)
 ·have r7 := ifT r3 c6; clear r3
  refine Cov.seq ?_;refine Cov.region rfl ?_;refine Cov.q .ro (.move rfl) rfl ?_;refine Cov.q .ro (.assign rfl) rfl ?_;refine Cov.q .ro (.assign rfl) rfl ?_;refine Cov.region_end ?_;refine Cov.own_nil 41 1 ?_
  cases r7
  refine Cov.drop 1 0 [] _ rfl rfl ?_
  refine Cov.retW (c := ⟨157, none⟩) (.inr ⟨_, rfl⟩) [.tmp 4, .tmp 5] [_, _] rfl Tryz.func157 Tryz.results157 ⟨RV.tmp rfl, RV.tmp rfl, trivial⟩ (fun _ h => List.mem_cons_of_mem _ h) List.mem_cons_self B0 (by subst hS0; simp [blks]) (fun G' hg => ⟨none, 0, [], rfl, rfl, rfl, (OL.mono hg (OL.nil (Rp' := (Rep.sl (Rep.int .i64)))))⟩)
 ·have r9 := ifF r3 c6; clear r3
  refine Cov.skip ?_;refine Cov.seq ?_;refine Cov.region rfl ?_;refine Cov.q .ro (.assign rfl) rfl ?_;refine Cov.region_end ?_;refine Cov.seq ?_;refine Cov.seq ?_;refine Cov.region rfl ?_;refine Cov.q .ro (.move rfl) rfl ?_
  refine Cov.q .ro (.len_sl rfl rfl sl41) rfl ?_;refine Cov.q .ro (.move rfl) rfl ?_;refine Cov.region_end ?_;refine Cov.block ?_;refine Cov.own_nil 41 1 ?_
  refine Cov.loop2 (α := Nat × List Int × Hp × List (List Int) × Option Addr × Nat × List Value) (fun y => [(7, .slice y.2.2.2.2.1 y.2.2.2.1.length y.2.2.2.2.2.1), (19, .int .i64 (y.1 : Int))]) [(2, _), (17, _), (18, _)] (fun y => [y.2.2.1]) (fun y => []) [_] (fun y => [.s (.slice y.2.2.2.2.1 y.2.2.2.1.length y.2.2.2.2.2.1) 41 1 y.2.2.2.1.length y.2.2.2.2.2.2]) [] (fun y => HpLe G y.2.2.1 ∧ Bd w0 S0 Fs y.2.2.1 ∧ OL (Rep.sl (Rep.int .i64)) y.2.2.1 y.2.2.2.2.2.2 y.2.2.2.1 ∧ List.drop y.1 x1 = y.2.1 ∧ ref19_all_L1 x0_0 x0_1 y.2.1 y.2.2.2.1 = some r) (fun y => y.2.1.length) (0, x1, G, ([] : List (List Int)), none, 0, []) ⟨(HpLe.refl _), B0, (OL.nil (Rp' := (Rep.sl (Rep.int .i64)))), rfl, r9⟩ ⟨rfl, rfl, rfl, rfl, rfl, trivial⟩ rfl rfl rfl (fun y hI hb108 => ?_)
  obtain ⟨i94, w95, G97, v101, a102, k103, cs104⟩ := y
  obtain ⟨e98, B99, o105, g96, r107⟩ := hI
  try dsimp only at e98 B99 o105 g96 r107
  refine Cov.prune [(7, .slice a102 v101.length k103), (19, .int .i64 (i94 : Int)), (2, _), (17, _), (18, _)] ⟨rfl, rfl, rfl, rfl, rfl, trivial⟩ ?_;refine Cov.same (bl' := [_]) (sl' := [.s (.slice a102 v101.length k103) 41 1 v101.length cs104]) (Fs' := G97 :: Fs) rfl rfl rfl ?_
  cases w95 with
  | nil =>
   rw [ref19_all_L1] at r107; try dsimp only at r107
   refine Cov.seq ?_;refine Cov.region rfl ?_;refine Cov.q .ro (.lss rfl rfl) rfl ?_;refine Cov.region_end ?_;refine Cov.seq ?_
   refine Cov.cond_dec rfl (fun c => absurd c (drop_nil g96)) (fun _ => ?_)
   refine Cov.exit rfl ?_;refine Cov.seq ?_;refine Cov.region rfl ?_;refine Cov.q .ro (.move rfl) rfl ?_;refine Cov.q .ro (.assign rfl) rfl ?_;refine Cov.q .ro (.assign rfl) rfl ?_;refine Cov.region_end ?_
   cases r107
   refine Cov.drop 1 0 [] _ rfl rfl ?_
   refine Cov.retW (c := ⟨157, none⟩) (.inr ⟨_, rfl⟩) [.tmp 4, .tmp 5] [_, _] rfl Tryz.func157 Tryz.results157 ⟨RV.tmp rfl, RV.tmp rfl, trivial⟩ (fun _ h => List.mem_cons_of_mem _ h) List.mem_cons_self B99 (by subst hS0; simp [blks]) (fun G' hg => ⟨a102, k103, cs104, rfl, rfl, rfl, (OL.mono hg o105)⟩)
  | cons x114 xs115 =>
   have r113 : ref19_all_B1 x0_0 x0_1 (ref19_all_L1 x0_0 x0_1 xs115) x114 v101 = some r := r107; clear r107; unfold ref19_all_B1 at r113; try dsimp only at r113
   refine Cov.seq ?_;refine Cov.region rfl ?_;refine Cov.q .ro (.lss rfl rfl) rfl ?_;refine Cov.region_end ?_;refine Cov.seq ?_
   refine Cov.cond_dec rfl (fun _ => ?_) (fun c => absurd (drop_lt g96) c)
   refine Cov.skip ?_;refine Cov.seq ?_;refine Cov.block ?_;refine Cov.seq ?_;refine Cov.region rfl ?_
   obtain ⟨c116, p117, h118⟩ := SlR.get (SlR.mono e98 s1) (drop_idx g96)
   obtain rfl := h118
   refine Cov.q .ro (.idxR (SlR.mono e98 s1) rfl rfl (drop_idx g96) sl41 ty3.sz) rfl ?_;refine Cov.q .ro (.load_rp p117 List.mem_cons_self rfl ty3 rfl) rfl ?_;refine Cov.q .ro (.assign rfl) rfl ?_;refine Cov.region_end ?_;refine Cov.seq ?_;refine Cov.region rfl ?_;refine Cov.q .ro (.load_own_a 0 [_, _] rfl rfl ty73 rfl) rfl ?_;refine Cov.q .ro (.move rfl) rfl ?_
   obtain ⟨u119, hu119, r120⟩ := bind_some r113; clear r113
   refine Cov.callS (b1 := []) (b2 := [_]) (s1 := []) [_, _] [] .ro rfl rfl Tryz.call108 rfl rfl (ref19_Homes_c (G := G97) List.mem_cons_self (SlR.mono e98 s0_1) hu119) rfl (fun v122 bo so h121 => ?_)
   obtain ⟨a124, k125, cs126, rfl, rfl, rfl, o127⟩ := h121
   refine Cov.same (bl' := [_]) (sl' := [_, _]) rfl rfl rfl ?_;refine Cov.q .ro (.move rfl) rfl ?_;refine Cov.q .ro (.extract rfl rfl) rfl ?_;refine Cov.q .ro (.extract rfl rfl) rfl ?_;refine Cov.q .ro (.assign rfl) rfl ?_;refine Cov.q .ro (.assign rfl) rfl ?_;refine Cov.region_end ?_;refine Cov.seq ?_;refine Cov.seq ?_
   refine Cov.region rfl ?_;refine Cov.q .ro (.move rfl) rfl ?_;refine Cov.q .ro (.neq rfl rfl) rfl ?_;refine Cov.region_end ?_
   refine Cov.cond_dec rfl (fun c128 => ?_) (fun c128 => ?_)
   ·have r129 := ifT r120 c128; clear r120
    refine Cov.seq ?_;refine Cov.region rfl ?_;refine Cov.q .ro (.move rfl) rfl ?_;refine Cov.q .ro (.assign rfl) rfl ?_;refine Cov.q .ro (.assign rfl) rfl ?_;refine Cov.region_end ?_;refine Cov.prune [(4, _), (5, _)] ⟨rfl, rfl, trivial⟩ ?_;refine Cov.own_nil 41 1 ?_
    cases r129
    refine Cov.drop 1 0 [] _ rfl rfl ?_;refine Cov.pullS 2 rfl [_, _, _] rfl ?_;refine Cov.pullS 2 rfl [_, _, _] rfl ?_;refine Cov.drop 0 2 _ [_] rfl rfl ?_
    refine Cov.retW (c := ⟨157, none⟩) (.inr ⟨_, rfl⟩) [.tmp 4, .tmp 5] [_, _] rfl Tryz.func157 Tryz.results157 ⟨RV.tmp rfl, RV.tmp rfl, trivial⟩ (fun _ h => List.mem_cons_of_mem _ h) List.mem_cons_self B99 (by subst hS0; simp [blks]) (fun G' hg => ⟨none, 0, [], rfl, rfl, rfl, (OL.mono hg (OL.nil (Rp' := (Rep.sl (Rep.int .i64)))))⟩)
   ·have r131 := ifF r120 c128; clear r120
    refine Cov.skip ?_;refine Cov.region rfl ?_;refine Cov.q .ro (.move rfl) rfl ?_;refine Cov.q .ro (.move rfl) rfl ?_
    refine Cov.freezeR 0 rfl rfl o127 [_] rfl B99 (fun G132 e133 B134 s135 => ?_)
    refine Cov.lit [_] [(0, _)] .ro sl50 ty41 rfl rfl rfl rfl rfl rfl (fun b137 hb137 => ?_)
    have o138 : OL (Rep.sl (Rep.int .i64)) G132 [.slice a124 u119.1.length k125] ([u119.1] : List (List Int)) := ((OL.cons rfl (Rep.slI s135) (OL.nil (Rp' := (Rep.sl (Rep.int .i64))))) :)
    refine Cov.reval 34 (n' := ([u119.1] : List (List Int)).length) rfl rfl ?_
    obtain ⟨u144, hu144, r145⟩ := bind_some r131; clear r131
    refine Cov.appO (Q := (Rep.sl (Rep.int .i64))) 0 .ro sl50 ty41 rfl rfl rfl rfl rfl rfl (OL.mono e133 o105) o138 rfl rfl rfl B134 hu144 rfl (fun a140 k141 cs142 o143 => ?_)
    refine Cov.q .ro (.assign rfl) rfl ?_;refine Cov.region_end ?_;refine Cov.prune [(7, _), (19, _), (2, _), (17, _), (18, _)] ⟨rfl, rfl, rfl, rfl, rfl, trivial⟩ ?_;refine Cov.inBlock ?_;refine Cov.region rfl ?_;refine Cov.q .ro (.addw rfl rfl) rfl ?_;refine Cov.q .ro (.move rfl) rfl ?_;refine Cov.region_end ?_
    refine Cov.prune _ ?_ (Cov.same rfl rfl rfl (hb108 ((i94 + 1), xs115, G132, u144, a140, k141, cs142) ⟨(HpLe.trans e98 e133), B134, o143, (drop_succ g96), r145⟩ (Nat.lt_succ_self _)))
    exact ⟨rfl, (congrArg (fun z => some (Value.int .i64 z)) (idx_wrap (SlR.len s1) g96)), rfl, rfl, rfl, trivial⟩
set_option maxHeartbeats 4000000 in
set_option maxRecDepth 100000 in
theorem ref19_place_R_c (n : Nat) : ∀ {Fs : List Hp} {G : Hp} {a0 : Option Addr} {k0 : Nat} {x0 : List (List Int)} {a1 : Option Addr} {k1 : Nat} {x1 : List (List Int)} {cc1 : List Value} {ee1 : List NE} {a2 : Option Addr} {k2 : Nat} {x2 : List Int} {x3 : Int} {x4 : Int} {a5 : Option Addr} {k5 : Nat} {x5 : List Bool} {cc5 : List Value} {bb5 : Option Nat} {pre5 post5 : List Value} {r : (Bool × (List (List Int)) × (List Bool))} (hG : G ∈ Fs) (s0 : SlR (Rep.sl (Rep.int .i64)) G a0 k0 x0) (oo1 : NL (Rep.int .i64) G ee1 cc1 x1) (s2 : SlR (Rep.int .i64) G a2 k2 x2) (vva5 : VA a5 bb5 x5.length k5 pre5 cc5) (oo5 : OL Rep.bool G cc5 x5) (h : ref19_place_R n x0 x1 x2 x3 x4 x5 = some r), RetS Tryz.prog 193 #[.slice a0 x0.length k0, .slice a1 x1.length k1, .slice a2 x2.length k2, .int .i64 x3, .int .i64 x4, .slice a5 x5.length k5] Fs [] [.s (.slice a1 x1.length k1) 41 1 x1.length cc1, .g (packG 3 1 ee1), .g (viewG bb5 4 pre5 cc5 post5)] (fun v bo so => (r.1 = false ∧ ∃ lc0 : List Value, v = .bool false ∧ bo = [] ∧ so = [.s (.slice a1 x1.length k1) 41 1 x1.length cc1, .g (packG 3 1 ee1), .g (viewG bb5 4 pre5 lc0 post5)] ∧ OL Rep.bool G lc0 r.2.2 ∧ r.2.2.length = x5.length) ∨ (r.1 = true ∧ ∃ le0 : List NE, ∃ lc0 : List Value, ∃ lc1 : List Value, v = .bool true ∧ bo = [] ∧ so = [.s (.slice a1 r.2.1.length k1) 41 1 r.2.1.length lc0, .g (packG 3 1 le0), .g (viewG bb5 4 pre5 lc1 post5)] ∧ NL (Rep.int .i64) G le0 lc0 r.2.1 ∧ r.2.1.length = x1.length ∧ OL Rep.bool G lc1 r.2.2 ∧ r.2.2.length = x5.length)) := by
 induction n with
 | zero => intro Fs G a0 k0 x0 a1 k1 x1 cc1 ee1 a2 k2 x2 x3 x4 a5 k5 x5 cc5 bb5 pre5 post5 r hG s0 oo1 s2 vva5 oo5 h; exact absurd h (by unfold ref19_place_R; simp)
 | succ n ih =>
  intro Fs G a0 k0 x0 a1 k1 x1 cc1 ee1 a2 k2 x2 x3 x4 a5 k5 x5 cc5 bb5 pre5 post5 r hG s0 oo1 s2 vva5 oo5 h
  unfold ref19_place_R at h
  unfold ref19_place_B3 at h
  try dsimp only at h
  refine RetS.of (vs := [_, _, _, _, _, _]) Tryz.func193 rfl Tryz.ntmps193 [(0, _), (1, _), (2, _), (3, _), (4, _), (5, _)] ⟨rfl, rfl, rfl, rfl, rfl, rfl, trivial⟩ rfl hG fun w0 S0 hS0 B0 => ?_
  refine Cov.seq ?_;refine Cov.region rfl ?_;refine Cov.q .ro (.assign rfl) rfl ?_;refine Cov.region_end ?_;refine Cov.seq ?_;refine Cov.seq ?_;refine Cov.region rfl ?_;refine Cov.q .ro (.move rfl) rfl ?_;refine Cov.q .ro (.move rfl) rfl ?_
  obtain ⟨u4, hu4, r5⟩ := bind_some h; clear h
  obtain ⟨c6, p7, h8⟩ := SlR.get s0 hu4
  obtain ⟨a9, k10, rfl, s11⟩ := h8
  refine Cov.q .ro (.idxR s0 rfl rfl hu4 sl50 ty41.sz) rfl ?_;refine Cov.q .ro (.load_rp p7 List.mem_cons_self rfl ty41 rfl) rfl ?_;refine Cov.q .ro (.len_sl rfl rfl sl41) rfl ?_;refine Cov.q .ro (.move rfl) rfl ?_;refine Cov.region_end ?_;refine Cov.block ?_;refine Cov.pullS 2 rfl [_, _, _] rfl ?_
  refine Cov.loop2 (α := Nat × List Int × List Bool × List Value) (fun y => [(5, .slice a5 y.2.2.1.length k5), (22, .int .i64 (y.1 : Int))]) [(0, _), (1, _), (2, _), (3, _), (4, _), (20, _), (21, _)] (fun y => []) (fun y => []) [] (fun y => [.g (viewG bb5 4 pre5 y.2.2.2 post5)]) [_, _] (fun y => OL Rep.bool G y.2.2.2 y.2.2.1 ∧ VA a5 bb5 y.2.2.1.length k5 pre5 y.2.2.2 ∧ y.2.2.1.length = x5.length ∧ List.drop y.1 u4 = y.2.1 ∧ ref19_place_L2 (ref19_place_R n) x0 x2 x3 x4 x1 y.2.1 y.2.2.1 = some r) (fun y => y.2.1.length) (0, u4, x5, cc5) ⟨oo5, vva5, rfl, rfl, r5⟩ ⟨rfl, rfl, rfl, rfl, rfl, rfl, rfl, rfl, rfl, trivial⟩ rfl rfl rfl (fun y hI hb238 => ?_)
  obtain ⟨i228, w229, v231, cs232⟩ := y
  obtain ⟨o233, va234, hl235, g230, r237⟩ := hI
  try dsimp only at o233 va234 hl235 g230 r237
  refine Cov.prune [(5, .slice a5 v231.length k5), (22, .int .i64 (i228 : Int)), (0, _), (1, _), (2, _), (3, _), (4, _), (20, _), (21, _)] ⟨rfl, rfl, rfl, rfl, rfl, rfl, rfl, rfl, rfl, trivial⟩ ?_;refine Cov.same (bl' := []) (sl' := [.g (viewG bb5 4 pre5 cs232 post5), _, _]) (Fs' := G :: Fs) rfl rfl rfl ?_
  cases w229 with
  | nil =>
   rw [ref19_place_L2] at r237; try dsimp only at r237
   refine Cov.seq ?_;refine Cov.region rfl ?_;refine Cov.q .ro (.lss rfl rfl) rfl ?_;refine Cov.region_end ?_;refine Cov.seq ?_
   refine Cov.cond_dec rfl (fun c => absurd c (drop_nil g230)) (fun _ => ?_)
   refine Cov.exit rfl ?_;refine Cov.seq ?_;refine Cov.region rfl ?_;refine Cov.q .ro (.assign rfl) rfl ?_;refine Cov.region_end ?_
   cases r237
   refine Cov.pullS 2 rfl [_, _, _] rfl ?_;refine Cov.pullS 2 rfl [_, _, _] rfl ?_
   refine Cov.retS (c := ⟨193, none⟩) (.inr ⟨_, rfl⟩) [.tmp 12] [_] rfl Tryz.func193 Tryz.results193 ⟨RV.tmp rfl, trivial⟩ (fun _ h => List.mem_cons_of_mem _ h) (.inl ⟨rfl, ⟨cs232, rfl, rfl, rfl, o233, hl235⟩⟩)
  | cons x247 xs248 =>
   have r246 : ref19_place_B2 (ref19_place_R n) x0 x2 x3 x4 x1 (ref19_place_L2 (ref19_place_R n) x0 x2 x3 x4 x1 xs248) x247 v231 = some r := r237; clear r237; unfold ref19_place_B2 at r246; try dsimp only at r246
   refine Cov.seq ?_;refine Cov.region rfl ?_;refine Cov.q .ro (.lss rfl rfl) rfl ?_;refine Cov.region_end ?_;refine Cov.seq ?_
   refine Cov.cond_dec rfl (fun _ => ?_) (fun c => absurd (drop_lt g230) c)
   refine Cov.skip ?_;refine Cov.seq ?_;refine Cov.block ?_;refine Cov.seq ?_;refine Cov.region rfl ?_
   obtain ⟨c249, p250, h251⟩ := SlR.get s11 (drop_idx g230)
   obtain rfl := h251
   refine Cov.q .ro (.idxR s11 rfl rfl (drop_idx g230) sl41 ty3.sz) rfl ?_;refine Cov.q .ro (.load_rp p250 List.mem_cons_self rfl ty3 rfl) rfl ?_;refine Cov.q .ro (.assign rfl) rfl ?_;refine Cov.region_end ?_;refine Cov.seq ?_;refine Cov.seq ?_;refine Cov.region rfl ?_;refine Cov.q .ro (.move rfl) rfl ?_;refine Cov.q .ro (.move rfl) rfl ?_
   obtain ⟨u252, hu252, r253⟩ := bind_some r246; clear r246
   obtain ⟨c254, p255, h256⟩ := OL.get o233 hu252
   obtain rfl := h256
   refine Cov.q .ro (.idxV 0 rfl va234 o233 rfl rfl hu252 sl265 ty4.sz rfl rfl) rfl ?_;refine Cov.q .ro (.loadV 0 0 rfl va234 o233 rfl rfl hu252 p255 rfl (.inl ⟨rfl, rfl⟩) ty4 rfl) rfl ?_;refine Cov.region_end ?_
   refine Cov.cond rfl (fun c257 => ?_) (fun c257 => ?_)
   ·have r258 := ifT r253 c257; clear r253
    refine Cov.exit rfl ?_;refine Cov.region rfl ?_;refine Cov.q .ro (.addw rfl rfl) rfl ?_;refine Cov.q .ro (.move rfl) rfl ?_;refine Cov.region_end ?_
    refine Cov.prune _ ?_ (Cov.same rfl rfl rfl (hb238 ((i228 + 1), xs248, v231, cs232) ⟨o233, va234, hl235, (drop_succ g230), r258⟩ (Nat.lt_succ_self _)))
    exact ⟨rfl, (congrArg (fun z => some (Value.int .i64 z)) (idx_wrap (SlR.len s11) g230)), rfl, rfl, rfl, rfl, rfl, rfl, rfl, trivial⟩
   ·have r259 := ifBF r253 c257; clear r253
    refine Cov.skip ?_;refine Cov.seq ?_;refine Cov.region rfl ?_;refine Cov.q .ro (.move rfl) rfl ?_;refine Cov.q .ro (.move rfl) rfl ?_
    obtain ⟨u260, hu260, r261⟩ := bind_some r259; clear r259
    obtain ⟨c262, p263, h264⟩ := OL.get o233 hu260
    obtain rfl := h264
    refine Cov.q .ro (.idxV 0 rfl va234 o233 rfl rfl hu260 sl265 ty4.sz rfl rfl) rfl ?_
    obtain ⟨u265, hu265, r266⟩ := bind_some r261; clear r261
    refine Cov.storeV 0 0 (Q := Rep.bool) .ro rfl va234 rfl rfl o233 hu265 rfl (.inl ⟨rfl, rfl⟩) rfl ty4 p263 ((Rep.boolI true) :) rfl rfl (fun cs267 hlcs267 o268 va269 => ?_)
    refine Cov.reval 5 hlcs267 rfl ?_;refine Cov.reval 26 hlcs267 rfl ?_;refine Cov.reval 30 hlcs267 rfl ?_;refine Cov.region_end ?_;refine Cov.seq ?_;refine Cov.seq ?_;refine Cov.drawL (.q 0 (.q 1 (.q 5 (.q 6 (.q 7 (.q 8 (.q 10 (.e 2 1 (.e 3 1 (.q 4 (.q 9 (.q 11 .nil)))))))))))) [] (by kernel_rfl) (by kernel_rfl) (pick_mem [] rfl) ?_;refine Cov.dq (.move rfl) rfl ?_;refine Cov.dq (.move rfl) rfl ?_
    refine Cov.dq (.move rfl) rfl ?_;refine Cov.dq (.move rfl) rfl ?_
    obtain ⟨u271, hu271, r272⟩ := bind_some r266; clear r266
    obtain ⟨c273, p274, h275⟩ := SlR.get s2 hu271
    obtain rfl := h275
    refine Cov.dq (.idxR s2 rfl rfl hu271 sl41 ty3.sz) rfl ?_;refine Cov.dq (.load_rp p274 List.mem_cons_self rfl ty3 rfl) rfl ?_;refine Cov.dq (.move rfl) rfl ?_
    obtain ⟨u276, hu276, r277⟩ := bind_some r272; clear r272
    obtain ⟨e278, he279, hn280, ho281, p282⟩ := NL.get oo1 hu276
    refine Cov.q .d1 (.idxO 1 rfl rfl rfl hu276 sl50 ty41.sz) rfl ?_;refine Cov.clsL (HpLe.refl _) (pick_mem [] rfl) ?_;refine Cov.q .d1 (.loadO 1 0 rfl hu276 p282 rfl (.inl ⟨rfl, rfl⟩) ty41 rfl) rfl ?_;refine Cov.clsL (HpLe.refl _) (pick_mem [] rfl) ?_;refine Cov.dq (.len_sl rfl rfl sl41) rfl ?_;refine Cov.dq (.addw rfl rfl) rfl ?_;refine Cov.dq (.lss rfl rfl) rfl ?_;refine Cov.draw_end ?_;refine Cov.prune [(5, _), (22, _), (0, _), (1, _), (2, _), (3, _), (4, _), (20, _), (21, _), (14, _), (44, _)] ⟨rfl, rfl, rfl, rfl, rfl, rfl, rfl, rfl, rfl, rfl, rfl, trivial⟩ ?_
    refine Cov.cond_dec rfl (fun c283 => ?_) (fun c283 => ?_)
    ·have r284 := ifT r277 c283; clear r277
     refine Cov.seq ?_;refine Cov.region rfl ?_;refine Cov.q .ro (.move rfl) rfl ?_;refine Cov.q .ro (.move rfl) rfl ?_;refine Cov.q .ro (.move rfl) rfl ?_;refine Cov.q .ro (.move rfl) rfl ?_
     obtain ⟨u285, hu285, r286⟩ := bind_some r284; clear r284
     obtain ⟨e287, he288, hn289, ho290, p291⟩ := NL.get oo1 hu285
     refine Cov.q .ro (.idxO 1 rfl rfl rfl hu285 sl50 ty41.sz) rfl ?_;refine Cov.q .ro (.loadO 1 0 rfl hu285 p291 rfl (.inl ⟨rfl, rfl⟩) ty41 rfl) rfl ?_;refine Cov.q .ro (.move rfl) rfl ?_
     refine Cov.lit [_] [(0, _)] .ro sl41 ty3 rfl rfl rfl rfl rfl rfl (fun b292 hb292 => ?_)
     have o293 : OL (Rep.int .i64) G [.int .i64 x4] ([x4] : List Int) := ((OL.cons rfl (Rep.intI .i64 x4) (OL.nil (Rp' := (Rep.int .i64)))) :)
     refine Cov.reval 52 (n' := ([x4] : List Int).length) rfl rfl ?_
     refine Cov.freezeR 0 rfl rfl o293 [_, _, _] rfl B0 (fun G295 e296 B297 s298 => ?_)
     refine Cov.takeN 2 rfl he288 hn289 ?_
     obtain ⟨u305, hu305, r306⟩ := bind_some r286; clear r286
     refine Cov.appR (Q := (Rep.int .i64)) 0 .ro sl41 ty3 rfl rfl rfl rfl rfl (OL.mono e296 ho290) rfl rfl s298 rfl List.mem_cons_self hu305 rfl (fun a301 k302 cs303 o304 => ?_)
     obtain ⟨u308, hu308, r309⟩ := bind_some r306; clear r306
     obtain ⟨e310, he311, hn312, ho313, p314⟩ := NL.get (NL.mono e296 oo1) hu308
     refine Cov.q .ro (.idxO 2 rfl rfl rfl hu308 sl50 ty41.sz) rfl ?_
     obtain ⟨u315, hu315, r316⟩ := bind_some r309; clear r309
     refine Cov.storeN 1 2 (Q := (Rep.int .i64)) .ro rfl rfl rfl (NL.mono e296 oo1) he288 o304 hu315 rfl (.inl ⟨rfl, rfl⟩) rfl ty41 rfl (fun es317 cs318 hlcs318 o319 => ?_)
     refine Cov.reval 1 hlcs318 rfl ?_;refine Cov.reval 45 hlcs318 rfl ?_;refine Cov.reval 47 hlcs318 rfl ?_;refine Cov.region_end ?_;refine Cov.prune [] trivial ?_;refine Cov.seq ?_;refine Cov.region rfl ?_;refine Cov.q .ro (.assign rfl) rfl ?_;refine Cov.region_end ?_
     cases r316
     refine Cov.pullS 2 rfl [_, _, _] rfl ?_;refine Cov.pullS 2 rfl [_, _, _] rfl ?_
     refine Cov.retS (c := ⟨193, none⟩) (.inr ⟨_, rfl⟩) [.tmp 12] [_] rfl Tryz.func193 Tryz.results193 ⟨RV.tmp rfl, trivial⟩ (fun _ h => List.mem_cons_of_mem _ h) (.inr ⟨rfl, ⟨es317, cs318, cs267, rfl, rfl, rfl, (NL.flat (Rep.flat_int _) o319), hlcs318, (OL.flat Rep.flat_bool (OL.mono e296 o268)), (hlcs267.trans hl235)⟩⟩)
    ·have r321 := ifF r277 c283; clear r277
     refine Cov.skip ?_;refine Cov.seq ?_;refine Cov.region rfl ?_;refine Cov.q .ro (.move rfl) rfl ?_;refine Cov.q .ro (.move rfl) rfl ?_
     obtain ⟨u322, hu322, r323⟩ := bind_some r321; clear r321
     obtain ⟨e324, he325, hn326, ho327, p328⟩ := NL.get oo1 hu322
     refine Cov.q .ro (.idxO 1 rfl rfl rfl hu322 sl50 ty41.sz) rfl ?_;refine Cov.q .ro (.loadO 1 0 rfl hu322 p328 rfl (.inl ⟨rfl, rfl⟩) ty41 rfl) rfl ?_;refine Cov.q .ro (.len_sl rfl rfl sl41) rfl ?_;refine Cov.q .ro (.move rfl) rfl ?_;refine Cov.region_end ?_;refine Cov.block ?_
     refine Cov.loop2 (α := Nat × List Int × List Bool × List Value) (fun y => [(5, .slice a5 y.2.2.1.length k5), (60, .int .i64 (y.1 : Int))]) [(22, _), (0, _), (1, _), (2, _), (3, _), (4, _), (20, _), (21, _), (14, _), (58, _), (59, _)] (fun y => []) (fun y => []) [] (fun y => [.g (viewG bb5 4 pre5 y.2.2.2 post5)]) [_, _] (fun y => OL Rep.bool G y.2.2.2 y.2.2.1 ∧ VA a5 bb5 y.2.2.1.length k5 pre5 y.2.2.2 ∧ y.2.2.1.length = x5.length ∧ List.drop y.1 u322 = y.2.1 ∧ ref19_place_L1 (ref19_place_L2 (ref19_place_R n) x0 x2 x3 x4 x1 xs248) (ref19_place_R n) x0 x2 x3 x4 x247 x1 y.2.1 y.1 y.2.2.1 = some r) (fun y => y.2.1.length) (0, u322, u265, cs267) ⟨o268, va269, (hlcs267.trans hl235), rfl, r323⟩ ⟨rfl, rfl, rfl, rfl, rfl, rfl, rfl, rfl, rfl, rfl, rfl, rfl, rfl, trivial⟩ rfl rfl rfl (fun y hI hb395 => ?_)
     obtain ⟨i385, w386, v388, cs389⟩ := y
     obtain ⟨o390, va391, hl392, g387, r394⟩ := hI
     try dsimp only at o390 va391 hl392 g387 r394
     refine Cov.prune [(5, .slice a5 v388.length k5), (60, .int .i64 (i385 : Int)), (22, _), (0, _), (1, _), (2, _), (3, _), (4, _), (20, _), (21, _), (14, _), (58, _), (59, _)] ⟨rfl, rfl, rfl, rfl, rfl, rfl, rfl, rfl, rfl, rfl, rfl, rfl, rfl, trivial⟩ ?_;refine Cov.same (bl' := []) (sl' := [.g (viewG bb5 4 pre5 cs389 post5), _, _]) (Fs' := G :: Fs) rfl rfl rfl ?_
     cases w386 with
     | nil =>
      rw [ref19_place_L1] at r394; try dsimp only at r394
      refine Cov.seq ?_;refine Cov.region rfl ?_;refine Cov.q .ro (.lss rfl rfl) rfl ?_;refine Cov.region_end ?_;refine Cov.seq ?_
      refine Cov.cond_dec rfl (fun c => absurd c (drop_nil g387)) (fun _ => ?_)
      refine Cov.exit rfl ?_;refine Cov.inBlock ?_;refine Cov.region rfl ?_;refine Cov.q .ro (.addw rfl rfl) rfl ?_;refine Cov.q .ro (.move rfl) rfl ?_;refine Cov.region_end ?_
      refine Cov.prune _ ?_ (Cov.same rfl rfl rfl (hb238 ((i228 + 1), xs248, v388, cs389) ⟨o390, va391, hl392, (drop_succ g230), r394⟩ (Nat.lt_succ_self _)))
      exact ⟨rfl, (congrArg (fun z => some (Value.int .i64 z)) (idx_wrap (SlR.len s11) g230)), rfl, rfl, rfl, rfl, rfl, rfl, rfl, trivial⟩
     | cons x408 xs409 =>
      have r407 : ref19_place_B1 (ref19_place_L2 (ref19_place_R n) x0 x2 x3 x4 x1 xs248) (ref19_place_R n) x0 x2 x3 x4 x247 x1 (ref19_place_L1 (ref19_place_L2 (ref19_place_R n) x0 x2 x3 x4 x1 xs248) (ref19_place_R n) x0 x2 x3 x4 x247 x1 xs409 (i385 + 1)) x408 i385 v388 = some r := r394; clear r394; unfold ref19_place_B1 at r407; try dsimp only at r407
      refine Cov.seq ?_;refine Cov.region rfl ?_;refine Cov.q .ro (.lss rfl rfl) rfl ?_;refine Cov.region_end ?_;refine Cov.seq ?_
      refine Cov.cond_dec rfl (fun _ => ?_) (fun c => absurd (drop_lt g387) c)
      refine Cov.skip ?_;refine Cov.seq ?_;refine Cov.block ?_;refine Cov.seq ?_;refine Cov.region rfl ?_;refine Cov.q .ro (.move rfl) rfl ?_
      obtain ⟨c410, p411, h412⟩ := OL.get ho327 (drop_idx g387)
      obtain rfl := h412
      refine Cov.q .ro (.inN 2 rfl he325 hn326 (.idxO (l := u322) 0 rfl rfl rfl (drop_idx g387) sl41 ty3.sz)) rfl ?_;refine Cov.q .ro (.inN 2 rfl he325 hn326 (.loadO (l := u322) 0 0 rfl (drop_idx g387) p411 rfl (.inl ⟨rfl, rfl⟩) ty3 rfl)) rfl ?_;refine Cov.q .ro (.assign rfl) rfl ?_;refine Cov.q .ro (.assign rfl) rfl ?_;refine Cov.region_end ?_;refine Cov.seq ?_;refine Cov.region rfl ?_;refine Cov.q .ro (.move rfl) rfl ?_;refine Cov.q .ro (.move rfl) rfl ?_
      refine Cov.q .ro (.move rfl) rfl ?_;refine Cov.q .ro (.move rfl) rfl ?_;refine Cov.q .ro (.move rfl) rfl ?_;refine Cov.q .ro (.move rfl) rfl ?_
      obtain ⟨u413, hu413, r414⟩ := bind_some r407; clear r407
      refine Cov.pullS 2 rfl [_, _, _] rfl ?_;refine Cov.pullS 2 rfl [_, _, _] rfl ?_
      refine Cov.callS (b1 := []) (b2 := []) (s1 := [_, _, _]) [_, _, _, _, _, _] [] .ro rfl rfl Tryz.call193 rfl rfl (ih (G := G) List.mem_cons_self s0 oo1 s2 va391 o390 hu413) rfl (fun v416 bo so h415 => ?_)
      rcases h415 with ⟨hb417, h415⟩ | ⟨hb417, h415⟩
      ·have r418 := ifBF r414 hb417
       obtain ⟨cs419, rfl, rfl, rfl, o420, hl421⟩ := h415
       refine Cov.same (bl' := []) (sl' := [_, _, _]) rfl rfl rfl ?_
       have va423 := VA.call va391 o390 o420 hl421
       refine Cov.reval 5 hl421 rfl ?_;refine Cov.reval 70 hl421 rfl ?_;refine Cov.region_end ?_;refine Cov.cond_false rfl ?_;refine Cov.skip ?_;refine Cov.inBlock ?_;refine Cov.region rfl ?_;refine Cov.q .ro (.addw rfl rfl) rfl ?_;refine Cov.q .ro (.move rfl) rfl ?_
       refine Cov.region_end ?_;refine Cov.prune [(5, _), (60, _), (22, _), (0, _), (1, _), (2, _), (3, _), (4, _), (20, _), (21, _), (14, _), (58, _), (59, _)] ⟨rfl, rfl, rfl, rfl, rfl, rfl, rfl, rfl, rfl, rfl, rfl, rfl, rfl, trivial⟩ ?_;refine Cov.pullS 1 rfl [_, _, _] rfl ?_;refine Cov.pullS 1 rfl [_, _, _] rfl ?_;refine Cov.pullS 2 rfl [_, _, _] rfl ?_
       refine Cov.prune _ ?_ (Cov.same rfl rfl rfl (hb395 ((i385 + 1), xs409, u413.2.2, cs419) ⟨o420, va423, (hl421.trans hl392), (drop_succ g387), r418⟩ (Nat.lt_succ_self _)))
       exact ⟨rfl, (congrArg (fun z => some (Value.int .i64 z)) (idx_wrap (OL.len' ho327) g387)), rfl, rfl, rfl, rfl, rfl, rfl, rfl, rfl, rfl, rfl, rfl, trivial⟩
      ·have r424 := ifT r414 hb417
       obtain ⟨es428, cs425, cs429, rfl, rfl, rfl, o426, hl427, o430, hl431⟩ := h415
       refine Cov.same (bl' := []) (sl' := [_, _, _]) rfl rfl rfl ?_
       have va434 := VA.call va391 o390 o430 hl431
       refine Cov.reval 1 hl427 rfl ?_;refine Cov.reval 66 hl427 rfl ?_;refine Cov.reval 5 hl431 rfl ?_;refine Cov.reval 70 hl431 rfl ?_;refine Cov.region_end ?_;refine Cov.cond_true rfl ?_;refine Cov.seq ?_;refine Cov.region rfl ?_;refine Cov.q .ro (.move rfl) rfl ?_
       refine Cov.q .ro (.move rfl) rfl ?_
       obtain ⟨u435, hu435, r436⟩ := bind_some r424; clear r424
       obtain ⟨e437, he438, hn439, ho440, p441⟩ := NL.get o426 hu435
       refine Cov.q .ro (.idxO 0 rfl rfl rfl hu435 sl50 ty41.sz) rfl ?_;refine Cov.q .ro (.loadO 0 0 rfl hu435 p441 rfl (.inl ⟨rfl, rfl⟩) ty41 rfl) rfl ?_;refine Cov.q .ro (.move rfl) rfl ?_;refine Cov.q .ro (.move rfl) rfl ?_
       obtain ⟨u442, hu442, r443⟩ := bind_some r436; clear r436
       obtain ⟨c444, p445, h446⟩ := OL.get ho440 hu442
       obtain rfl := h446
       refine Cov.q .ro (.inN 1 rfl he438 hn439 (.idxO (l := u435) 0 rfl rfl rfl hu442 sl41 ty3.sz)) rfl ?_;refine Cov.takeN 1 rfl he438 hn439 ?_
       obtain ⟨u448, hu448, r449⟩ := bind_some r443; clear r443
       refine Cov.storeR 0 0 (Q := (Rep.int .i64)) .ro rfl rfl ho440 hu448 rfl (.inl ⟨rfl, rfl⟩) rfl ty3 p445 ((Rep.intI .i64 x4) :) rfl rfl (fun cs450 hlcs450 o451 => ?_)
       obtain ⟨u453, hu453, r454⟩ := bind_some r449; clear r449
       refine Cov.backN 0 1 rfl rfl rfl o426 he438 (Eq.trans hlcs450 hn439.symm) o451 hu453 (fun es455 hles455 o456 => ?_)
       refine Cov.reval 1 hles455 rfl ?_;refine Cov.reval 66 hles455 rfl ?_;refine Cov.reval 72 hles455 rfl ?_;refine Cov.region_end ?_;refine Cov.prune [] trivial ?_;refine Cov.seq ?_;refine Cov.region rfl ?_;refine Cov.q .ro (.assign rfl) rfl ?_;refine Cov.region_end ?_
       cases r454
       refine Cov.retS (c := ⟨193, none⟩) (.inr ⟨_, rfl⟩) [.tmp 12] [_] rfl Tryz.func193 Tryz.results193 ⟨RV.tmp rfl, trivial⟩ (fun _ h => List.mem_cons_of_mem _ h) (.inr ⟨rfl, ⟨es455, cs425, cs429, rfl, rfl, rfl, o456, (hles455.trans hl427), o430, (hl431.trans hl392)⟩⟩)
theorem ref19_place_c {Fs : List Hp} {G : Hp} {a0 : Option Addr} {k0 : Nat} {x0 : List (List Int)} {a1 : Option Addr} {k1 : Nat} {x1 : List (List Int)} {cc1 : List Value} {ee1 : List NE} {a2 : Option Addr} {k2 : Nat} {x2 : List Int} {x3 : Int} {x4 : Int} {a5 : Option Addr} {k5 : Nat} {x5 : List Bool} {cc5 : List Value} {bb5 : Option Nat} {pre5 post5 : List Value} {r : (Bool × (List (List Int)) × (List Bool))} (hG : G ∈ Fs) (s0 : SlR (Rep.sl (Rep.int .i64)) G a0 k0 x0) (oo1 : NL (Rep.int .i64) G ee1 cc1 x1) (s2 : SlR (Rep.int .i64) G a2 k2 x2) (vva5 : VA a5 bb5 x5.length k5 pre5 cc5) (oo5 : OL Rep.bool G cc5 x5) (h : ref19_place x0 x1 x2 x3 x4 x5 = some r) : RetS Tryz.prog 193 #[.slice a0 x0.length k0, .slice a1 x1.length k1, .slice a2 x2.length k2, .int .i64 x3, .int .i64 x4, .slice a5 x5.length k5] Fs [] [.s (.slice a1 x1.length k1) 41 1 x1.length cc1, .g (packG 3 1 ee1), .g (viewG bb5 4 pre5 cc5 post5)] (fun v bo so => (r.1 = false ∧ ∃ lc0 : List Value, v = .bool false ∧ bo = [] ∧ so = [.s (.slice a1 x1.length k1) 41 1 x1.length cc1, .g (packG 3 1 ee1), .g (viewG bb5 4 pre5 lc0 post5)] ∧ OL Rep.bool G lc0 r.2.2 ∧ r.2.2.length = x5.length) ∨ (r.1 = true ∧ ∃ le0 : List NE, ∃ lc0 : List Value, ∃ lc1 : List Value, v = .bool true ∧ bo = [] ∧ so = [.s (.slice a1 r.2.1.length k1) 41 1 r.2.1.length lc0, .g (packG 3 1 le0), .g (viewG bb5 4 pre5 lc1 post5)] ∧ NL (Rep.int .i64) G le0 lc0 r.2.1 ∧ r.2.1.length = x1.length ∧ OL Rep.bool G lc1 r.2.2 ∧ r.2.2.length = x5.length)) := by
 unfold ref19_place at h
 exact ref19_place_R_c big hG s0 oo1 s2 vva5 oo5 h
set_option maxHeartbeats 4000000 in
set_option maxRecDepth 100000 in
theorem ref19_Possible_c {Fs : List Hp} {G : Hp} {a0 : Option Addr} {k0 : Nat} {x0 : List (List Int)} {x1 : Int} {x2 : Int} {a3 : Option Addr} {k3 : Nat} {x3 : List Int} {r : Bool} (hG : G ∈ Fs) (s0 : SlR (Rep.sl (Rep.int .i64)) G a0 k0 x0) (s3 : SlR (Rep.int .i64) G a3 k3 x3) (h : ref19_Possible x0 x1 x2 x3 = some r) : RetS Tryz.prog 180 #[.slice a0 x0.length k0, .int .i64 x1, .int .i64 x2, .slice a3 x3.length k3] Fs [] [] (fun v bo so => v = .bool r ∧ bo = [] ∧ so = []) := by
 unfold ref19_Possible at h
 try dsimp only at h
 refine RetS.of (vs := [_, _, _, _]) Tryz.func180 rfl Tryz.ntmps180 [(0, _), (1, _), (2, _), (3, _)] ⟨rfl, rfl, rfl, rfl, trivial⟩ rfl hG fun w0 S0 hS0 B0 => ?_
 refine Cov.seq ?_;refine Cov.region rfl ?_;refine Cov.q .ro (.assign rfl) rfl ?_;refine Cov.region_end ?_;refine Cov.seq ?_;refine Cov.region rfl ?_;refine Cov.q .ro (.move rfl) rfl ?_
 obtain ⟨u1, hu1, r2⟩ := bind_some h; clear h
 refine Cov.makeN (G := G) (Q := (Rep.int .i64)) 3 1 .ro sl50 ty41 rfl rfl hu1 rfl rfl (fun b3 es4 cs5 hb3 o6 => ?_)
 refine Cov.q .ro (.assign rfl) rfl ?_;refine Cov.region_end ?_;refine Cov.seq ?_;refine Cov.seq ?_;refine Cov.region rfl ?_;refine Cov.q .ro (.move rfl) rfl ?_;refine Cov.q .ro (.len_sl rfl rfl sl50) rfl ?_;refine Cov.q .ro (.move rfl) rfl ?_;refine Cov.region_end ?_
 refine Cov.block ?_;refine Cov.pullS 1 rfl [_, _] rfl ?_;refine Cov.pullS 1 rfl [_, _] rfl ?_
 refine Cov.loop2 (α := Nat × List (List Int) × List (List Int) × List NE × List Value) (fun y => [(9, .slice (some ⟨b3, 0, none⟩) y.2.2.1.length u1.length), (16, .int .i64 (y.1 : Int))]) [(0, _), (1, _), (2, _), (3, _), (15, _)] (fun y => []) (fun y => []) [] (fun y => [.s (.slice (some ⟨b3, 0, none⟩) y.2.2.1.length u1.length) 41 1 y.2.2.1.length y.2.2.2.2, .g (packG 3 1 y.2.2.2.1)]) [] (fun y => NL (Rep.int .i64) G y.2.2.2.1 y.2.2.2.2 y.2.2.1 ∧ y.2.2.1.length = u1.length ∧ List.drop y.1 x0 = y.2.1 ∧ ref19_Possible_L1 x0 x1 x2 x3 y.2.1 y.1 y.2.2.1 = some r) (fun y => y.2.1.length) (0, x0, u1, es4, cs5) ⟨o6, rfl, rfl, r2⟩ ⟨rfl, rfl, rfl, rfl, rfl, rfl, rfl, trivial⟩ rfl rfl rfl (fun y hI hb56 => ?_)
 obtain ⟨i45, w46, v48, es49, cs50⟩ := y
 obtain ⟨o51, hl52, g47, r55⟩ := hI
 try dsimp only at o51 hl52 g47 r55
 refine Cov.prune [(9, .slice (some ⟨b3, 0, none⟩) v48.length u1.length), (16, .int .i64 (i45 : Int)), (0, _), (1, _), (2, _), (3, _), (15, _)] ⟨rfl, rfl, rfl, rfl, rfl, rfl, rfl, trivial⟩ ?_;refine Cov.same (bl' := []) (sl' := [.s (.slice (some ⟨b3, 0, none⟩) v48.length u1.length) 41 1 v48.length cs50, .g (packG 3 1 es49)]) (Fs' := G :: Fs) rfl rfl rfl ?_
 cases w46 with
 | nil =>
  rw [ref19_Possible_L1] at r55; try dsimp only at r55
  refine Cov.seq ?_;refine Cov.region rfl ?_;refine Cov.q .ro (.lss rfl rfl) rfl ?_;refine Cov.region_end ?_;refine Cov.seq ?_
  refine Cov.cond_dec rfl (fun c => absurd c (drop_nil g47)) (fun _ => ?_)
  refine Cov.exit rfl ?_;refine Cov.seq ?_;refine Cov.region rfl ?_;refine Cov.q .ro (.assign rfl) rfl ?_;refine Cov.region_end ?_
  cases r55
  refine Cov.drop 0 2 _ [] rfl rfl ?_
  refine Cov.retS (c := ⟨180, none⟩) (.inr ⟨_, rfl⟩) [.tmp 8] [_] rfl Tryz.func180 Tryz.results180 ⟨RV.tmp rfl, trivial⟩ (fun _ h => List.mem_cons_of_mem _ h) ⟨rfl, rfl, rfl⟩
 | cons x63 xs64 =>
  have r62 : ref19_Possible_B1 x0 x1 x2 x3 (ref19_Possible_L1 x0 x1 x2 x3 xs64 (i45 + 1)) x63 i45 v48 = some r := r55; clear r55; unfold ref19_Possible_B1 at r62; try dsimp only at r62
  refine Cov.seq ?_;refine Cov.region rfl ?_;refine Cov.q .ro (.lss rfl rfl) rfl ?_;refine Cov.region_end ?_;refine Cov.seq ?_
  refine Cov.cond_dec rfl (fun _ => ?_) (fun c => absurd (drop_lt g47) c)
  refine Cov.skip ?_;refine Cov.seq ?_;refine Cov.block ?_;refine Cov.seq ?_;refine Cov.region rfl ?_;refine Cov.q .ro (.move rfl) rfl ?_;refine Cov.q .ro (.assign rfl) rfl ?_;refine Cov.region_end ?_;refine Cov.seq ?_
  refine Cov.region rfl ?_;refine Cov.q .ro (.move rfl) rfl ?_
  obtain ⟨u65, hu65, r66⟩ := bind_some r62; clear r62
  refine Cov.makeR (G := G) (Q := Rep.bool) .ro sl265 ty4 rfl rfl rfl ((Rep.boolI false) :) rfl rfl hu65 rfl rfl (fun b67 cs68 hb67 o69 => ?_)
  refine Cov.q .ro (.assign rfl) rfl ?_;refine Cov.region_end ?_;refine Cov.seq ?_;refine Cov.region rfl ?_;refine Cov.q .ro (.move rfl) rfl ?_;refine Cov.q .ro (.move rfl) rfl ?_;refine Cov.q .ro (.move rfl) rfl ?_;refine Cov.q .ro (.move rfl) rfl ?_;refine Cov.q .ro (.move rfl) rfl ?_
  refine Cov.q .ro (.move rfl) rfl ?_
  refine Cov.toV 0 rfl (fun vb71 po72 va73 vb74 => ?_)
  obtain ⟨u75, hu75, r76⟩ := bind_some r66; clear r66
  refine Cov.pullS 2 rfl [_, _, _] rfl ?_;refine Cov.pullS 2 rfl [_, _, _] rfl ?_
  refine Cov.callS (b1 := []) (b2 := []) (s1 := [_, _, _]) [_, _, _, _, _, _] [] .ro rfl rfl Tryz.call193 rfl rfl (ref19_place_c (G := G) List.mem_cons_self s0 o51 s3 va73 o69 hu75) rfl (fun v78 bo so h77 => ?_)
  rcases h77 with ⟨hb79, h77⟩ | ⟨hb79, h77⟩
  ·have r80 := ifBF r76 hb79
   obtain ⟨cs81, rfl, rfl, rfl, o82, hl83⟩ := h77
   refine Cov.same (bl' := []) (sl' := [_, _, _]) rfl rfl rfl ?_;refine Cov.ofV 2 rfl vb74 hl83 o82 rfl ?_;refine Cov.reval 20 hl83 rfl ?_;refine Cov.reval 11 hl83 rfl ?_;refine Cov.reval 26 hl83 rfl ?_;refine Cov.q .ro (.not_f rfl) rfl ?_;refine Cov.region_end ?_;refine Cov.prune [(9, _), (16, _), (0, _), (1, _), (2, _), (3, _), (15, _), (28, _)] ⟨rfl, rfl, rfl, rfl, rfl, rfl, rfl, rfl, trivial⟩ ?_;refine Cov.cond_true rfl ?_
   refine Cov.seq ?_;refine Cov.region rfl ?_;refine Cov.q .ro (.assign rfl) rfl ?_;refine Cov.region_end ?_
   cases r80
   refine Cov.drop 0 3 _ [] rfl rfl ?_
   refine Cov.retS (c := ⟨180, none⟩) (.inr ⟨_, rfl⟩) [.tmp 8] [_] rfl Tryz.func180 Tryz.results180 ⟨RV.tmp rfl, trivial⟩ (fun _ h => List.mem_cons_of_mem _ h) ⟨rfl, rfl, rfl⟩
  ·have r85 := ifT r76 hb79
   obtain ⟨es89, cs86, cs90, rfl, rfl, rfl, o87, hl88, o91, hl92⟩ := h77
   refine Cov.same (bl' := []) (sl' := [_, _, _]) rfl rfl rfl ?_;refine Cov.ofV 2 rfl vb74 hl92 o91 rfl ?_;refine Cov.reval 9 hl88 rfl ?_;refine Cov.reval 22 hl88 rfl ?_;refine Cov.reval 20 hl92 rfl ?_;refine Cov.reval 11 hl92 rfl ?_;refine Cov.reval 26 hl92 rfl ?_;refine Cov.q .ro (.not_t rfl) rfl ?_;refine Cov.region_end ?_
   refine Cov.prune [(9, _), (16, _), (0, _), (1, _), (2, _), (3, _), (15, _), (28, _)] ⟨rfl, rfl, rfl, rfl, rfl, rfl, rfl, rfl, trivial⟩ ?_;refine Cov.cond_false rfl ?_;refine Cov.skip ?_;refine Cov.inBlock ?_;refine Cov.region rfl ?_;refine Cov.q .ro (.addw rfl rfl) rfl ?_;refine Cov.q .ro (.move rfl) rfl ?_;refine Cov.region_end ?_;refine Cov.pullS 1 rfl [_, _, _] rfl ?_
   refine Cov.pullS 1 rfl [_, _, _] rfl ?_;refine Cov.pullS 2 rfl [_, _, _] rfl ?_;refine Cov.drop 0 1 _ [_, _] rfl rfl ?_
   refine Cov.prune _ ?_ (Cov.same rfl rfl rfl (hb56 ((i45 + 1), xs64, u75.2.1, es89, cs86) ⟨o87, (hl88.trans hl52), (drop_succ g47), r85⟩ (Nat.lt_succ_self _)))
   exact ⟨rfl, (congrArg (fun z => some (Value.int .i64 z)) (idx_wrap (SlR.len s0) g47)), rfl, rfl, rfl, rfl, rfl, trivial⟩
set_option maxHeartbeats 4000000 in
set_option maxRecDepth 100000 in
theorem ref19_First_c {Fs : List Hp} {G : Hp} {a0 : Option Addr} {k0 : Nat} {x0 : List (List Int)} {x1 : Int} {x2 : Int} {r : ((List Int) × Bool)} (hG : G ∈ Fs) (s0 : SlR (Rep.sl (Rep.int .i64)) G a0 k0 x0) (h : ref19_First x0 x1 x2 = some r) : RetS Tryz.prog 158 #[.slice a0 x0.length k0, .int .i64 x1, .int .i64 x2] Fs [] [] (fun v bo so => ∃ (oa0 : Option Addr) (ok0 : Nat) (oc0 : List Value), v = .tuple #[.slice oa0 r.1.length ok0, .bool r.2] ∧ bo = [] ∧ so = [.s (.slice oa0 r.1.length ok0) 3 1 r.1.length oc0] ∧ OL (Rep.int .i64) G oc0 r.1) := by
 unfold ref19_First at h
 try dsimp only at h
 refine RetS.of (vs := [_, _, _]) Tryz.func158 rfl Tryz.ntmps158 [(0, _), (1, _), (2, _)] ⟨rfl, rfl, rfl, trivial⟩ rfl hG fun w0 S0 hS0 B0 => ?_
 refine Cov.seq ?_;refine Cov.region rfl ?_;refine Cov.q .ro (.assign rfl) rfl ?_;refine Cov.q .ro (.assign rfl) rfl ?_;refine Cov.region_end ?_;refine Cov.seq ?_;refine Cov.region rfl ?_;refine Cov.q .ro (.move rfl) rfl ?_
 obtain ⟨u1, hu1, r2⟩ := bind_some h; clear h
 refine Cov.makeR (G := G) (Q := (Rep.int .i64)) .ro sl41 ty3 rfl rfl rfl ((Rep.intI .i64 0) :) rfl rfl hu1 rfl rfl (fun b3 cs4 hb3 o5 => ?_)
 refine Cov.q .ro (.assign rfl) rfl ?_;refine Cov.region_end ?_;refine Cov.seq ?_;refine Cov.seq ?_;refine Cov.region rfl ?_;refine Cov.q .ro (.move rfl) rfl ?_;refine Cov.q .ro (.move rfl) rfl ?_;refine Cov.q .ro (.move rfl) rfl ?_;refine Cov.q .ro (.move rfl) rfl ?_
 obtain ⟨u7, hu7, r8⟩ := bind_some r2; clear r2
 refine Cov.callB (Q := fun v bo so => v = .bool u7 ∧ bo = [] ∧ so = []) (b1 := []) (b2 := []) (s1 := []) (sB := [_]) (s2 := []) [_, _, _, _] [] .ro rfl rfl Tryz.call180 rfl rfl (fun Fs' G' hle hB hm => (ref19_Possible_c (G := G') hm (SlR.mono hle s0) (SlR.rd o5 rfl hle (hB _ (List.mem_of_getElem? (i := 0) rfl))) hu7)) rfl (fun v10 bo so h9 => ?_)
 obtain ⟨rfl, rfl, rfl⟩ := h9
 refine Cov.same (bl' := []) (sl' := [_]) rfl rfl rfl ?_;refine Cov.q .ro (.not rfl) rfl ?_;refine Cov.region_end ?_
 refine Cov.cond rfl (fun c11 => ?_) (fun c11 => ?_)
 ·have r12 := ifT r8 c11; clear r8
  refine Cov.seq ?_;refine Cov.region rfl ?_;refine Cov.q .ro (.assign rfl) rfl ?_;refine Cov.q .ro (.assign rfl) rfl ?_;refine Cov.region_end ?_;refine Cov.own_nil 3 1 ?_
  cases r12
  refine Cov.pullS 1 rfl [_, _] rfl ?_;refine Cov.drop 0 1 _ [_] rfl rfl ?_
  refine Cov.retS (c := ⟨158, none⟩) (.inr ⟨_, rfl⟩) [.tmp 6, .tmp 7] [_, _] rfl Tryz.func158 Tryz.results158 ⟨RV.tmp rfl, RV.tmp rfl, trivial⟩ (fun _ h => List.mem_cons_of_mem _ h) ⟨none, 0, [], rfl, rfl, rfl, (OL.nil (Rp' := (Rep.int .i64)))⟩
 ·have r14 := ifBF r8 c11; clear r8
  refine Cov.skip ?_;refine Cov.seq ?_;refine Cov.region rfl ?_;refine Cov.q .ro (.assign rfl) rfl ?_;refine Cov.region_end ?_;refine Cov.seq ?_;refine Cov.seq ?_;refine Cov.region rfl ?_;refine Cov.q .ro (.move rfl) rfl ?_
  refine Cov.q .ro (.len_sl rfl rfl sl50) rfl ?_;refine Cov.q .ro (.move rfl) rfl ?_;refine Cov.region_end ?_;refine Cov.block ?_;refine Cov.own_nil 3 1 ?_;refine Cov.pullS 1 rfl [_, _] rfl ?_;refine Cov.pullS 1 rfl [_, _] rfl ?_
  refine Cov.loop2 (α := Nat × List (List Int) × List Int × Option Addr × Nat × List Value × List Int × Option Addr × Nat × List Value) (fun y => [(9, .slice y.2.2.2.1 y.2.2.1.length y.2.2.2.2.1), (8, .slice y.2.2.2.2.2.2.2.1 y.2.2.2.2.2.2.1.length y.2.2.2.2.2.2.2.2.1), (24, .int .i64 (y.1 : Int))]) [(0, _), (1, _), (2, _), (22, _), (23, _)] (fun y => []) (fun y => []) [] (fun y => [.s (.slice y.2.2.2.1 y.2.2.1.length y.2.2.2.2.1) 3 1 y.2.2.1.length y.2.2.2.2.2.1, .s (.slice y.2.2.2.2.2.2.2.1 y.2.2.2.2.2.2.1.length y.2.2.2.2.2.2.2.2.1) 3 1 y.2.2.2.2.2.2.1.length y.2.2.2.2.2.2.2.2.2]) [] (fun y => OL (Rep.int .i64) G y.2.2.2.2.2.1 y.2.2.1 ∧ OL (Rep.int .i64) G y.2.2.2.2.2.2.2.2.2 y.2.2.2.2.2.2.1 ∧ List.drop y.1 x0 = y.2.1 ∧ ref19_First_L2 x0 x1 x2 y.2.1 y.1 y.2.2.1 y.2.2.2.2.2.2.1 = some r) (fun y => y.2.1.length) (0, x0, ([] : List Int), none, 0, [], u1, (some ⟨b3, 0, none⟩), u1.length, cs4) ⟨(OL.nil (Rp' := (Rep.int .i64))), o5, rfl, r14⟩ ⟨rfl, rfl, rfl, rfl, rfl, rfl, rfl, rfl, trivial⟩ rfl rfl rfl (fun y hI hb381 => ?_)
  obtain ⟨i365, w366, v368, a369, k370, cs371, v374, a375, k376, cs377⟩ := y
  obtain ⟨o372, o378, g367, r380⟩ := hI
  try dsimp only at o372 o378 g367 r380
  refine Cov.prune [(9, .slice a369 v368.length k370), (8, .slice a375 v374.length k376), (24, .int .i64 (i365 : Int)), (0, _), (1, _), (2, _), (22, _), (23, _)] ⟨rfl, rfl, rfl, rfl, rfl, rfl, rfl, rfl, trivial⟩ ?_;refine Cov.same (bl' := []) (sl' := [.s (.slice a369 v368.length k370) 3 1 v368.length cs371, .s (.slice a375 v374.length k376) 3 1 v374.length cs377]) (Fs' := G :: Fs) rfl rfl rfl ?_
  cases w366 with
  | nil =>
   rw [ref19_First_L2] at r380; try dsimp only at r380
   refine Cov.seq ?_;refine Cov.region rfl ?_;refine Cov.q .ro (.lss rfl rfl) rfl ?_;refine Cov.region_end ?_;refine Cov.seq ?_
   refine Cov.cond_dec rfl (fun c => absurd c (drop_nil g367)) (fun _ => ?_)
   refine Cov.exit rfl ?_;refine Cov.seq ?_;refine Cov.region rfl ?_;refine Cov.q .ro (.move rfl) rfl ?_;refine Cov.q .ro (.assign rfl) rfl ?_;refine Cov.q .ro (.assign rfl) rfl ?_;refine Cov.region_end ?_
   cases r380
   refine Cov.pullS 1 rfl [_, _] rfl ?_;refine Cov.drop 0 1 _ [_] rfl rfl ?_
   refine Cov.retS (c := ⟨158, none⟩) (.inr ⟨_, rfl⟩) [.tmp 6, .tmp 7] [_, _] rfl Tryz.func158 Tryz.results158 ⟨RV.tmp rfl, RV.tmp rfl, trivial⟩ (fun _ h => List.mem_cons_of_mem _ h) ⟨a369, k370, cs371, rfl, rfl, rfl, o372⟩
  | cons x387 xs388 =>
   have r386 : ref19_First_B2 x0 x1 x2 (ref19_First_L2 x0 x1 x2 xs388 (i365 + 1)) x387 i365 v368 v374 = some r := r380; clear r380; unfold ref19_First_B2 at r386; try dsimp only at r386
   refine Cov.seq ?_;refine Cov.region rfl ?_;refine Cov.q .ro (.lss rfl rfl) rfl ?_;refine Cov.region_end ?_;refine Cov.seq ?_
   refine Cov.cond_dec rfl (fun _ => ?_) (fun c => absurd (drop_lt g367) c)
   refine Cov.skip ?_;refine Cov.seq ?_;refine Cov.block ?_;refine Cov.seq ?_;refine Cov.region rfl ?_;refine Cov.q .ro (.move rfl) rfl ?_
   obtain ⟨c389, p390, h391⟩ := SlR.get s0 (drop_idx g367)
   obtain ⟨a392, k393, rfl, s394⟩ := h391
   refine Cov.q .ro (.idxR s0 rfl rfl (drop_idx g367) sl50 ty41.sz) rfl ?_;refine Cov.q .ro (.load_rp p390 List.mem_cons_self rfl ty41 rfl) rfl ?_;refine Cov.q .ro (.assign rfl) rfl ?_;refine Cov.q .ro (.assign rfl) rfl ?_;refine Cov.region_end ?_;refine Cov.seq ?_;refine Cov.region rfl ?_;refine Cov.q .ro (.move rfl) rfl ?_;refine Cov.q .ro (.len_sl rfl rfl sl41) rfl ?_
   refine Cov.q .ro (.move rfl) rfl ?_;refine Cov.region_end ?_;refine Cov.block ?_;refine Cov.pullS 1 rfl [_, _] rfl ?_
   refine Cov.loop2 (α := Nat × List Int × List Int × Option Addr × Nat × List Value) (fun y => [(8, .slice y.2.2.2.1 y.2.2.1.length y.2.2.2.2.1), (31, .int .i64 (y.1 : Int))]) [(9, _), (24, _), (0, _), (1, _), (2, _), (22, _), (23, _), (10, _), (29, _), (30, _)] (fun y => []) (fun y => []) [] (fun y => [.s (.slice y.2.2.2.1 y.2.2.1.length y.2.2.2.2.1) 3 1 y.2.2.1.length y.2.2.2.2.2]) [_] (fun y => OL (Rep.int .i64) G y.2.2.2.2.2 y.2.2.1 ∧ List.drop y.1 x387 = y.2.1 ∧ ref19_First_L1 (ref19_First_L2 x0 x1 x2 xs388 (i365 + 1)) (i365 : Int) x0 x1 x2 v368 y.2.1 y.2.2.1 = some r) (fun y => y.2.1.length) (0, x387, v374, a375, k376, cs377) ⟨o378, rfl, r386⟩ ⟨rfl, rfl, rfl, rfl, rfl, rfl, rfl, rfl, rfl, rfl, rfl, rfl, trivial⟩ rfl rfl rfl (fun y hI hb481 => ?_)
   obtain ⟨i471, w472, v474, a475, k476, cs477⟩ := y
   obtain ⟨o478, g473, r480⟩ := hI
   try dsimp only at o478 g473 r480
   refine Cov.prune [(8, .slice a475 v474.length k476), (31, .int .i64 (i471 : Int)), (9, _), (24, _), (0, _), (1, _), (2, _), (22, _), (23, _), (10, _), (29, _), (30, _)] ⟨rfl, rfl, rfl, rfl, rfl, rfl, rfl, rfl, rfl, rfl, rfl, rfl, trivial⟩ ?_;refine Cov.same (bl' := []) (sl' := [.s (.slice a475 v474.length k476) 3 1 v474.length cs477, _]) (Fs' := G :: Fs) rfl rfl rfl ?_
   cases w472 with
   | nil =>
    rw [ref19_First_L1] at r480; try dsimp only at r480
    refine Cov.seq ?_;refine Cov.region rfl ?_;refine Cov.q .ro (.lss rfl rfl) rfl ?_;refine Cov.region_end ?_;refine Cov.seq ?_
    refine Cov.cond_dec rfl (fun c => absurd c (drop_nil g473)) (fun _ => ?_)
    refine Cov.exit rfl ?_;refine Cov.inBlock ?_;refine Cov.region rfl ?_;refine Cov.q .ro (.addw rfl rfl) rfl ?_;refine Cov.q .ro (.move rfl) rfl ?_;refine Cov.region_end ?_;refine Cov.pullS 1 rfl [_, _] rfl ?_
    refine Cov.prune _ ?_ (Cov.same rfl rfl rfl (hb381 ((i365 + 1), xs388, v368, a369, k370, cs371, v474, a475, k476, cs477) ⟨o372, o478, (drop_succ g367), r480⟩ (Nat.lt_succ_self _)))
    exact ⟨rfl, rfl, (congrArg (fun z => some (Value.int .i64 z)) (idx_wrap (SlR.len s0) g367)), rfl, rfl, rfl, rfl, rfl, trivial⟩
   | cons x491 xs492 =>
    have r490 : ref19_First_B1 (ref19_First_L2 x0 x1 x2 xs388 (i365 + 1)) (i365 : Int) x0 x1 x2 v368 (ref19_First_L1 (ref19_First_L2 x0 x1 x2 xs388 (i365 + 1)) (i365 : Int) x0 x1 x2 v368 xs492) x491 v474 = some r := r480; clear r480; unfold ref19_First_B1 at r490; try dsimp only at r490
    refine Cov.seq ?_;refine Cov.region rfl ?_;refine Cov.q .ro (.lss rfl rfl) rfl ?_;refine Cov.region_end ?_;refine Cov.seq ?_
    refine Cov.cond_dec rfl (fun _ => ?_) (fun c => absurd (drop_lt g473) c)
    refine Cov.skip ?_;refine Cov.seq ?_;refine Cov.block ?_;refine Cov.seq ?_;refine Cov.region rfl ?_
    obtain ⟨c493, p494, h495⟩ := SlR.get s394 (drop_idx g473)
    obtain rfl := h495
    refine Cov.q .ro (.idxR s394 rfl rfl (drop_idx g473) sl41 ty3.sz) rfl ?_;refine Cov.q .ro (.load_rp p494 List.mem_cons_self rfl ty3 rfl) rfl ?_;refine Cov.q .ro (.assign rfl) rfl ?_;refine Cov.region_end ?_;refine Cov.seq ?_;refine Cov.seq ?_;refine Cov.region rfl ?_;refine Cov.q .ro (.move rfl) rfl ?_;refine Cov.q .ro (.move rfl) rfl ?_
    obtain ⟨u496, hu496, r497⟩ := bind_some r490; clear r490
    obtain ⟨c498, p499, h500⟩ := OL.get o478 hu496
    obtain rfl := h500
    refine Cov.q .ro (.idxO 0 rfl rfl rfl hu496 sl41 ty3.sz) rfl ?_;refine Cov.q .ro (.loadO 0 0 rfl hu496 p499 rfl (.inl ⟨rfl, rfl⟩) ty3 rfl) rfl ?_;refine Cov.q .ro (.move rfl) rfl ?_;refine Cov.q .ro (.eql rfl rfl) rfl ?_;refine Cov.region_end ?_
    refine Cov.cond_dec rfl (fun c501 => ?_) (fun c501 => ?_)
    ·have r502 := ifT r497 c501; clear r497
     refine Cov.exit rfl ?_;refine Cov.region rfl ?_;refine Cov.q .ro (.addw rfl rfl) rfl ?_;refine Cov.q .ro (.move rfl) rfl ?_;refine Cov.region_end ?_
     refine Cov.prune _ ?_ (Cov.same rfl rfl rfl (hb481 ((i471 + 1), xs492, v474, a475, k476, cs477) ⟨o478, (drop_succ g473), r502⟩ (Nat.lt_succ_self _)))
     exact ⟨rfl, (congrArg (fun z => some (Value.int .i64 z)) (idx_wrap (SlR.len s394) g473)), rfl, rfl, rfl, rfl, rfl, rfl, rfl, rfl, rfl, rfl, trivial⟩
    ·have r503 := ifF r497 c501; clear r497
     refine Cov.skip ?_;refine Cov.seq ?_;refine Cov.region rfl ?_;refine Cov.q .ro (.move rfl) rfl ?_;refine Cov.q .ro (.move rfl) rfl ?_
     obtain ⟨u504, hu504, r505⟩ := bind_some r503; clear r503
     obtain ⟨c506, p507, h508⟩ := OL.get o478 hu504
     obtain rfl := h508
     refine Cov.q .ro (.idxO 0 rfl rfl rfl hu504 sl41 ty3.sz) rfl ?_;refine Cov.q .ro (.loadO 0 0 rfl hu504 p507 rfl (.inl ⟨rfl, rfl⟩) ty3 rfl) rfl ?_;refine Cov.q .ro (.addw rfl rfl) rfl ?_
     obtain ⟨u509, hu509, r510⟩ := bind_some r505; clear r505
     obtain ⟨c511, p512, h513⟩ := OL.get o478 hu509
     obtain rfl := h513
     refine Cov.q .ro (.idxO 0 rfl rfl rfl hu509 sl41 ty3.sz) rfl ?_
     obtain ⟨u514, hu514, r515⟩ := bind_some r510; clear r510
     refine Cov.storeR 0 0 (Q := (Rep.int .i64)) .ro rfl rfl o478 hu514 rfl (.inl ⟨rfl, rfl⟩) rfl ty3 p512 ((Rep.intI .i64 (w64 (u504 + 1))) :) rfl rfl (fun cs516 hlcs516 o517 => ?_)
     refine Cov.reval 8 hlcs516 rfl ?_;refine Cov.reval 35 hlcs516 rfl ?_;refine Cov.reval 41 hlcs516 rfl ?_;refine Cov.region_end ?_;refine Cov.prune [(8, _), (31, _), (9, _), (24, _), (0, _), (1, _), (2, _), (22, _), (23, _), (10, _), (29, _), (30, _), (13, _)] ⟨rfl, rfl, rfl, rfl, rfl, rfl, rfl, rfl, rfl, rfl, rfl, rfl, rfl, trivial⟩ ?_;refine Cov.seq ?_;refine Cov.seq ?_;refine Cov.region rfl ?_;refine Cov.q .ro (.move rfl) rfl ?_
     refine Cov.q .ro (.move rfl) rfl ?_;refine Cov.q .ro (.addw rfl rfl) rfl ?_
     obtain ⟨u519, hu519, r520⟩ := bind_some r515; clear r515
     obtain ⟨a521, k522, h523, s524⟩ := SlR.sub s0 hu519
     refine Cov.q .ro (.sliceR s0 rfl hu519 sl50 ty41.sz (fun h => .yes' rfl h) (fun _ => .no) h523) rfl ?_;refine Cov.q .ro (.move rfl) rfl ?_;refine Cov.q .ro (.move rfl) rfl ?_;refine Cov.q .ro (.move rfl) rfl ?_
     obtain ⟨u525, hu525, r526⟩ := bind_some r520; clear r520
     refine Cov.callB (Q := fun v bo so => v = .bool u525 ∧ bo = [] ∧ so = []) (b1 := []) (b2 := []) (s1 := []) (sB := [_]) (s2 := [_]) [_, _, _, _] [] .ro rfl rfl Tryz.call180 rfl rfl (fun Fs' G' hle hB hm => (ref19_Possible_c (G := G') hm (SlR.mono hle s524) (SlR.rd o517 rfl hle (hB _ (List.mem_of_getElem? (i := 0) rfl))) hu525)) rfl (fun v528 bo so h527 => ?_)
     obtain ⟨rfl, rfl, rfl⟩ := h527
     refine Cov.same (bl' := []) (sl' := [_, _]) rfl rfl rfl ?_;refine Cov.region_end ?_
     refine Cov.cond rfl (fun c529 => ?_) (fun c529 => ?_)
     ·have r530 := ifT r526 c529; clear r526
      refine Cov.seq ?_;refine Cov.region rfl ?_;refine Cov.q .ro (.move rfl) rfl ?_;refine Cov.q .ro (.move rfl) rfl ?_
      refine Cov.lit [_] [(0, _)] .ro sl41 ty3 rfl rfl rfl rfl rfl rfl (fun b531 hb531 => ?_)
      have o532 : OL (Rep.int .i64) G [.int .i64 x491] ([x491] : List Int) := ((OL.cons rfl (Rep.intI .i64 x491) (OL.nil (Rp' := (Rep.int .i64)))) :)
      refine Cov.reval 57 (n' := ([x491] : List Int).length) rfl rfl ?_
      obtain ⟨u538, hu538, r539⟩ := bind_some r530; clear r530
      refine Cov.appO (Q := (Rep.int .i64)) 1 .ro sl41 ty3 rfl rfl rfl rfl rfl rfl o372 o532 rfl rfl rfl B0 hu538 rfl (fun a534 k535 cs536 o537 => ?_)
      refine Cov.q .ro (.assign rfl) rfl ?_;refine Cov.region_end ?_;refine Cov.prune [(8, _), (9, _), (24, _), (0, _), (1, _), (2, _), (22, _), (23, _)] ⟨rfl, rfl, rfl, rfl, rfl, rfl, rfl, rfl, trivial⟩ ?_;refine Cov.exit rfl ?_;refine Cov.inBlock ?_;refine Cov.region rfl ?_;refine Cov.q .ro (.addw rfl rfl) rfl ?_;refine Cov.q .ro (.move rfl) rfl ?_;refine Cov.region_end ?_
      refine Cov.pullS 1 rfl [_, _] rfl ?_
      refine Cov.prune _ ?_ (Cov.same rfl rfl rfl (hb381 ((i365 + 1), xs388, u538, a534, k535, cs536, u514, a475, k476, cs516) ⟨o537, o517, (drop_succ g367), r539⟩ (Nat.lt_succ_self _)))
      exact ⟨rfl, rfl, (congrArg (fun z => some (Value.int .i64 z)) (idx_wrap (SlR.len s0) g367)), rfl, rfl, rfl, rfl, rfl, trivial⟩
     ·have r541 := ifBF r526 c529; clear r526
      refine Cov.skip ?_;refine Cov.region rfl ?_;refine Cov.q .ro (.move rfl) rfl ?_;refine Cov.q .ro (.move rfl) rfl ?_
      obtain ⟨u542, hu542, r543⟩ := bind_some r541; clear r541
      obtain ⟨c544, p545, h546⟩ := OL.get o517 hu542
      obtain rfl := h546
      refine Cov.q .ro (.idxO 0 rfl rfl rfl hu542 sl41 ty3.sz) rfl ?_;refine Cov.q .ro (.loadO 0 0 rfl hu542 p545 rfl (.inl ⟨rfl, rfl⟩) ty3 rfl) rfl ?_;refine Cov.q .ro (.subw rfl rfl) rfl ?_
      obtain ⟨u547, hu547, r548⟩ := bind_some r543; clear r543
      obtain ⟨c549, p550, h551⟩ := OL.get o517 hu547
      obtain rfl := h551
      refine Cov.q .ro (.idxO 0 rfl rfl rfl hu547 sl41 ty3.sz) rfl ?_
      obtain ⟨u552, hu552, r553⟩ := bind_some r548; clear r548
      refine Cov.storeR 0 0 (Q := (Rep.int .i64)) .ro rfl rfl o517 hu552 rfl (.inl ⟨rfl, rfl⟩) rfl ty3 p550 ((Rep.intI .i64 (w64 (u542 - 1))) :) rfl rfl (fun cs554 hlcs554 o555 => ?_)
      refine Cov.reval 8 hlcs554 rfl ?_;refine Cov.reval 53 hlcs554 rfl ?_;refine Cov.reval 59 hlcs554 rfl ?_;refine Cov.region_end ?_;refine Cov.prune [(8, _), (31, _), (9, _), (24, _), (0, _), (1, _), (2, _), (22, _), (23, _), (10, _), (29, _), (30, _)] ⟨rfl, rfl, rfl, rfl, rfl, rfl, rfl, rfl, rfl, rfl, rfl, rfl, trivial⟩ ?_;refine Cov.inBlock ?_;refine Cov.region rfl ?_;refine Cov.q .ro (.addw rfl rfl) rfl ?_;refine Cov.q .ro (.move rfl) rfl ?_
      refine Cov.region_end ?_
      refine Cov.prune _ ?_ (Cov.same rfl rfl rfl (hb481 ((i471 + 1), xs492, u552, a475, k476, cs554) ⟨o555, (drop_succ g473), r553⟩ (Nat.lt_succ_self _)))
      exact ⟨rfl, (congrArg (fun z => some (Value.int .i64 z)) (idx_wrap (SlR.len s394) g473)), rfl, rfl, rfl, rfl, rfl, rfl, rfl, rfl, rfl, rfl, trivial⟩
set_option maxHeartbeats 4000000 in
set_option maxRecDepth 100000 in
theorem ref19_Assign_c {Fs : List Hp} {G : Hp} {x0_0 : Int} {a0_1 : Option Addr} {k0_1 : Nat} {x0_1 : List (Int × Int)} {a1 : Option Addr} {k1 : Nat} {x1 : List Int} {r : ((List Int) × Int)} (hG : G ∈ Fs) (s0_1 : SlR (Rep.pair (Rep.int .i64) (Rep.int .i64)) G a0_1 k0_1 x0_1) (s1 : SlR (Rep.int .i64) G a1 k1 x1) (h : ref19_Assign (x0_0, x0_1) x1 = some r) : RetW Tryz.prog 116 #[.agg #[.int .i64 x0_0, .slice a0_1 x0_1.length k0_1], .slice a1 x1.length k1] Fs [] [] (fun v bo so G => ∃ a0 : Option Addr, ∃ k0 : Nat, v = .tuple #[.agg #[.slice a0 r.1.length k0], .int .i64 r.2] ∧ bo = [] ∧ so = [] ∧ SlR (Rep.int .i64) G a0 k0 r.1) := by
 unfold ref19_Assign at h
 try dsimp only at h
 refine RetW.of (vs := [_, _]) Tryz.func116 rfl Tryz.ntmps116 [(0, _), (1, _)] ⟨rfl, rfl, trivial⟩ rfl hG fun w0 S0 hS0 B0 => ?_
 refine Cov.seq ?_;refine Cov.region rfl ?_
 refine Cov.box [_, _] .ro rfl rfl rfl (fun b1 hb1 => ?_)
 refine Cov.alloc .ro ty209 rfl (fun b2 hb2 => ?_)
 refine Cov.q .ro (.assign rfl) rfl ?_;refine Cov.region_end ?_;refine Cov.seq ?_;refine Cov.region rfl ?_;refine Cov.q .ro (.load_own_a 1 [_, _] rfl rfl ty73 rfl) rfl ?_;refine Cov.q .ro (.move rfl) rfl ?_
 obtain ⟨u3, hu3, r4⟩ := bind_some h; clear h
 refine Cov.callW (b1 := []) (b2 := [_, _]) (s1 := []) [_, _] [] .ro rfl rfl Tryz.call157 rfl rfl (ref19_all_c (G := G) List.mem_cons_self s0_1 s1 hu3) rfl B0 (fun v6 bo so G7 e8 B9 h5 => ?_)
 obtain ⟨a12, k13, cs14, rfl, rfl, rfl, o15⟩ := h5
 refine Cov.same (bl' := [_, _]) (sl' := [_]) rfl rfl rfl ?_;refine Cov.q .ro (.move rfl) rfl ?_;refine Cov.q .ro (.extract rfl rfl) rfl ?_;refine Cov.q .ro (.extract rfl rfl) rfl ?_;refine Cov.q .ro (.assign rfl) rfl ?_;refine Cov.q .ro (.assign rfl) rfl ?_;refine Cov.region_end ?_;refine Cov.seq ?_;refine Cov.seq ?_
 refine Cov.region rfl ?_;refine Cov.q .ro (.move rfl) rfl ?_;refine Cov.q .ro (.neq rfl rfl) rfl ?_;refine Cov.region_end ?_
 refine Cov.cond_dec rfl (fun c16 => ?_) (fun c16 => ?_)
 ·have r17 := ifT r4 c16; clear r4
  refine Cov.seq ?_;refine Cov.region rfl ?_;refine Cov.q .ro (.build [_] [] ty209 pl209 rfl rfl) rfl ?_;refine Cov.q .ro (.move rfl) rfl ?_;refine Cov.store 0 [_] [_, _] .ro rfl rfl rfl ty209 rfl rfl rfl rfl ?_;refine Cov.q .ro (.assign rfl) rfl ?_;refine Cov.region_end ?_;refine Cov.prune [(4, _), (5, _)] ⟨rfl, rfl, trivial⟩ ?_
  cases r17
  refine Cov.drop 0 1 _ [] rfl rfl ?_
  refine Cov.retWD 2 (c := ⟨116, none⟩) (.inr ⟨_, rfl⟩) [.cell 4 209, .tmp 5] [_, _] rfl Tryz.func116 Tryz.results116 ⟨RV.cell_a 0 [_] rfl rfl ty209 rfl, RV.tmp rfl, trivial⟩ (fun _ h => List.mem_cons_of_mem _ h) List.mem_cons_self B9 (by subst hS0; simp [blks]) (fun G' hg => ⟨none, 0, rfl, rfl, rfl, (SlR.mono hg (SlR.nil (Rp' := (Rep.int .i64))))⟩)
 ·have r18 := ifF r4 c16; clear r4
  refine Cov.skip ?_;refine Cov.seq ?_;refine Cov.seq ?_;refine Cov.region rfl ?_;refine Cov.q .ro (.move rfl) rfl ?_;refine Cov.q .ro (.len_sl rfl rfl sl41) rfl ?_;refine Cov.q .ro (.fieldAddr 0 rfl fl73_0 ty3.sz rfl) rfl ?_;refine Cov.q .ro (.load_own 1 rfl rfl ty3 rfl) rfl ?_;refine Cov.q .ro (.gtr rfl rfl) rfl ?_
  refine Cov.region_end ?_;refine Cov.prune [(2, _), (4, _), (6, _), (28, _)] ⟨rfl, rfl, rfl, rfl, trivial⟩ ?_
  refine Cov.cond_dec rfl (fun c19 => ?_) (fun c19 => ?_)
  ·have r20 := ifT r18 c19; clear r18
   refine Cov.seq ?_;refine Cov.region rfl ?_;refine Cov.q .ro (.build [_] [] ty209 pl209 rfl rfl) rfl ?_;refine Cov.store 0 [_] [_, _] .ro rfl rfl rfl ty209 rfl rfl rfl rfl ?_;refine Cov.q .ro (.assign rfl) rfl ?_;refine Cov.region_end ?_
   cases r20
   refine Cov.drop 0 1 _ [] rfl rfl ?_
   refine Cov.retWD 2 (c := ⟨116, none⟩) (.inr ⟨_, rfl⟩) [.cell 4 209, .tmp 5] [_, _] rfl Tryz.func116 Tryz.results116 ⟨RV.cell_a 0 [_] rfl rfl ty209 rfl, RV.tmp rfl, trivial⟩ (fun _ h => List.mem_cons_of_mem _ h) List.mem_cons_self B9 (by subst hS0; simp [blks]) (fun G' hg => ⟨none, 0, rfl, rfl, rfl, (SlR.mono hg (SlR.nil (Rp' := (Rep.int .i64))))⟩)
  ·have r21 := ifF r18 c19; clear r18
   refine Cov.skip ?_;refine Cov.seq ?_;refine Cov.region rfl ?_;refine Cov.q .ro (.move rfl) rfl ?_;refine Cov.q .ro (.fieldAddr 0 rfl fl73_0 ty3.sz rfl) rfl ?_;refine Cov.q .ro (.load_own 1 rfl rfl ty3 rfl) rfl ?_
   refine Cov.freezeR 0 rfl rfl o15 [] rfl B9 (fun G22 e23 B24 s25 => ?_)
   obtain ⟨u27, hu27, r28⟩ := bind_some r21; clear r21
   refine Cov.callS (b1 := []) (b2 := [_, _]) (s1 := []) [_, _, _] [] .ro rfl rfl Tryz.call158 rfl rfl (ref19_First_c (G := G22) List.mem_cons_self s25 hu27) rfl (fun v30 bo so h29 => ?_)
   obtain ⟨a32, k33, cs34, rfl, rfl, rfl, o35⟩ := h29
   refine Cov.same (bl' := [_, _]) (sl' := [_]) rfl rfl rfl ?_;refine Cov.q .ro (.move rfl) rfl ?_;refine Cov.q .ro (.extract rfl rfl) rfl ?_;refine Cov.q .ro (.extract rfl rfl) rfl ?_;refine Cov.q .ro (.assign rfl) rfl ?_;refine Cov.q .ro (.assign rfl) rfl ?_;refine Cov.region_end ?_;refine Cov.seq ?_;refine Cov.seq ?_
   refine Cov.region rfl ?_;refine Cov.q .ro (.move rfl) rfl ?_;refine Cov.q .ro (.not rfl) rfl ?_;refine Cov.region_end ?_
   refine Cov.cond rfl (fun c36 => ?_) (fun c36 => ?_)
   ·have r37 := ifT r28 c36; clear r28
    refine Cov.seq ?_;refine Cov.region rfl ?_;refine Cov.q .ro (.build [_] [] ty209 pl209 rfl rfl) rfl ?_;refine Cov.store 0 [_] [_, _] .ro rfl rfl rfl ty209 rfl rfl rfl rfl ?_;refine Cov.q .ro (.assign rfl) rfl ?_;refine Cov.region_end ?_;refine Cov.prune [(4, _), (5, _)] ⟨rfl, rfl, trivial⟩ ?_
    cases r37
    refine Cov.drop 0 1 _ [] rfl rfl ?_
    refine Cov.retWD 2 (c := ⟨116, none⟩) (.inr ⟨_, rfl⟩) [.cell 4 209, .tmp 5] [_, _] rfl Tryz.func116 Tryz.results116 ⟨RV.cell_a 0 [_] rfl rfl ty209 rfl, RV.tmp rfl, trivial⟩ (fun _ h => List.mem_cons_of_mem _ h) List.mem_cons_self B24 (by subst hS0; simp [blks]) (fun G' hg => ⟨none, 0, rfl, rfl, rfl, (SlR.mono hg (SlR.nil (Rp' := (Rep.int .i64))))⟩)
   ·have r38 := ifBF r28 c36; clear r28
    refine Cov.skip ?_;refine Cov.seq ?_;refine Cov.region rfl ?_;refine Cov.q .ro (.fieldAddr 0 rfl fl73_0 ty3.sz rfl) rfl ?_;refine Cov.q .ro (.load_own 1 rfl rfl ty3 rfl) rfl ?_
    obtain ⟨u39, hu39, r40⟩ := bind_some r38; clear r38
    refine Cov.makeR (G := G22) (Q := (Rep.int .i64)) .ro sl41 ty3 rfl rfl rfl ((Rep.intI .i64 0) :) rfl rfl hu39 rfl rfl (fun b41 cs42 hb41 o43 => ?_)
    refine Cov.q .ro (.build [_] [(0, _)] ty209 pl209 rfl rfl) rfl ?_
    refine Cov.alloc .ro ty209 rfl (fun b45 hb45 => ?_)
    refine Cov.store 0 [_] [_, _, _] .ro rfl rfl rfl ty209 rfl rfl rfl rfl ?_;refine Cov.region_end ?_;refine Cov.prune [(4, _), (8, _), (10, _)] ⟨rfl, rfl, rfl, trivial⟩ ?_;refine Cov.seq ?_;refine Cov.seq ?_;refine Cov.region rfl ?_;refine Cov.q .ro (.fieldAddr 0 rfl fl209_0 ty41.sz rfl) rfl ?_;refine Cov.q .ro (.load_own 0 rfl rfl ty41 rfl) rfl ?_;refine Cov.q .ro (.len_sl rfl rfl sl41) rfl ?_
    refine Cov.q .ro (.move rfl) rfl ?_;refine Cov.region_end ?_;refine Cov.cutB (β := List Int × Option Addr × Nat × List Value × Int) (fun y => []) [(4, _), (8, _), (10, _)] (fun y => G22 :: Fs) (fun y => [(b45, .cells #[.slice y.2.1 y.1.length y.2.2.1] 209 (0, 0)), (b1, .cells #[.int .i64 y.2.2.2.2, .slice a0_1 x0_1.length k0_1] 73 (0, 0))]) [_] (fun y => [.s (.slice y.2.1 y.1.length y.2.2.1) 3 1 y.1.length y.2.2.2.1]) [_] (fun y => OL (Rep.int .i64) G22 y.2.2.2.1 y.1 ∧ (ref19_Assign_J3 u27.1) y.1 y.2.2.2.2 = some r) ⟨rfl, rfl, rfl, trivial⟩ [1] rfl [1] rfl ?_ ?_
    ·intro y hI
     obtain ⟨v91, a92, k93, cs94, v97⟩ := y
     obtain ⟨o95, r99⟩ := hI
     try dsimp only at o95 r99
     refine Cov.prune [(4, _), (8, _), (10, _)] ⟨rfl, rfl, rfl, trivial⟩ ?_;refine Cov.same (bl' := [(b45, .cells #[.slice a92 v91.length k93] 209 (0, 0)), (b1, .cells #[.int .i64 v97, .slice a0_1 x0_1.length k0_1] 73 (0, 0)), _]) (sl' := [.s (.slice a92 v91.length k93) 3 1 v91.length cs94, _]) (Fs' := G22 :: Fs) rfl rfl rfl ?_
     unfold ref19_Assign_J3 at r99
     try dsimp only at r99
     refine Cov.seq ?_;refine Cov.seq ?_;refine Cov.region rfl ?_;refine Cov.q .ro (.move rfl) rfl ?_;refine Cov.q .ro (.len_sl rfl rfl sl41) rfl ?_;refine Cov.q .ro (.move rfl) rfl ?_;refine Cov.region_end ?_;refine Cov.cutB (β := List Int × Option Addr × Nat × List Value × Int) (fun y => []) [(4, _), (10, _)] (fun y => G22 :: Fs) (fun y => [(b45, .cells #[.slice y.2.1 y.1.length y.2.2.1] 209 (0, 0)), (b1, .cells #[.int .i64 y.2.2.2.2, .slice a0_1 x0_1.length k0_1] 73 (0, 0))]) [_] (fun y => [.s (.slice y.2.1 y.1.length y.2.2.1) 3 1 y.1.length y.2.2.2.1]) [_] (fun y => OL (Rep.int .i64) G22 y.2.2.2.1 y.1 ∧ ref19_Assign_J1 y.1 y.2.2.2.2 = some r) ⟨rfl, rfl, trivial⟩ [2] rfl [1] rfl ?_ ?_
     ·intro y hI
      obtain ⟨v155, a156, k157, cs158, v161⟩ := y
      obtain ⟨o159, r163⟩ := hI
      try dsimp only at o159 r163
      refine Cov.prune [(4, _), (10, _)] ⟨rfl, rfl, trivial⟩ ?_;refine Cov.same (bl' := [(b45, .cells #[.slice a156 v155.length k157] 209 (0, 0)), (b1, .cells #[.int .i64 v161, .slice a0_1 x0_1.length k0_1] 73 (0, 0)), _]) (sl' := [.s (.slice a156 v155.length k157) 3 1 v155.length cs158, _]) (Fs' := G22 :: Fs) rfl rfl rfl ?_
      unfold ref19_Assign_J1 at r163
      try dsimp only at r163
      refine Cov.seq ?_;refine Cov.region rfl ?_;refine Cov.q .ro (.load_own_a 0 [_] rfl rfl ty209 rfl) rfl ?_;refine Cov.store 2 [_] [_, _, _] .ro rfl rfl rfl ty209 rfl rfl rfl rfl ?_;refine Cov.q .ro (.assign rfl) rfl ?_;refine Cov.region_end ?_
      refine Cov.freezeR 0 rfl rfl o159 [_] rfl B24 (fun G166 e167 B168 s169 => ?_)
      cases r163
      refine Cov.drop 0 1 _ [] rfl rfl ?_
      refine Cov.retWD 3 (c := ⟨116, none⟩) (.inr ⟨_, rfl⟩) [.cell 4 209, .tmp 5] [_, _] rfl Tryz.func116 Tryz.results116 ⟨RV.cell_a 2 [_] rfl rfl ty209 rfl, RV.tmp rfl, trivial⟩ (fun _ h => List.mem_cons_of_mem _ h) List.mem_cons_self B168 (by subst hS0; simp [blks]) (fun G' hg => ⟨a156, k157, rfl, rfl, rfl, (SlR.mono hg s169)⟩)
     ·intro hb171
      refine Cov.block ?_
      refine Cov.loop2 (α := Nat × List Int × List Int × Option Addr × Nat × List Value) (fun y => [(57, .int .i64 (y.1 : Int))]) [(4, _), (10, _), (55, _), (56, _)] (fun y => []) (fun y => [(b45, .cells #[.slice y.2.2.2.1 y.2.2.1.length y.2.2.2.2.1] 209 (0, 0))]) [_, _] (fun y => [.s (.slice y.2.2.2.1 y.2.2.1.length y.2.2.2.2.1) 3 1 y.2.2.1.length y.2.2.2.2.2]) [_] (fun y => OL (Rep.int .i64) G22 y.2.2.2.2.2 y.2.2.1 ∧ List.drop y.1 u27.1 = y.2.1 ∧ ref19_Assign_L2 ref19_Assign_J1 v97 y.2.1 y.1 y.2.2.1 = some r) (fun y => y.2.1.length) (0, u27.1, v91, a92, k93, cs94) ⟨o95, rfl, r99⟩ ⟨rfl, rfl, rfl, rfl, rfl, trivial⟩ rfl rfl rfl (fun y hI hb204 => ?_)
      obtain ⟨i194, w195, v197, a198, k199, cs200⟩ := y
      obtain ⟨o201, g196, r203⟩ := hI
      try dsimp only at o201 g196 r203
      refine Cov.prune [(57, .int .i64 (i194 : Int)), (4, _), (10, _), (55, _), (56, _)] ⟨rfl, rfl, rfl, rfl, rfl, trivial⟩ ?_;refine Cov.same (bl' := [(b45, .cells #[.slice a198 v197.length k199] 209 (0, 0)), _, _]) (sl' := [.s (.slice a198 v197.length k199) 3 1 v197.length cs200, _]) (Fs' := G22 :: Fs) rfl rfl rfl ?_
      cases w195 with
      | nil =>
       rw [ref19_Assign_L2] at r203; try dsimp only at r203
       refine Cov.seq ?_;refine Cov.region rfl ?_;refine Cov.q .ro (.lss rfl rfl) rfl ?_;refine Cov.region_end ?_;refine Cov.seq ?_
       refine Cov.cond_dec rfl (fun c => absurd c (drop_nil g196)) (fun _ => ?_)
       refine Cov.exit rfl ?_
       refine Cov.prune _ ?_ (Cov.same rfl rfl rfl (hb171 (v197, a198, k199, cs200, v97) ⟨o201, r203⟩))
       exact ⟨rfl, rfl, trivial⟩
      | cons x210 xs211 =>
       have r209 : ref19_Assign_B2 ref19_Assign_J1 v97 (ref19_Assign_L2 ref19_Assign_J1 v97 xs211 (i194 + 1)) x210 i194 v197 = some r := r203; clear r203; unfold ref19_Assign_B2 at r209; try dsimp only at r209
       refine Cov.seq ?_;refine Cov.region rfl ?_;refine Cov.q .ro (.lss rfl rfl) rfl ?_;refine Cov.region_end ?_;refine Cov.seq ?_
       refine Cov.cond_dec rfl (fun _ => ?_) (fun c => absurd (drop_lt g196) c)
       refine Cov.skip ?_;refine Cov.seq ?_;refine Cov.block ?_;refine Cov.seq ?_;refine Cov.region rfl ?_;refine Cov.q .ro (.move rfl) rfl ?_
       obtain ⟨c212, p213, h214⟩ := OL.get o35 (drop_idx g196)
       obtain rfl := h214
       refine Cov.q .ro (.idxO 1 rfl rfl rfl (drop_idx g196) sl41 ty3.sz) rfl ?_;refine Cov.q .ro (.loadO 1 0 rfl (drop_idx g196) p213 rfl (.inl ⟨rfl, rfl⟩) ty3 rfl) rfl ?_;refine Cov.q .ro (.assign rfl) rfl ?_;refine Cov.q .ro (.assign rfl) rfl ?_;refine Cov.region_end ?_;refine Cov.region rfl ?_;refine Cov.q .ro (.fieldAddr 0 rfl fl209_0 ty41.sz rfl) rfl ?_;refine Cov.q .ro (.load_own 0 rfl rfl ty41 rfl) rfl ?_;refine Cov.q .ro (.move rfl) rfl ?_
       refine Cov.q .ro (.move rfl) rfl ?_
       obtain ⟨u215, hu215, r216⟩ := bind_some r209; clear r209
       obtain ⟨c217, p218, h219⟩ := OL.get o201 hu215
       obtain rfl := h219
       refine Cov.q .ro (.idxO 0 rfl rfl rfl hu215 sl41 ty3.sz) rfl ?_
       obtain ⟨u220, hu220, r221⟩ := bind_some r216; clear r216
       refine Cov.storeR 0 0 (Q := (Rep.int .i64)) .ro rfl rfl o201 hu220 rfl (.inl ⟨rfl, rfl⟩) rfl ty3 p218 ((Rep.intI .i64 (i194 : Int)) :) rfl rfl (fun cs222 hlcs222 o223 => ?_)
       refine Cov.reval 63 hlcs222 rfl ?_;refine Cov.recell 0 [.slice a198 u220.length k199] rfl (by rw [hlcs222]) [_, _, _] rfl ?_;refine Cov.region_end ?_;refine Cov.inBlock ?_;refine Cov.region rfl ?_;refine Cov.q .ro (.addw rfl rfl) rfl ?_;refine Cov.q .ro (.move rfl) rfl ?_;refine Cov.region_end ?_
       refine Cov.prune _ ?_ (Cov.same rfl rfl rfl (hb204 ((i194 + 1), xs211, u220, a198, k199, cs222) ⟨o223, (drop_succ g196), r221⟩ (Nat.lt_succ_self _)))
       exact ⟨(congrArg (fun z => some (Value.int .i64 z)) (idx_wrap (OL.len' o35) g196)), rfl, rfl, rfl, rfl, trivial⟩
    ·intro hb225
     refine Cov.block ?_
     refine Cov.loop2 (α := Nat × List Int × List Int × Option Addr × Nat × List Value) (fun y => [(47, .int .i64 (y.1 : Int))]) [(4, _), (8, _), (10, _), (46, _)] (fun y => []) (fun y => [(b45, .cells #[.slice y.2.2.2.1 y.2.2.1.length y.2.2.2.2.1] 209 (0, 0))]) [_, _] (fun y => [.s (.slice y.2.2.2.1 y.2.2.1.length y.2.2.2.2.1) 3 1 y.2.2.1.length y.2.2.2.2.2]) [_] (fun y => OL (Rep.int .i64) G22 y.2.2.2.2.2 y.2.2.1 ∧ List.drop y.1 u39 = y.2.1 ∧ ref19_Assign_L4 (ref19_Assign_J3 u27.1) x0_0 y.2.1 y.1 y.2.2.1 = some r) (fun y => y.2.1.length) (0, u39, u39, (some ⟨b41, 0, none⟩), u39.length, cs42) ⟨o43, rfl, r40⟩ ⟨rfl, rfl, rfl, rfl, rfl, trivial⟩ rfl rfl rfl (fun y hI hb253 => ?_)
     obtain ⟨i243, w244, v246, a247, k248, cs249⟩ := y
     obtain ⟨o250, g245, r252⟩ := hI
     try dsimp only at o250 g245 r252
     refine Cov.prune [(47, .int .i64 (i243 : Int)), (4, _), (8, _), (10, _), (46, _)] ⟨rfl, rfl, rfl, rfl, rfl, trivial⟩ ?_;refine Cov.same (bl' := [(b45, .cells #[.slice a247 v246.length k248] 209 (0, 0)), _, _]) (sl' := [.s (.slice a247 v246.length k248) 3 1 v246.length cs249, _]) (Fs' := G22 :: Fs) rfl rfl rfl ?_
     cases w244 with
     | nil =>
      rw [ref19_Assign_L4] at r252; try dsimp only at r252
      refine Cov.seq ?_;refine Cov.region rfl ?_;refine Cov.q .ro (.lss rfl rfl) rfl ?_;refine Cov.region_end ?_;refine Cov.seq ?_
      refine Cov.cond_dec rfl (fun c => absurd c (drop_nil g245)) (fun _ => ?_)
      refine Cov.exit rfl ?_;refine Cov.pull 1 rfl [_, _, _] rfl ?_;refine Cov.pull 2 rfl [_, _, _] rfl ?_;refine Cov.pull 2 rfl [_, _, _] rfl ?_
      refine Cov.prune _ ?_ (Cov.same rfl rfl rfl (hb225 (v246, a247, k248, cs249, x0_0) ⟨o250, r252⟩))
      exact ⟨rfl, rfl, rfl, trivial⟩
     | cons x259 xs260 =>
      have r258 : ref19_Assign_B4 (ref19_Assign_J3 u27.1) x0_0 (ref19_Assign_L4 (ref19_Assign_J3 u27.1) x0_0 xs260 (i243 + 1)) x259 i243 v246 = some r := r252; clear r252; unfold ref19_Assign_B4 at r258; try dsimp only at r258
      refine Cov.seq ?_;refine Cov.region rfl ?_;refine Cov.q .ro (.lss rfl rfl) rfl ?_;refine Cov.region_end ?_;refine Cov.seq ?_
      refine Cov.cond_dec rfl (fun _ => ?_) (fun c => absurd (drop_lt g245) c)
      refine Cov.skip ?_;refine Cov.seq ?_;refine Cov.block ?_;refine Cov.seq ?_;refine Cov.region rfl ?_;refine Cov.q .ro (.move rfl) rfl ?_;refine Cov.q .ro (.assign rfl) rfl ?_;refine Cov.region_end ?_;refine Cov.region rfl ?_
      refine Cov.q .ro (.fieldAddr 0 rfl fl209_0 ty41.sz rfl) rfl ?_;refine Cov.q .ro (.load_own 0 rfl rfl ty41 rfl) rfl ?_;refine Cov.q .ro (.move rfl) rfl ?_
      obtain ⟨u261, hu261, r262⟩ := bind_some r258; clear r258
      obtain ⟨c263, p264, h265⟩ := OL.get o250 hu261
      obtain rfl := h265
      refine Cov.q .ro (.idxO 0 rfl rfl rfl hu261 sl41 ty3.sz) rfl ?_
      obtain ⟨u266, hu266, r267⟩ := bind_some r262; clear r262
      refine Cov.storeR 0 0 (Q := (Rep.int .i64)) .ro rfl rfl o250 hu266 rfl (.inl ⟨rfl, rfl⟩) rfl ty3 p264 ((Rep.intI .i64 (-1)) :) rfl rfl (fun cs268 hlcs268 o269 => ?_)
      refine Cov.reval 51 hlcs268 rfl ?_;refine Cov.recell 0 [.slice a247 u266.length k248] rfl (by rw [hlcs268]) [_, _, _] rfl ?_;refine Cov.region_end ?_;refine Cov.inBlock ?_;refine Cov.region rfl ?_;refine Cov.q .ro (.addw rfl rfl) rfl ?_;refine Cov.q .ro (.move rfl) rfl ?_;refine Cov.region_end ?_
      refine Cov.prune _ ?_ (Cov.same rfl rfl rfl (hb253 ((i243 + 1), xs260, u266, a247, k248, cs268) ⟨o269, (drop_succ g245), r267⟩ (Nat.lt_succ_self _)))
      exact ⟨(congrArg (fun z => some (Value.int .i64 z)) (idx_wrap (OL.len' o43) g245)), rfl, rfl, rfl, rfl, trivial⟩
set_option maxHeartbeats 4000000 in
set_option maxRecDepth 100000 in
theorem ref19_Failures_c {Fs : List Hp} {G : Hp} {x0_0 : Int} {a0_1 : Option Addr} {k0_1 : Nat} {x0_1 : List (Int × Int)} {x1 : Int} {x2 : Int} {r : (Int × Int × Int)} (hG : G ∈ Fs) (s0_1 : SlR (Rep.pair (Rep.int .i64) (Rep.int .i64)) G a0_1 k0_1 x0_1) (h : ref19_Failures (x0_0, x0_1) x1 x2 = some r) : RetS Tryz.prog 59 #[.agg #[.int .i64 x0_0, .slice a0_1 x0_1.length k0_1], .int .i64 x1, .int .i64 x2] Fs [] [] (fun v bo so => v = .tuple #[.int .i64 r.1, .int .i64 r.2.1, .int .i64 r.2.2] ∧ bo = [] ∧ so = []) := by
 unfold ref19_Failures at h
 try dsimp only at h
 refine RetS.of (vs := [_, _, _]) Tryz.func59 rfl Tryz.ntmps59 [(0, _), (1, _), (2, _)] ⟨rfl, rfl, rfl, trivial⟩ rfl hG fun w0 S0 hS0 B0 => ?_
 refine Cov.seq ?_;refine Cov.region rfl ?_
 refine Cov.box [_, _] .ro rfl rfl rfl (fun b1 hb1 => ?_)
 refine Cov.q .ro (.assign rfl) rfl ?_;refine Cov.q .ro (.assign rfl) rfl ?_;refine Cov.q .ro (.assign rfl) rfl ?_;refine Cov.region_end ?_;refine Cov.seq ?_;refine Cov.seq ?_;refine Cov.region rfl ?_;refine Cov.q .ro (.load_own_a 0 [_, _] rfl rfl ty73 rfl) rfl ?_
 obtain ⟨u2, hu2, r3⟩ := bind_some h; clear h
 refine Cov.callS (b1 := []) (b2 := [_]) (s1 := []) [_] [] .ro rfl rfl Tryz.call63 rfl rfl (ref19_Check_c (G := G) List.mem_cons_self s0_1 hu2) rfl (fun v5 bo so h4 => ?_)
 obtain ⟨rfl, rfl, rfl⟩ := h4
 refine Cov.same (bl' := [_]) (sl' := []) rfl rfl rfl ?_;refine Cov.q .ro (.assign rfl) rfl ?_;refine Cov.region_end ?_;refine Cov.seq ?_;refine Cov.region rfl ?_;refine Cov.q .ro (.move rfl) rfl ?_;refine Cov.q .ro (.neq rfl rfl) rfl ?_;refine Cov.region_end ?_
 refine Cov.cond_dec rfl (fun c6 => ?_) (fun c6 => ?_)
 ·have r7 := ifT r3 c6; clear r3
  refine Cov.seq ?_;refine Cov.region rfl ?_;refine Cov.q .ro (.move rfl) rfl ?_;refine Cov.q .ro (.assign rfl) rfl ?_;refine Cov.q .ro (.assign rfl) rfl ?_;refine Cov.q .ro (.assign rfl) rfl ?_;refine Cov.region_end ?_
  cases r7
  refine Cov.drop 1 0 [] _ rfl rfl ?_
  refine Cov.retS (c := ⟨59, none⟩) (.inr ⟨_, rfl⟩) [.tmp 6, .tmp 7, .tmp 8] [_, _, _] rfl Tryz.func59 Tryz.results59 ⟨RV.tmp rfl, RV.tmp rfl, RV.tmp rfl, trivial⟩ (fun _ h => List.mem_cons_of_mem _ h) ⟨rfl, rfl, rfl⟩
 ·have r8 := ifF r3 c6; clear r3
  refine Cov.skip ?_;refine Cov.seq ?_;refine Cov.seq ?_;refine Cov.region rfl ?_;refine Cov.q .ro (.move rfl) rfl ?_;refine Cov.q .ro (.lss rfl rfl) rfl ?_;refine Cov.q .ro (.move rfl) rfl ?_;refine Cov.cutR 3 (β := Unit) (fun y => [(28, .bool (decide ((x1 < 0) ∨ (1024 < x1))))]) [(1, _), (2, _), (3, _)] (fun y => G :: Fs) (fun y => []) [_] (fun y => []) [] (fun y => True) ⟨rfl, rfl, rfl, trivial⟩ [0] rfl [] rfl ?_ ?_
  ·rintro _ _
   refine Cov.prune [(28, .bool (decide ((x1 < 0) ∨ (1024 < x1)))), (1, _), (2, _), (3, _)] ⟨rfl, rfl, rfl, rfl, trivial⟩ ?_;refine Cov.same (bl' := [_]) (sl' := []) (Fs' := G :: Fs) rfl rfl rfl ?_;refine Cov.q .ro (.move rfl) rfl ?_;refine Cov.cutR 3 (β := Unit) (fun y => [(32, .bool (decide (((x1 < 0) ∨ (1024 < x1)) ∨ (x2 < 0))))]) [(1, _), (2, _), (3, _)] (fun y => G :: Fs) (fun y => []) [_] (fun y => []) [] (fun y => True) ⟨rfl, rfl, rfl, trivial⟩ [0] rfl [] rfl ?_ ?_
   ·rintro _ _
    refine Cov.prune [(32, .bool (decide (((x1 < 0) ∨ (1024 < x1)) ∨ (x2 < 0)))), (1, _), (2, _), (3, _)] ⟨rfl, rfl, rfl, rfl, trivial⟩ ?_;refine Cov.same (bl' := [_]) (sl' := []) (Fs' := G :: Fs) rfl rfl rfl ?_;refine Cov.q .ro (.move rfl) rfl ?_;refine Cov.cutR 4 (β := Unit) (fun y => [(37, .bool (decide ((((x1 < 0) ∨ (1024 < x1)) ∨ (x2 < 0)) ∨ (x1 < x2))))]) [(1, _), (2, _), (3, _)] (fun y => G :: Fs) (fun y => []) [_] (fun y => []) [] (fun y => True) ⟨rfl, rfl, rfl, trivial⟩ [0] rfl [] rfl ?_ ?_
    ·rintro _ _
     refine Cov.prune [(37, .bool (decide ((((x1 < 0) ∨ (1024 < x1)) ∨ (x2 < 0)) ∨ (x1 < x2)))), (1, _), (2, _), (3, _)] ⟨rfl, rfl, rfl, rfl, trivial⟩ ?_;refine Cov.same (bl' := [_]) (sl' := []) (Fs' := G :: Fs) rfl rfl rfl ?_;refine Cov.region_end ?_
     refine Cov.cond_dec rfl (fun c21 => ?_) (fun c21 => ?_)
     ·have r22 := ifT r8 c21; clear r8
      refine Cov.seq ?_;refine Cov.region rfl ?_;refine Cov.q .ro (.assign rfl) rfl ?_;refine Cov.q .ro (.assign rfl) rfl ?_;refine Cov.q .ro (.assign rfl) rfl ?_;refine Cov.region_end ?_
      cases r22
      refine Cov.drop 1 0 [] _ rfl rfl ?_
      refine Cov.retS (c := ⟨59, none⟩) (.inr ⟨_, rfl⟩) [.tmp 6, .tmp 7, .tmp 8] [_, _, _] rfl Tryz.func59 Tryz.results59 ⟨RV.tmp rfl, RV.tmp rfl, RV.tmp rfl, trivial⟩ (fun _ h => List.mem_cons_of_mem _ h) ⟨rfl, rfl, rfl⟩
     ·have r23 := ifF r8 c21; clear r8
      refine Cov.skip ?_;refine Cov.seq ?_;refine Cov.region rfl ?_;refine Cov.q .ro (.move rfl) rfl ?_;refine Cov.q .ro (.move rfl) rfl ?_
      obtain ⟨u24, hu24, r25⟩ := bind_some r23; clear r23
      refine Cov.callS (b1 := []) (b2 := [_]) (s1 := []) [_, _] [] .ro rfl rfl Tryz.call115 rfl rfl (ref19_sets_c (G := G) List.mem_cons_self  hu24) rfl (fun v27 bo so h26 => ?_)
      obtain ⟨rfl, rfl, rfl⟩ := h26
      refine Cov.same (bl' := [_]) (sl' := []) rfl rfl rfl ?_;refine Cov.q .ro (.assign rfl) rfl ?_;refine Cov.region_end ?_;refine Cov.seq ?_;refine Cov.seq ?_;refine Cov.region rfl ?_;refine Cov.q .ro (.move rfl) rfl ?_;refine Cov.q .ro (.gtr rfl rfl) rfl ?_;refine Cov.region_end ?_
      refine Cov.cond_dec rfl (fun c28 => ?_) (fun c28 => ?_)
      ·have r29 := ifT r25 c28; clear r25
       refine Cov.seq ?_;refine Cov.region rfl ?_;refine Cov.q .ro (.assign rfl) rfl ?_;refine Cov.q .ro (.assign rfl) rfl ?_;refine Cov.q .ro (.assign rfl) rfl ?_;refine Cov.region_end ?_
       cases r29
       refine Cov.drop 1 0 [] _ rfl rfl ?_
       refine Cov.retS (c := ⟨59, none⟩) (.inr ⟨_, rfl⟩) [.tmp 6, .tmp 7, .tmp 8] [_, _, _] rfl Tryz.func59 Tryz.results59 ⟨RV.tmp rfl, RV.tmp rfl, RV.tmp rfl, trivial⟩ (fun _ h => List.mem_cons_of_mem _ h) ⟨rfl, rfl, rfl⟩
      ·have r30 := ifF r25 c28; clear r25
       refine Cov.skip ?_;refine Cov.seq ?_;refine Cov.region rfl ?_;refine Cov.q .ro (.assign rfl) rfl ?_;refine Cov.region_end ?_;refine Cov.seq ?_;refine Cov.region rfl ?_;refine Cov.q .ro (.assign rfl) rfl ?_;refine Cov.region_end ?_
       refine Cov.seq ?_;refine Cov.seq ?_;refine Cov.region rfl ?_;refine Cov.q .ro (.assign rfl) rfl ?_;refine Cov.region_end ?_;refine Cov.cutB (β := List Int × Option Addr × Nat × List Value × Int) (fun y => [(12, .slice y.2.1 y.1.length y.2.2.1)]) [(1, _), (2, _), (3, _), (10, _), (11, _)] (fun y => G :: Fs) (fun y => [(b1, .cells #[.int .i64 y.2.2.2.2, .slice a0_1 x0_1.length k0_1] 73 (0, 0))]) [] (fun y => [.s (.slice y.2.1 y.1.length y.2.2.1) 3 1 y.1.length y.2.2.2.1]) [] (fun y => OL (Rep.int .i64) G y.2.2.2.1 y.1 ∧ (ref19_Failures_J6 x1 x2 u24 x0_1) y.1 y.2.2.2.2 = some r) ⟨rfl, rfl, rfl, rfl, rfl, trivial⟩ [] rfl [] rfl ?_ ?_
       ·intro y hI
        obtain ⟨v99, a100, k101, cs102, v105⟩ := y
        obtain ⟨o103, r107⟩ := hI
        try dsimp only at o103 r107
        refine Cov.prune [(12, .slice a100 v99.length k101), (1, _), (2, _), (3, _), (10, _), (11, _)] ⟨rfl, rfl, rfl, rfl, rfl, rfl, trivial⟩ ?_;refine Cov.same (bl' := [(b1, .cells #[.int .i64 v105, .slice a0_1 x0_1.length k0_1] 73 (0, 0))]) (sl' := [.s (.slice a100 v99.length k101) 3 1 v99.length cs102]) (Fs' := G :: Fs) rfl rfl rfl ?_
        unfold ref19_Failures_J6 at r107
        try dsimp only at r107
        refine Cov.seq ?_;refine Cov.seq ?_;refine Cov.region rfl ?_;refine Cov.q .ro (.move rfl) rfl ?_;refine Cov.q .ro (.move rfl) rfl ?_;refine Cov.region_end ?_;refine Cov.block ?_
        refine Cov.loop2 (α := Nat × Int × Int × List Int × Option Addr × Nat × List Value × Int) (fun y => [(11, .int .i64 y.2.1), (53, .int .i64 y.2.2.1), (12, .slice y.2.2.2.2.1 y.2.2.2.1.length y.2.2.2.2.2.1)]) [(1, _), (2, _), (3, _), (10, _), (52, _)] (fun y => []) (fun y => [(b1, .cells #[.int .i64 y.2.2.2.2.2.2.2, .slice a0_1 x0_1.length k0_1] 73 (0, 0))]) [] (fun y => [.s (.slice y.2.2.2.2.1 y.2.2.2.1.length y.2.2.2.2.2.1) 3 1 y.2.2.2.1.length y.2.2.2.2.2.2.1]) [] (fun y => OL (Rep.int .i64) G y.2.2.2.2.2.2.1 y.2.2.2.1 ∧ ref19_Failures_L5 x1 x2 u24 x0_1 y.1 y.2.1 y.2.2.1 y.2.2.2.1 y.2.2.2.2.2.2.2 = some r) (fun y => y.1) (big, 0, 0, v99, a100, k101, cs102, v105) ⟨o103, r107⟩ ⟨rfl, rfl, rfl, rfl, rfl, rfl, rfl, rfl, trivial⟩ rfl rfl rfl (fun y hI hb381 => ?_)
        obtain ⟨n369, v371, v372, v373, a374, k375, cs376, v379⟩ := y
        obtain ⟨o377, r380⟩ := hI
        try dsimp only at o377 r380
        refine Cov.prune [(11, .int .i64 v371), (53, .int .i64 v372), (12, .slice a374 v373.length k375), (1, _), (2, _), (3, _), (10, _), (52, _)] ⟨rfl, rfl, rfl, rfl, rfl, rfl, rfl, rfl, trivial⟩ ?_;refine Cov.same (bl' := [(b1, .cells #[.int .i64 v379, .slice a0_1 x0_1.length k0_1] 73 (0, 0))]) (sl' := [.s (.slice a374 v373.length k375) 3 1 v373.length cs376]) (Fs' := G :: Fs) rfl rfl rfl ?_
        obtain ⟨m387, rfl⟩ : ∃ m, n369 = m + 1 := by cases n369 with | zero => exact absurd (show (none : Option _) = some _ from r380) (by simp) | succ m => exact ⟨m, rfl⟩
        have r386 : ref19_Failures_B5 x1 x2 u24 x0_1 (ref19_Failures_L5 x1 x2 u24 x0_1 m387) v371 v372 v373 v379 = some r := r380; clear r380; unfold ref19_Failures_B5 at r386; try dsimp only at r386
        refine Cov.seq ?_;refine Cov.region rfl ?_;refine Cov.q .ro (.lss rfl rfl) rfl ?_;refine Cov.region_end ?_;refine Cov.seq ?_
        refine Cov.cond_dec rfl (fun c388 => ?_) (fun c388 => ?_)
        ·have r389 := ifT r386 c388; clear r386
         refine Cov.skip ?_;refine Cov.seq ?_;refine Cov.block ?_;refine Cov.seq ?_;refine Cov.seq ?_;refine Cov.region rfl ?_;refine Cov.q .ro (.load_own_a 0 [_, _] rfl rfl ty73 rfl) rfl ?_;refine Cov.q .ro (.move rfl) rfl ?_
         refine Cov.openB (sB := [_]) (s2 := []) rfl B0 (fun G390 e391 B392 hr393 hc394 => ?_)
         have s396 := SlR.rd o377 rfl e391 (hr393 _ (List.mem_of_getElem? (i := 0) rfl))
         obtain ⟨u397, hu397, r398⟩ := bind_some r389; clear r389
         refine Cov.callW (b1 := []) (b2 := [_]) (s1 := []) [_, _] [] .ro rfl rfl Tryz.call116 rfl rfl (ref19_Assign_c (G := G390) List.mem_cons_self (SlR.mono e391 s0_1) s396 hu397) rfl B392 (fun v400 bo so G401 e402 B403 h399 => ?_)
         obtain ⟨a405, k406, rfl, rfl, rfl, s407⟩ := h399
         refine Cov.same (bl' := [_]) (sl' := []) rfl rfl rfl ?_;refine Cov.q .ro (.move rfl) rfl ?_;refine Cov.q .ro (.extract rfl rfl) rfl ?_;refine Cov.q .ro (.extract rfl rfl) rfl ?_
         refine Cov.alloc .ro ty209 rfl (fun b408 hb408 => ?_)
         refine Cov.store 0 [_] [_, _] .ro rfl rfl rfl ty209 rfl rfl rfl rfl ?_;refine Cov.q .ro (.assign rfl) rfl ?_
         refine hc394 _ _ _ _ _ _ e402 ?_
         refine Cov.region_end ?_;refine Cov.seq ?_;refine Cov.region rfl ?_;refine Cov.q .ro (.move rfl) rfl ?_;refine Cov.q .ro (.neq rfl rfl) rfl ?_;refine Cov.region_end ?_;refine Cov.cutI (β := Int) (fun y => [(11, .int .i64 y)]) [(53, _), (12, _), (1, _), (2, _), (3, _), (10, _), (52, _)] (fun y => G :: Fs) (fun y => []) [_, _] (fun y => []) [_] (fun y => (ref19_Failures_J4 (ref19_Failures_L5 x1 x2 u24 x0_1 m387) v372 x1 x2 u24 v379 v373) y = some r) ⟨rfl, rfl, rfl, rfl, rfl, rfl, rfl, trivial⟩ [0, 1] rfl [0] rfl ?_ ?_
         ·intro v413 hI
          have r415 := hI; clear hI
          refine Cov.prune [(11, .int .i64 v413), (53, _), (12, _), (1, _), (2, _), (3, _), (10, _), (52, _)] ⟨rfl, rfl, rfl, rfl, rfl, rfl, rfl, rfl, trivial⟩ ?_;refine Cov.same (bl' := [_, _]) (sl' := [_]) (Fs' := G :: Fs) rfl rfl rfl ?_
          unfold ref19_Failures_J4 at r415
          try dsimp only at r415
          refine Cov.seq ?_;refine Cov.region rfl ?_;refine Cov.q .ro (.move rfl) rfl ?_;refine Cov.q .ro (.subw rfl rfl) rfl ?_;refine Cov.q .ro (.assign rfl) rfl ?_;refine Cov.region_end ?_;refine Cov.seq ?_;refine Cov.cutB (β := Int × Int) (fun y => [(16, .int .i64 y.1)]) [(11, _), (53, _), (12, _), (1, _), (2, _), (3, _), (10, _), (52, _)] (fun y => G :: Fs) (fun y => [(b1, .cells #[.int .i64 y.2, .slice a0_1 x0_1.length k0_1] 73 (0, 0))]) [_] (fun y => []) [_] (fun y => (ref19_Failures_J2 (ref19_Failures_L5 x1 x2 u24 x0_1 m387) v413 v372 x2 u24 v373) y.1 y.2 = some r) ⟨rfl, rfl, rfl, rfl, rfl, rfl, rfl, rfl, trivial⟩ [0] rfl [0] rfl ?_ ?_
          ·intro y hI
           obtain ⟨v485, v486⟩ := y
           have r488 := hI; clear hI
           try dsimp only at r488
           refine Cov.prune [(16, .int .i64 v485), (11, _), (53, _), (12, _), (1, _), (2, _), (3, _), (10, _), (52, _)] ⟨rfl, rfl, rfl, rfl, rfl, rfl, rfl, rfl, rfl, trivial⟩ ?_;refine Cov.same (bl' := [(b1, .cells #[.int .i64 v486, .slice a0_1 x0_1.length k0_1] 73 (0, 0)), _]) (sl' := [_]) (Fs' := G :: Fs) rfl rfl rfl ?_
           unfold ref19_Failures_J2 at r488
           try dsimp only at r488
           refine Cov.seq ?_;refine Cov.seq ?_;refine Cov.region rfl ?_;refine Cov.q .ro (.move rfl) rfl ?_;refine Cov.q .ro (.lss rfl rfl) rfl ?_;refine Cov.region_end ?_
           refine Cov.cond_dec rfl (fun c496 => ?_) (fun c496 => ?_)
           ·have r497 := ifT r488 c496; clear r488
            refine Cov.exit rfl ?_;refine Cov.seq ?_;refine Cov.region rfl ?_;refine Cov.q .ro (.move rfl) rfl ?_;refine Cov.q .ro (.move rfl) rfl ?_;refine Cov.q .ro (.assign rfl) rfl ?_;refine Cov.q .ro (.assign rfl) rfl ?_;refine Cov.q .ro (.assign rfl) rfl ?_;refine Cov.region_end ?_
            refine Cov.prune [(6, _), (7, _), (8, _)] ⟨rfl, rfl, rfl, trivial⟩ ?_
            cases r497
            refine Cov.drop 2 0 [] _ rfl rfl ?_;refine Cov.drop 0 1 _ [] rfl rfl ?_
            refine Cov.retS (c := ⟨59, none⟩) (.inr ⟨_, rfl⟩) [.tmp 6, .tmp 7, .tmp 8] [_, _, _] rfl Tryz.func59 Tryz.results59 ⟨RV.tmp rfl, RV.tmp rfl, RV.tmp rfl, trivial⟩ (fun _ h => List.mem_cons_of_mem _ h) ⟨rfl, rfl, rfl⟩
           ·have r498 := ifF r488 c496; clear r488
            refine Cov.skip ?_;refine Cov.seq ?_;refine Cov.region rfl ?_;refine Cov.q .ro (.move rfl) rfl ?_;refine Cov.q .ro (.move rfl) rfl ?_
            obtain ⟨u499, hu499, r500⟩ := bind_some r498; clear r498
            obtain ⟨c501, p502, h503⟩ := OL.get o377 hu499
            obtain rfl := h503
            refine Cov.q .ro (.idxO 0 rfl rfl rfl hu499 sl41 ty3.sz) rfl ?_;refine Cov.q .ro (.loadO 0 0 rfl hu499 p502 rfl (.inl ⟨rfl, rfl⟩) ty3 rfl) rfl ?_;refine Cov.q .ro (.addw rfl rfl) rfl ?_
            obtain ⟨u504, hu504, r505⟩ := bind_some r500; clear r500
            obtain ⟨c506, p507, h508⟩ := OL.get o377 hu504
            obtain rfl := h508
            refine Cov.q .ro (.idxO 0 rfl rfl rfl hu504 sl41 ty3.sz) rfl ?_
            obtain ⟨u509, hu509, r510⟩ := bind_some r505; clear r505
            refine Cov.storeR 0 0 (Q := (Rep.int .i64)) .ro rfl rfl o377 hu509 rfl (.inl ⟨rfl, rfl⟩) rfl ty3 p507 ((Rep.intI .i64 (w64 (u499 + 1))) :) rfl rfl (fun cs511 hlcs511 o512 => ?_)
            refine Cov.reval 12 hlcs511 rfl ?_;refine Cov.reval 85 hlcs511 rfl ?_;refine Cov.region_end ?_;refine Cov.seq ?_;refine Cov.region rfl ?_;refine Cov.q .ro (.move rfl) rfl ?_;refine Cov.q .ro (.addw rfl rfl) rfl ?_;refine Cov.q .ro (.assign rfl) rfl ?_;refine Cov.region_end ?_
            refine Cov.block ?_
            refine Cov.loop2 (α := Nat × Int × List Int × Option Addr × Nat × List Value) (fun y => [(17, .int .i64 y.2.1), (12, .slice y.2.2.2.1 y.2.2.1.length y.2.2.2.2.1)]) [(11, _), (53, _), (1, _), (2, _), (3, _), (10, _), (52, _)] (fun y => []) (fun y => []) [_, _] (fun y => [.s (.slice y.2.2.2.1 y.2.2.1.length y.2.2.2.2.1) 3 1 y.2.2.1.length y.2.2.2.2.2]) [] (fun y => OL (Rep.int .i64) G y.2.2.2.2.2 y.2.2.1 ∧ ref19_Failures_L1 (ref19_Failures_L5 x1 x2 u24 x0_1 m387) v413 v372 x2 v486 y.1 y.2.1 y.2.2.1 = some r) (fun y => y.1) (big, (w64 (v485 + 1)), u509, a374, k375, cs511) ⟨o512, r510⟩ ⟨rfl, rfl, rfl, rfl, rfl, rfl, rfl, rfl, rfl, trivial⟩ rfl rfl rfl (fun y hI hb545 => ?_)
            obtain ⟨n535, v537, v538, a539, k540, cs541⟩ := y
            obtain ⟨o542, r544⟩ := hI
            try dsimp only at o542 r544
            refine Cov.prune [(17, .int .i64 v537), (12, .slice a539 v538.length k540), (11, _), (53, _), (1, _), (2, _), (3, _), (10, _), (52, _)] ⟨rfl, rfl, rfl, rfl, rfl, rfl, rfl, rfl, rfl, trivial⟩ ?_;refine Cov.same (bl' := [_, _]) (sl' := [.s (.slice a539 v538.length k540) 3 1 v538.length cs541]) (Fs' := G :: Fs) rfl rfl rfl ?_
            obtain ⟨m554, rfl⟩ : ∃ m, n535 = m + 1 := by cases n535 with | zero => exact absurd (show (none : Option _) = some _ from r544) (by simp) | succ m => exact ⟨m, rfl⟩
            have r553 : ref19_Failures_B1 (ref19_Failures_L5 x1 x2 u24 x0_1 m387) v413 v372 x2 v486 (ref19_Failures_L1 (ref19_Failures_L5 x1 x2 u24 x0_1 m387) v413 v372 x2 v486 m554) v537 v538 = some r := r544; clear r544; unfold ref19_Failures_B1 at r553; try dsimp only at r553
            refine Cov.seq ?_;refine Cov.seq ?_;refine Cov.region rfl ?_;refine Cov.q .ro (.move rfl) rfl ?_;refine Cov.q .ro (.move rfl) rfl ?_;refine Cov.q .ro (.lss rfl rfl) rfl ?_;refine Cov.region_end ?_
            refine Cov.cond_dec rfl (fun c555 => ?_) (fun c555 => ?_)
            ·have r556 := ifT r553 c555; clear r553
             refine Cov.skip ?_;refine Cov.seq ?_;refine Cov.block ?_;refine Cov.region rfl ?_;refine Cov.q .ro (.move rfl) rfl ?_;refine Cov.q .ro (.move rfl) rfl ?_;refine Cov.q .ro (.move rfl) rfl ?_;refine Cov.q .ro (.move rfl) rfl ?_;refine Cov.q .ro (.subw rfl rfl) rfl ?_
             obtain ⟨u557, hu557, r558⟩ := bind_some r556; clear r556
             obtain ⟨c559, p560, h561⟩ := OL.get o542 hu557
             obtain rfl := h561
             refine Cov.q .ro (.idxO 0 rfl rfl rfl hu557 sl41 ty3.sz) rfl ?_;refine Cov.q .ro (.loadO 0 0 rfl hu557 p560 rfl (.inl ⟨rfl, rfl⟩) ty3 rfl) rfl ?_;refine Cov.q .ro (.addw rfl rfl) rfl ?_
             obtain ⟨u562, hu562, r563⟩ := bind_some r558; clear r558
             obtain ⟨c564, p565, h566⟩ := OL.get o542 hu562
             obtain rfl := h566
             refine Cov.q .ro (.idxO 0 rfl rfl rfl hu562 sl41 ty3.sz) rfl ?_
             obtain ⟨u567, hu567, r568⟩ := bind_some r563; clear r563
             refine Cov.storeR 0 0 (Q := (Rep.int .i64)) .ro rfl rfl o542 hu567 rfl (.inl ⟨rfl, rfl⟩) rfl ty3 p565 ((Rep.intI .i64 (w64 (u557 + 1))) :) rfl rfl (fun cs569 hlcs569 o570 => ?_)
             refine Cov.reval 12 hlcs569 rfl ?_;refine Cov.reval 98 hlcs569 rfl ?_;refine Cov.reval 100 hlcs569 rfl ?_;refine Cov.region_end ?_;refine Cov.inBlock ?_;refine Cov.region rfl ?_;refine Cov.q .ro (.move rfl) rfl ?_;refine Cov.q .ro (.addw rfl rfl) rfl ?_;refine Cov.q .ro (.assign rfl) rfl ?_
             refine Cov.region_end ?_;refine Cov.prune [(17, _), (12, _), (11, _), (53, _), (1, _), (2, _), (3, _), (10, _), (52, _)] ⟨rfl, rfl, rfl, rfl, rfl, rfl, rfl, rfl, rfl, trivial⟩ ?_
             refine Cov.prune _ ?_ (Cov.same rfl rfl rfl (hb545 (m554, (w64 (v537 + 1)), u567, a539, k540, cs569) ⟨o570, r568⟩ (Nat.lt_succ_self _)))
             exact ⟨rfl, rfl, rfl, rfl, rfl, rfl, rfl, rfl, rfl, trivial⟩
            ·have r572 := ifF r553 c555; clear r553
             refine Cov.exit rfl ?_;refine Cov.inBlock ?_;refine Cov.region rfl ?_;refine Cov.q .ro (.addw rfl rfl) rfl ?_;refine Cov.q .ro (.move rfl) rfl ?_;refine Cov.region_end ?_;refine Cov.pull 1 rfl [_, _] rfl ?_;refine Cov.drop 1 0 [_] _ rfl rfl ?_
             refine Cov.prune _ ?_ (Cov.same rfl rfl rfl (hb381 (m387, v413, (w64 (v372 + 1)), v538, a539, k540, cs541, v486) ⟨o542, r572⟩ (Nat.lt_succ_self _)))
             exact ⟨rfl, rfl, rfl, rfl, rfl, rfl, rfl, rfl, trivial⟩
          ·intro hb573
           refine Cov.block ?_
           refine Cov.loop2 (α := Nat × Int) (fun y => [(16, .int .i64 y.2)]) [(11, _), (53, _), (12, _), (1, _), (2, _), (3, _), (10, _), (52, _)] (fun y => []) (fun y => []) [_, _] (fun y => []) [_] (fun y => ref19_Failures_L3 (ref19_Failures_J2 (ref19_Failures_L5 x1 x2 u24 x0_1 m387) v413 v372 x2 u24 v373) x1 x2 v379 v373 y.1 y.2 = some r) (fun y => y.1) (big, (w64 (x2 - 1))) r415 ⟨rfl, rfl, rfl, rfl, rfl, rfl, rfl, rfl, rfl, trivial⟩ rfl rfl rfl (fun y hI hb603 => ?_)
           obtain ⟨n599, v601⟩ := y
           have r602 := hI; clear hI
           try dsimp only at r602
           refine Cov.prune [(16, .int .i64 v601), (11, _), (53, _), (12, _), (1, _), (2, _), (3, _), (10, _), (52, _)] ⟨rfl, rfl, rfl, rfl, rfl, rfl, rfl, rfl, rfl, trivial⟩ ?_;refine Cov.same (bl' := [_, _]) (sl' := [_]) (Fs' := G :: Fs) rfl rfl rfl ?_
           obtain ⟨m613, rfl⟩ : ∃ m, n599 = m + 1 := by cases n599 with | zero => exact absurd (show (none : Option _) = some _ from r602) (by simp) | succ m => exact ⟨m, rfl⟩
           have r612 : ref19_Failures_B3 (ref19_Failures_J2 (ref19_Failures_L5 x1 x2 u24 x0_1 m387) v413 v372 x2 u24 v373) x1 x2 v379 v373 (ref19_Failures_L3 (ref19_Failures_J2 (ref19_Failures_L5 x1 x2 u24 x0_1 m387) v413 v372 x2 u24 v373) x1 x2 v379 v373 m613) v601 = some r := r602; clear r602; unfold ref19_Failures_B3 at r612; try dsimp only at r612
           refine Cov.seq ?_;refine Cov.seq ?_;refine Cov.region rfl ?_;refine Cov.q .ro (.move rfl) rfl ?_;refine Cov.q .ro (.geq rfl rfl) rfl ?_;refine Cov.q .ro (.move rfl) rfl ?_
           obtain ⟨u621, h622, r623⟩ := bind_some r612; clear r612
           refine Cov.cutR 11 (β := Unit) (fun y => [(80, .bool u621)]) [(16, _), (11, _), (53, _), (12, _), (1, _), (2, _), (3, _), (10, _), (52, _)] (fun y => G :: Fs) (fun y => []) [_, _] (fun y => []) [_] (fun y => True) ⟨rfl, rfl, rfl, rfl, rfl, rfl, rfl, rfl, rfl, trivial⟩ [0, 1] rfl [0] rfl ?_ ?_
           ·rintro _ _
            refine Cov.prune [(80, .bool u621), (16, _), (11, _), (53, _), (12, _), (1, _), (2, _), (3, _), (10, _), (52, _)] ⟨rfl, rfl, rfl, rfl, rfl, rfl, rfl, rfl, rfl, rfl, trivial⟩ ?_;refine Cov.same (bl' := [_, _]) (sl' := [_]) (Fs' := G :: Fs) rfl rfl rfl ?_;refine Cov.region_end ?_
            refine Cov.cond rfl (fun c626 => ?_) (fun c626 => ?_)
            ·have r627 := ifT r623 c626; clear r623
             refine Cov.skip ?_;refine Cov.block ?_;refine Cov.region rfl ?_;refine Cov.q .ro (.move rfl) rfl ?_;refine Cov.q .ro (.subw rfl rfl) rfl ?_;refine Cov.q .ro (.assign rfl) rfl ?_;refine Cov.region_end ?_;refine Cov.inBlock ?_
             refine Cov.prune _ ?_ (Cov.same rfl rfl rfl (hb603 (m613, (w64 (v601 - 1))) r627 (Nat.lt_succ_self _)))
             exact ⟨rfl, rfl, rfl, rfl, rfl, rfl, rfl, rfl, rfl, trivial⟩
            ·have r628 := ifBF r623 c626; clear r623
             refine Cov.exit rfl ?_;refine Cov.pull 1 rfl [_, _] rfl ?_
             refine Cov.prune _ ?_ (Cov.same rfl rfl rfl (hb573 (v601, v379) r628))
             exact ⟨rfl, rfl, rfl, rfl, rfl, rfl, rfl, rfl, rfl, trivial⟩
           ·intro hb620
            refine Cov.split 69 rfl (fun c619 => ?_) (fun c619 => ?_)
            ·have r629 := ifT h622 c619
             refine Cov.g_on rfl ?_;refine Cov.q .ro (.move rfl) rfl ?_;refine Cov.g_on rfl ?_;refine Cov.q .ro (.move rfl) rfl ?_;refine Cov.g_on rfl ?_
             obtain ⟨u630, hu630, r631⟩ := bind_some r629; clear r629
             obtain ⟨c632, p633, h634⟩ := OL.get o377 hu630
             obtain rfl := h634
             refine Cov.q .ro (.idxO 0 rfl rfl rfl hu630 sl41 ty3.sz) rfl ?_;refine Cov.g_on rfl ?_;refine Cov.q .ro (.loadO 0 0 rfl hu630 p633 rfl (.inl ⟨rfl, rfl⟩) ty3 rfl) rfl ?_;refine Cov.g_on rfl ?_;refine Cov.q .ro (.move rfl) rfl ?_;refine Cov.g_on rfl ?_;refine Cov.q .ro (.move rfl) rfl ?_;refine Cov.g_on rfl ?_;refine Cov.q .ro (.subw rfl rfl) rfl ?_
             refine Cov.g_on rfl ?_;refine Cov.q .ro (.move rfl) rfl ?_;refine Cov.g_on rfl ?_;refine Cov.q .ro (.addw rfl rfl) rfl ?_;refine Cov.g_on rfl ?_;refine Cov.q .ro (.eql rfl rfl) rfl ?_;refine Cov.q .ro (.pick_t rfl rfl) rfl ?_
             refine Cov.prune _ ?_ (Cov.same rfl rfl rfl (hb620 () trivial))
             exact ⟨sval r631, rfl, rfl, rfl, rfl, rfl, rfl, rfl, rfl, rfl, trivial⟩
            ·have r635 := ifF h622 c619
             refine Cov.g_off rfl rfl rfl ?_;refine Cov.g_off rfl rfl rfl ?_;refine Cov.g_off rfl rfl rfl ?_;refine Cov.g_off rfl rfl rfl ?_;refine Cov.g_off rfl rfl rfl ?_;refine Cov.g_off rfl rfl rfl ?_;refine Cov.g_off rfl rfl rfl ?_;refine Cov.g_off rfl rfl rfl ?_;refine Cov.g_off rfl rfl rfl ?_
             refine Cov.g_off rfl rfl rfl ?_;refine Cov.q .ro (.pick_f rfl rfl) rfl ?_
             refine Cov.prune _ ?_ (Cov.same rfl rfl rfl (hb620 () trivial))
             exact ⟨sval r635, rfl, rfl, rfl, rfl, rfl, rfl, rfl, rfl, rfl, trivial⟩
         ·intro hb636
          refine Cov.cond_dec rfl (fun c637 => ?_) (fun c637 => ?_)
          ·have r638 := ifT r398 c637; clear r398
           refine Cov.region rfl ?_;refine Cov.q .ro (.move rfl) rfl ?_;refine Cov.q .ro (.addw rfl rfl) rfl ?_;refine Cov.q .ro (.assign rfl) rfl ?_;refine Cov.region_end ?_;refine Cov.prune [(11, _), (53, _), (12, _), (1, _), (2, _), (3, _), (10, _), (52, _)] ⟨rfl, rfl, rfl, rfl, rfl, rfl, rfl, rfl, trivial⟩ ?_
           refine Cov.prune _ ?_ (Cov.same rfl rfl rfl (hb636 ((w64 (v371 + 1))) r638))
           exact ⟨rfl, rfl, rfl, rfl, rfl, rfl, rfl, rfl, trivial⟩
          ·have r639 := ifF r398 c637; clear r398
           refine Cov.skip ?_
           refine Cov.prune _ ?_ (Cov.same rfl rfl rfl (hb636 (v371) r639))
           exact ⟨rfl, rfl, rfl, rfl, rfl, rfl, rfl, rfl, trivial⟩
        ·have r640 := ifF r386 c388; clear r386
         refine Cov.exit rfl ?_;refine Cov.seq ?_;refine Cov.region rfl ?_;refine Cov.q .ro (.move rfl) rfl ?_;refine Cov.q .ro (.move rfl) rfl ?_;refine Cov.q .ro (.assign rfl) rfl ?_;refine Cov.q .ro (.assign rfl) rfl ?_;refine Cov.q .ro (.assign rfl) rfl ?_;refine Cov.region_end ?_
         cases r640
         refine Cov.drop 1 0 [] _ rfl rfl ?_;refine Cov.drop 0 1 _ [] rfl rfl ?_
         refine Cov.retS (c := ⟨59, none⟩) (.inr ⟨_, rfl⟩) [.tmp 6, .tmp 7, .tmp 8] [_, _, _] rfl Tryz.func59 Tryz.results59 ⟨RV.tmp rfl, RV.tmp rfl, RV.tmp rfl, trivial⟩ (fun _ h => List.mem_cons_of_mem _ h) ⟨rfl, rfl, rfl⟩
       ·intro hb641
        refine Cov.block ?_;refine Cov.own_nil 3 1 ?_
        refine Cov.loop2 (α := Nat × List Int × Option Addr × Nat × List Value × Int) (fun y => [(12, .slice y.2.2.1 y.2.1.length y.2.2.2.1), (13, .int .i64 y.2.2.2.2.2)]) [(1, _), (2, _), (3, _), (10, _), (11, _)] (fun y => []) (fun y => []) [_] (fun y => [.s (.slice y.2.2.1 y.2.1.length y.2.2.2.1) 3 1 y.2.1.length y.2.2.2.2.1]) [] (fun y => OL (Rep.int .i64) G y.2.2.2.2.1 y.2.1 ∧ ref19_Failures_L7 (ref19_Failures_J6 x1 x2 u24 x0_1) x2 x0_0 y.1 y.2.1 y.2.2.2.2.2 = some r) (fun y => y.1) (big, ([] : List Int), none, 0, [], 0) ⟨(OL.nil (Rp' := (Rep.int .i64))), r30⟩ ⟨rfl, rfl, rfl, rfl, rfl, rfl, rfl, trivial⟩ rfl rfl rfl (fun y hI hb690 => ?_)
        obtain ⟨n680, v682, a683, k684, cs685, v688⟩ := y
        obtain ⟨o686, r689⟩ := hI
        try dsimp only at o686 r689
        refine Cov.prune [(12, .slice a683 v682.length k684), (13, .int .i64 v688), (1, _), (2, _), (3, _), (10, _), (11, _)] ⟨rfl, rfl, rfl, rfl, rfl, rfl, rfl, trivial⟩ ?_;refine Cov.same (bl' := [_]) (sl' := [.s (.slice a683 v682.length k684) 3 1 v682.length cs685]) (Fs' := G :: Fs) rfl rfl rfl ?_
        obtain ⟨m697, rfl⟩ : ∃ m, n680 = m + 1 := by cases n680 with | zero => exact absurd (show (none : Option _) = some _ from r689) (by simp) | succ m => exact ⟨m, rfl⟩
        have r696 : ref19_Failures_B7 (ref19_Failures_J6 x1 x2 u24 x0_1) x2 x0_0 (ref19_Failures_L7 (ref19_Failures_J6 x1 x2 u24 x0_1) x2 x0_0 m697) v682 v688 = some r := r689; clear r689; unfold ref19_Failures_B7 at r696; try dsimp only at r696
        refine Cov.seq ?_;refine Cov.seq ?_;refine Cov.region rfl ?_;refine Cov.q .ro (.move rfl) rfl ?_;refine Cov.q .ro (.move rfl) rfl ?_;refine Cov.q .ro (.lss rfl rfl) rfl ?_;refine Cov.region_end ?_
        refine Cov.cond_dec rfl (fun c698 => ?_) (fun c698 => ?_)
        ·have r699 := ifT r696 c698; clear r696
         refine Cov.skip ?_;refine Cov.seq ?_;refine Cov.block ?_;refine Cov.region rfl ?_;refine Cov.q .ro (.move rfl) rfl ?_;refine Cov.q .ro (.move rfl) rfl ?_
         refine Cov.lit [_] [(0, _)] .ro sl41 ty3 rfl rfl rfl rfl rfl rfl (fun b700 hb700 => ?_)
         have o701 : OL (Rep.int .i64) G [.int .i64 v688] ([v688] : List Int) := ((OL.cons rfl (Rep.intI .i64 v688) (OL.nil (Rp' := (Rep.int .i64)))) :)
         refine Cov.reval 50 (n' := ([v688] : List Int).length) rfl rfl ?_
         obtain ⟨u707, hu707, r708⟩ := bind_some r699; clear r699
         refine Cov.appO (Q := (Rep.int .i64)) 0 .ro sl41 ty3 rfl rfl rfl rfl rfl rfl o686 o701 rfl rfl rfl B0 hu707 rfl (fun a703 k704 cs705 o706 => ?_)
         refine Cov.q .ro (.assign rfl) rfl ?_;refine Cov.region_end ?_;refine Cov.inBlock ?_;refine Cov.region rfl ?_;refine Cov.q .ro (.move rfl) rfl ?_;refine Cov.q .ro (.addw rfl rfl) rfl ?_;refine Cov.q .ro (.assign rfl) rfl ?_;refine Cov.region_end ?_
         refine Cov.prune _ ?_ (Cov.same rfl rfl rfl (hb690 (m697, u707, a703, k704, cs705, (w64 (v688 + 1))) ⟨o706, r708⟩ (Nat.lt_succ_self _)))
         exact ⟨rfl, rfl, rfl, rfl, rfl, rfl, rfl, trivial⟩
        ·have r710 := ifF r696 c698; clear r696
         refine Cov.exit rfl ?_
         refine Cov.prune _ ?_ (Cov.same rfl rfl rfl (hb641 (v682, a683, k684, cs685, x0_0) ⟨o686, r710⟩))
         exact ⟨rfl, rfl, rfl, rfl, rfl, rfl, trivial⟩
    ·intro hb18
     refine Cov.split 33 rfl (fun c17 => ?_) (fun c17 => ?_)
     ·refine Cov.g_off rfl rfl rfl ?_
      refine Cov.g_off rfl rfl rfl ?_;refine Cov.g_off rfl rfl rfl ?_;refine Cov.q .ro (.pick_t rfl rfl) rfl ?_
      refine Cov.prune _ ?_ (Cov.same rfl rfl rfl (hb18 () trivial))
      exact ⟨dor_t c17, rfl, rfl, rfl, trivial⟩
     ·refine Cov.g_on rfl ?_
      refine Cov.q .ro (.move rfl) rfl ?_;refine Cov.g_on rfl ?_;refine Cov.q .ro (.move rfl) rfl ?_;refine Cov.g_on rfl ?_;refine Cov.q .ro (.gtr rfl rfl) rfl ?_;refine Cov.q .ro (.pick_f rfl rfl) rfl ?_
      refine Cov.prune _ ?_ (Cov.same rfl rfl rfl (hb18 () trivial))
      exact ⟨dor_f c17, rfl, rfl, rfl, trivial⟩
   ·intro hb14
    refine Cov.split 29 rfl (fun c13 => ?_) (fun c13 => ?_)
    ·refine Cov.g_off rfl rfl rfl ?_
     refine Cov.g_off rfl rfl rfl ?_;refine Cov.q .ro (.pick_t rfl rfl) rfl ?_
     refine Cov.prune _ ?_ (Cov.same rfl rfl rfl (hb14 () trivial))
     exact ⟨dor_t c13, rfl, rfl, rfl, trivial⟩
    ·refine Cov.g_on rfl ?_
     refine Cov.q .ro (.move rfl) rfl ?_;refine Cov.g_on rfl ?_;refine Cov.q .ro (.lss rfl rfl) rfl ?_;refine Cov.q .ro (.pick_f rfl rfl) rfl ?_
     refine Cov.prune _ ?_ (Cov.same rfl rfl rfl (hb14 () trivial))
     exact ⟨dor_f c13, rfl, rfl, rfl, trivial⟩
  ·intro hb10
   refine Cov.split 25 rfl (fun c9 => ?_) (fun c9 => ?_)
   ·refine Cov.g_off rfl rfl rfl ?_
    refine Cov.g_off rfl rfl rfl ?_;refine Cov.q .ro (.pick_t rfl rfl) rfl ?_
    refine Cov.prune _ ?_ (Cov.same rfl rfl rfl (hb10 () trivial))
    exact ⟨dor_t c9, rfl, rfl, rfl, trivial⟩
   ·refine Cov.g_on rfl ?_
    refine Cov.q .ro (.move rfl) rfl ?_;refine Cov.g_on rfl ?_;refine Cov.q .ro (.gtr rfl rfl) rfl ?_;refine Cov.q .ro (.pick_f rfl rfl) rfl ?_
    refine Cov.prune _ ?_ (Cov.same rfl rfl rfl (hb10 () trivial))
    exact ⟨dor_f c9, rfl, rfl, rfl, trivial⟩
set_option maxHeartbeats 4000000 in
set_option maxRecDepth 100000 in
theorem ref43_Failure_c {Fs : List Hp} {G : Hp} {x0_0 : Int} {a0_1 : Option Addr} {k0_1 : Nat} {x0_1 : List (Int × Int)} {x1 : Int} {x2 : Int} {r : (Int × Int × Int)} (hG : G ∈ Fs) (s0_1 : SlR (Rep.pair (Rep.int .i64) (Rep.int .i64)) G a0_1 k0_1 x0_1) (h : ref43_Failure (x0_0, x0_1) x1 x2 = some r) : RetS Tryz.prog 29 #[.agg #[.int .i64 x0_0, .slice a0_1 x0_1.length k0_1], .int .i64 x1, .int .i64 x2] Fs [] [] (fun v bo so => v = .tuple #[.int .i64 r.1, .int .i64 r.2.1, .int .i64 r.2.2] ∧ bo = [] ∧ so = []) := by
 unfold ref43_Failure at h
 try dsimp only at h
 refine RetS.of (vs := [_, _, _]) Tryz.func29 rfl Tryz.ntmps29 [(0, _), (1, _), (2, _)] ⟨rfl, rfl, rfl, trivial⟩ rfl hG fun w0 S0 hS0 B0 => ?_
 refine Cov.seq ?_;refine Cov.region rfl ?_
 refine Cov.box [_, _] .ro rfl rfl rfl (fun b1 hb1 => ?_)
 refine Cov.q .ro (.assign rfl) rfl ?_;refine Cov.q .ro (.assign rfl) rfl ?_;refine Cov.q .ro (.assign rfl) rfl ?_;refine Cov.region_end ?_;refine Cov.seq ?_;refine Cov.region rfl ?_;refine Cov.q .ro (.load_own_a 0 [_, _] rfl rfl ty73 rfl) rfl ?_;refine Cov.q .ro (.move rfl) rfl ?_;refine Cov.q .ro (.move rfl) rfl ?_
 obtain ⟨u2, hu2, r3⟩ := bind_some h; clear h
 refine Cov.callS (b1 := []) (b2 := [_]) (s1 := []) [_, _, _] [] .ro rfl rfl Tryz.call59 rfl rfl (ref19_Failures_c (G := G) List.mem_cons_self s0_1 hu2) rfl (fun v5 bo so h4 => ?_)
 obtain ⟨rfl, rfl, rfl⟩ := h4
 refine Cov.same (bl' := [_]) (sl' := []) rfl rfl rfl ?_;refine Cov.q .ro (.extract rfl rfl) rfl ?_;refine Cov.q .ro (.extract rfl rfl) rfl ?_;refine Cov.q .ro (.extract rfl rfl) rfl ?_;refine Cov.q .ro (.assign rfl) rfl ?_;refine Cov.q .ro (.assign rfl) rfl ?_;refine Cov.q .ro (.assign rfl) rfl ?_;refine Cov.region_end ?_
 cases r3
 refine Cov.drop 1 0 [] _ rfl rfl ?_
 refine Cov.retS (c := ⟨29, none⟩) (.inr ⟨_, rfl⟩) [.tmp 6, .tmp 7, .tmp 8] [_, _, _] rfl Tryz.func29 Tryz.results29 ⟨RV.tmp rfl, RV.tmp rfl, RV.tmp rfl, trivial⟩ (fun _ h => List.mem_cons_of_mem _ h) ⟨rfl, rfl, rfl⟩
set_option maxHeartbeats 4000000 in
set_option maxRecDepth 100000 in
theorem fence_sized_c {Fs : List Hp} {G : Hp} {x0 : Int} {r : Bool} (hG : G ∈ Fs)  (h : fence_sized x0 = some r) : RetS Tryz.prog 117 #[.int .i64 x0] Fs [] [] (fun v bo so => v = .bool r ∧ bo = [] ∧ so = []) := by
 unfold fence_sized at h
 try dsimp only at h
 refine RetS.of (vs := [_]) Tryz.func117 rfl Tryz.ntmps117 [(0, _)] ⟨rfl, trivial⟩ rfl hG fun w0 S0 hS0 B0 => ?_
 refine Cov.seq ?_;refine Cov.region rfl ?_;refine Cov.q .ro (.assign rfl) rfl ?_;refine Cov.region_end ?_;refine Cov.seq ?_;refine Cov.region rfl ?_;refine Cov.q .ro (.move rfl) rfl ?_;refine Cov.q .ro (.geq rfl rfl) rfl ?_;refine Cov.q .ro (.move rfl) rfl ?_
 refine Cov.cutR 3 (β := Unit) (fun y => [(8, .bool (decide ((2 ≤ x0) ∧ (x0 ≤ 8))))]) [(2, _)] (fun y => G :: Fs) (fun y => []) [] (fun y => []) [] (fun y => True) ⟨rfl, trivial⟩ [] rfl [] rfl ?_ ?_
 ·rintro _ _
  refine Cov.prune [(8, .bool (decide ((2 ≤ x0) ∧ (x0 ≤ 8)))), (2, _)] ⟨rfl, rfl, trivial⟩ ?_;refine Cov.same (bl' := []) (sl' := []) (Fs' := G :: Fs) rfl rfl rfl ?_;refine Cov.q .ro (.assign rfl) rfl ?_;refine Cov.region_end ?_
  cases h
  refine Cov.retS (c := ⟨117, none⟩) (.inr ⟨_, rfl⟩) [.tmp 2] [_] rfl Tryz.func117 Tryz.results117 ⟨RV.tmp rfl, trivial⟩ (fun _ h => List.mem_cons_of_mem _ h) ⟨rfl, rfl, rfl⟩
 ·intro hb2
  refine Cov.split 5 rfl (fun c1 => ?_) (fun c1 => ?_)
  ·refine Cov.g_on rfl ?_
   refine Cov.q .ro (.move rfl) rfl ?_;refine Cov.g_on rfl ?_;refine Cov.q .ro (.leq rfl rfl) rfl ?_;refine Cov.q .ro (.pick_t rfl rfl) rfl ?_
   refine Cov.prune _ ?_ (Cov.same rfl rfl rfl (hb2 () trivial))
   exact ⟨dand_t c1, rfl, trivial⟩
  ·refine Cov.g_off rfl rfl rfl ?_
   refine Cov.g_off rfl rfl rfl ?_;refine Cov.q .ro (.pick_f rfl rfl) rfl ?_
   refine Cov.prune _ ?_ (Cov.same rfl rfl rfl (hb2 () trivial))
   exact ⟨dand_f c1, rfl, trivial⟩
set_option maxHeartbeats 4000000 in
set_option maxRecDepth 100000 in
theorem fence_proper_c {Fs : List Hp} {G : Hp} {x0 : ByteArray} {r : Bool} (hG : G ∈ Fs)  (h : fence_proper x0 = some r) : RetS Tryz.prog 159 #[.string x0] Fs [] [] (fun v bo so => v = .bool r ∧ bo = [] ∧ so = []) := by
 unfold fence_proper at h
 try dsimp only at h
 refine RetS.of (vs := [_]) Tryz.func159 rfl Tryz.ntmps159 [(0, _)] ⟨rfl, trivial⟩ rfl hG fun w0 S0 hS0 B0 => ?_
 refine Cov.seq ?_;refine Cov.region rfl ?_;refine Cov.q .ro (.assign rfl) rfl ?_;refine Cov.region_end ?_;refine Cov.seq ?_;refine Cov.region rfl ?_;refine Cov.q .ro (.move rfl) rfl ?_;refine Cov.q .ro (.len_s rfl Tryz.underlying9) rfl ?_;refine Cov.q .ro (.geq rfl rfl) rfl ?_
 refine Cov.q .ro (.move rfl) rfl ?_;refine Cov.cutR 4 (β := Unit) (fun y => [(10, .bool (decide ((1 ≤ (x0.size : Int)) ∧ ((x0.size : Int) ≤ 32))))]) [(2, _)] (fun y => G :: Fs) (fun y => []) [] (fun y => []) [] (fun y => True) ⟨rfl, trivial⟩ [] rfl [] rfl ?_ ?_
 ·rintro _ _
  refine Cov.prune [(10, .bool (decide ((1 ≤ (x0.size : Int)) ∧ ((x0.size : Int) ≤ 32)))), (2, _)] ⟨rfl, rfl, trivial⟩ ?_;refine Cov.same (bl' := []) (sl' := []) (Fs' := G :: Fs) rfl rfl rfl ?_;refine Cov.q .ro (.assign rfl) rfl ?_;refine Cov.region_end ?_
  cases h
  refine Cov.retS (c := ⟨159, none⟩) (.inr ⟨_, rfl⟩) [.tmp 2] [_] rfl Tryz.func159 Tryz.results159 ⟨RV.tmp rfl, trivial⟩ (fun _ h => List.mem_cons_of_mem _ h) ⟨rfl, rfl, rfl⟩
 ·intro hb2
  refine Cov.split 6 rfl (fun c1 => ?_) (fun c1 => ?_)
  ·refine Cov.g_on rfl ?_
   refine Cov.q .ro (.move rfl) rfl ?_;refine Cov.g_on rfl ?_;refine Cov.q .ro (.len_s rfl Tryz.underlying9) rfl ?_;refine Cov.g_on rfl ?_;refine Cov.q .ro (.leq rfl rfl) rfl ?_;refine Cov.q .ro (.pick_t rfl rfl) rfl ?_
   refine Cov.prune _ ?_ (Cov.same rfl rfl rfl (hb2 () trivial))
   exact ⟨dand_t c1, rfl, trivial⟩
  ·refine Cov.g_off rfl rfl rfl ?_
   refine Cov.g_off rfl rfl rfl ?_;refine Cov.g_off rfl rfl rfl ?_;refine Cov.q .ro (.pick_f rfl rfl) rfl ?_
   refine Cov.prune _ ?_ (Cov.same rfl rfl rfl (hb2 () trivial))
   exact ⟨dand_f c1, rfl, trivial⟩
set_option maxHeartbeats 4000000 in
set_option maxRecDepth 100000 in
theorem fence_ascend_c {Fs : List Hp} {G : Hp} {a0 : Option Addr} {k0 : Nat} {x0 : List ByteArray} {r : Bool} (hG : G ∈ Fs) (s0 : SlR Rep.str G a0 k0 x0) (h : fence_ascend x0 = some r) : RetS Tryz.prog 118 #[.slice a0 x0.length k0] Fs [] [] (fun v bo so => v = .bool r ∧ bo = [] ∧ so = []) := by
 unfold fence_ascend at h
 try dsimp only at h
 refine RetS.of (vs := [_]) Tryz.func118 rfl Tryz.ntmps118 [(0, _)] ⟨rfl, trivial⟩ rfl hG fun w0 S0 hS0 B0 => ?_
 refine Cov.seq ?_;refine Cov.region rfl ?_;refine Cov.q .ro (.assign rfl) rfl ?_;refine Cov.region_end ?_;refine Cov.seq ?_;refine Cov.seq ?_;refine Cov.region rfl ?_;refine Cov.q .ro (.move rfl) rfl ?_;refine Cov.q .ro (.len_sl rfl rfl sl74) rfl ?_
 refine Cov.q .ro (.move rfl) rfl ?_;refine Cov.region_end ?_;refine Cov.block ?_
 refine Cov.loop2 (α := Nat × List ByteArray) (fun y => [(7, .int .i64 (y.1 : Int))]) [(0, _), (5, _), (6, _)] (fun y => []) (fun y => []) [] (fun y => []) [] (fun y => List.drop y.1 x0 = y.2 ∧ fence_ascend_L1 x0 y.2 y.1  = some r) (fun y => y.2.length) (0, x0) ⟨rfl, h⟩ ⟨rfl, rfl, rfl, rfl, trivial⟩ rfl rfl rfl (fun y hI hb70 => ?_)
 obtain ⟨i66, w67⟩ := y
 obtain ⟨g68, r69⟩ := hI
 try dsimp only at g68 r69
 refine Cov.prune [(7, .int .i64 (i66 : Int)), (0, _), (5, _), (6, _)] ⟨rfl, rfl, rfl, rfl, trivial⟩ ?_;refine Cov.same (bl' := []) (sl' := []) (Fs' := G :: Fs) rfl rfl rfl ?_
 cases w67 with
 | nil =>
  rw [fence_ascend_L1] at r69; try dsimp only at r69
  refine Cov.seq ?_;refine Cov.region rfl ?_;refine Cov.q .ro (.lss rfl rfl) rfl ?_;refine Cov.region_end ?_;refine Cov.seq ?_
  refine Cov.cond_dec rfl (fun c => absurd c (drop_nil g68)) (fun _ => ?_)
  refine Cov.exit rfl ?_;refine Cov.seq ?_;refine Cov.region rfl ?_;refine Cov.q .ro (.assign rfl) rfl ?_;refine Cov.region_end ?_
  cases r69
  refine Cov.retS (c := ⟨118, none⟩) (.inr ⟨_, rfl⟩) [.tmp 2] [_] rfl Tryz.func118 Tryz.results118 ⟨RV.tmp rfl, trivial⟩ (fun _ h => List.mem_cons_of_mem _ h) ⟨rfl, rfl, rfl⟩
 | cons x74 xs75 =>
  have r73 : fence_ascend_B1 x0 (fence_ascend_L1 x0 xs75 (i66 + 1)) x74 i66  = some r := r69; clear r69; unfold fence_ascend_B1 at r73; try dsimp only at r73
  refine Cov.seq ?_;refine Cov.region rfl ?_;refine Cov.q .ro (.lss rfl rfl) rfl ?_;refine Cov.region_end ?_;refine Cov.seq ?_
  refine Cov.cond_dec rfl (fun _ => ?_) (fun c => absurd (drop_lt g68) c)
  refine Cov.skip ?_;refine Cov.seq ?_;refine Cov.block ?_;refine Cov.seq ?_;refine Cov.region rfl ?_;refine Cov.q .ro (.move rfl) rfl ?_
  obtain ⟨c76, p77, h78⟩ := SlR.get s0 (drop_idx g68)
  obtain rfl := h78
  refine Cov.q .ro (.idxR s0 rfl rfl (drop_idx g68) sl74 ty9.sz) rfl ?_;refine Cov.q .ro (.load_rp p77 List.mem_cons_self rfl ty9 rfl) rfl ?_;refine Cov.q .ro (.assign rfl) rfl ?_;refine Cov.q .ro (.assign rfl) rfl ?_;refine Cov.region_end ?_;refine Cov.seq ?_;refine Cov.region rfl ?_;refine Cov.q .ro (.move rfl) rfl ?_
  obtain ⟨u79, hu79, r80⟩ := bind_some r73; clear r73
  refine Cov.callS (b1 := []) (b2 := []) (s1 := []) [_] [] .ro rfl rfl Tryz.call159 rfl rfl (fence_proper_c (G := G) List.mem_cons_self  hu79) rfl (fun v82 bo so h81 => ?_)
  obtain ⟨rfl, rfl, rfl⟩ := h81
  refine Cov.same (bl' := []) (sl' := []) rfl rfl rfl ?_;refine Cov.q .ro (.not rfl) rfl ?_;refine Cov.q .ro (.move rfl) rfl ?_
  obtain ⟨u104, h105, r106⟩ := bind_some r80; clear r80
  refine Cov.cutR 12 (β := Unit) (fun y => [(27, .bool u104)]) [(7, _), (0, _), (5, _), (6, _)] (fun y => G :: Fs) (fun y => []) [] (fun y => []) [] (fun y => True) ⟨rfl, rfl, rfl, rfl, trivial⟩ [] rfl [] rfl ?_ ?_
  ·rintro _ _
   refine Cov.prune [(27, .bool u104), (7, _), (0, _), (5, _), (6, _)] ⟨rfl, rfl, rfl, rfl, rfl, trivial⟩ ?_;refine Cov.same (bl' := []) (sl' := []) (Fs' := G :: Fs) rfl rfl rfl ?_;refine Cov.region_end ?_
   refine Cov.cond rfl (fun c109 => ?_) (fun c109 => ?_)
   ·have r110 := ifT r106 c109; clear r106
    refine Cov.seq ?_;refine Cov.region rfl ?_;refine Cov.q .ro (.assign rfl) rfl ?_;refine Cov.region_end ?_
    cases r110
    refine Cov.retS (c := ⟨118, none⟩) (.inr ⟨_, rfl⟩) [.tmp 2] [_] rfl Tryz.func118 Tryz.results118 ⟨RV.tmp rfl, trivial⟩ (fun _ h => List.mem_cons_of_mem _ h) ⟨rfl, rfl, rfl⟩
   ·have r111 := ifBF r106 c109; clear r106
    refine Cov.skip ?_;refine Cov.inBlock ?_;refine Cov.region rfl ?_;refine Cov.q .ro (.addw rfl rfl) rfl ?_;refine Cov.q .ro (.move rfl) rfl ?_;refine Cov.region_end ?_
    refine Cov.prune _ ?_ (Cov.same rfl rfl rfl (hb70 ((i66 + 1), xs75) ⟨(drop_succ g68), r111⟩ (Nat.lt_succ_self _)))
    exact ⟨(congrArg (fun z => some (Value.int .i64 z)) (idx_wrap (SlR.len s0) g68)), rfl, rfl, rfl, trivial⟩
  ·intro hb103
   refine Cov.split_b 15 rfl (fun c102 => ?_) (fun c102 => ?_)
   ·have r112 := ifT h105 c102
    refine Cov.g_off rfl rfl rfl ?_;refine Cov.g_off rfl rfl rfl ?_;refine Cov.g_off rfl rfl rfl ?_;refine Cov.gu_off rfl rfl ?_;refine Cov.gu_off rfl rfl ?_;refine Cov.gu_off rfl rfl ?_;refine Cov.gu_off rfl rfl ?_;refine Cov.gu_off rfl rfl ?_;refine Cov.gu_off rfl rfl ?_
    refine Cov.gu_off rfl rfl ?_;refine Cov.g_off rfl rfl rfl ?_;refine Cov.q .ro (.pick_t rfl rfl) rfl ?_
    refine Cov.prune _ ?_ (Cov.same rfl rfl rfl (hb103 () trivial))
    exact ⟨sval r112, rfl, rfl, rfl, rfl, trivial⟩
   ·have r113 := ifBF h105 c102
    refine Cov.g_on rfl ?_;refine Cov.q .ro (.move rfl) rfl ?_;refine Cov.g_on rfl ?_;refine Cov.q .ro (.gtr rfl rfl) rfl ?_;refine Cov.g_on rfl ?_;refine Cov.q .ro (.move rfl) rfl ?_
    obtain ⟨u121, h122, r123⟩ := bind_some r113; clear r113
    refine Cov.cutR 8 (β := Unit) (fun y => [(26, .bool u121)]) [(7, _), (0, _), (5, _), (6, _), (15, _), (16, _), (17, _)] (fun y => G :: Fs) (fun y => []) [] (fun y => []) [] (fun y => True) ⟨rfl, rfl, rfl, rfl, rfl, rfl, rfl, trivial⟩ [] rfl [] rfl ?_ ?_
    ·rintro _ _
     refine Cov.prune [(26, .bool u121), (7, _), (0, _), (5, _), (6, _), (15, _), (16, _), (17, _)] ⟨rfl, rfl, rfl, rfl, rfl, rfl, rfl, rfl, trivial⟩ ?_;refine Cov.same (bl' := []) (sl' := []) (Fs' := G :: Fs) rfl rfl rfl ?_;refine Cov.q .ro (.pick_f rfl rfl) rfl ?_
     refine Cov.prune _ ?_ (Cov.same rfl rfl rfl (hb103 () trivial))
     exact ⟨sval r123, rfl, rfl, rfl, rfl, trivial⟩
    ·intro hb120
     refine Cov.split 18 rfl (fun c119 => ?_) (fun c119 => ?_)
     ·have r126 := ifT h122 c119
      refine Cov.g_on rfl ?_;refine Cov.q .ro (.move rfl) rfl ?_;refine Cov.g_on rfl ?_;refine Cov.q .ro (.move rfl) rfl ?_;refine Cov.g_on rfl ?_;refine Cov.q .ro (.move rfl) rfl ?_;refine Cov.g_on rfl ?_;refine Cov.q .ro (.subw rfl rfl) rfl ?_;refine Cov.g_on rfl ?_
      obtain ⟨u127, hu127, r128⟩ := bind_some r126; clear r126
      obtain ⟨c129, p130, h131⟩ := SlR.get s0 hu127
      obtain rfl := h131
      refine Cov.q .ro (.idxR s0 rfl rfl hu127 sl74 ty9.sz) rfl ?_;refine Cov.g_on rfl ?_;refine Cov.q .ro (.load_rp p130 List.mem_cons_self rfl ty9 rfl) rfl ?_;refine Cov.g_on rfl ?_;refine Cov.q .ro (.leq_d rfl rfl) rfl ?_;refine Cov.g_on rfl ?_;refine Cov.q .ro (.pick_t rfl rfl) rfl ?_
      refine Cov.prune _ ?_ (Cov.same rfl rfl rfl (hb120 () trivial))
      exact ⟨sval r128, rfl, rfl, rfl, rfl, rfl, rfl, rfl, trivial⟩
     ·have r132 := ifF h122 c119
      refine Cov.g_off rfl rfl rfl ?_;refine Cov.g_off rfl rfl rfl ?_;refine Cov.g_off rfl rfl rfl ?_;refine Cov.g_off rfl rfl rfl ?_;refine Cov.g_off rfl rfl rfl ?_;refine Cov.g_off rfl rfl rfl ?_;refine Cov.g_off rfl rfl rfl ?_;refine Cov.g_on rfl ?_;refine Cov.q .ro (.pick_f rfl rfl) rfl ?_
      refine Cov.prune _ ?_ (Cov.same rfl rfl rfl (hb120 () trivial))
      exact ⟨sval r132, rfl, rfl, rfl, rfl, rfl, rfl, rfl, trivial⟩
set_option maxHeartbeats 4000000 in
set_option maxRecDepth 100000 in
theorem fence_Check_c {Fs : List Hp} {G : Hp} {x0_0 : Int} {a0_1 : Option Addr} {k0_1 : Nat} {x0_1 : List ByteArray} {r : Int} (hG : G ∈ Fs) (s0_1 : SlR Rep.str G a0_1 k0_1 x0_1) (h : fence_Check (x0_0, x0_1) = some r) : RetS Tryz.prog 61 #[.agg #[.int .i64 x0_0, .slice a0_1 x0_1.length k0_1]] Fs [] [] (fun v bo so => v = .int .i64 r ∧ bo = [] ∧ so = []) := by
 unfold fence_Check at h
 try dsimp only at h
 refine RetS.of (vs := [_]) Tryz.func61 rfl Tryz.ntmps61 [(0, _)] ⟨rfl, trivial⟩ rfl hG fun w0 S0 hS0 B0 => ?_
 refine Cov.seq ?_;refine Cov.region rfl ?_
 refine Cov.box [_, _] .ro rfl rfl rfl (fun b1 hb1 => ?_)
 refine Cov.q .ro (.assign rfl) rfl ?_;refine Cov.region_end ?_;refine Cov.seq ?_;refine Cov.seq ?_;refine Cov.region rfl ?_;refine Cov.q .ro (.fieldAddr 0 rfl fl76_0 ty3.sz rfl) rfl ?_;refine Cov.q .ro (.load_own 0 rfl rfl ty3 rfl) rfl ?_
 obtain ⟨u2, hu2, r3⟩ := bind_some h; clear h
 refine Cov.callS (b1 := []) (b2 := [_]) (s1 := []) [_] [] .ro rfl rfl Tryz.call117 rfl rfl (fence_sized_c (G := G) List.mem_cons_self  hu2) rfl (fun v5 bo so h4 => ?_)
 obtain ⟨rfl, rfl, rfl⟩ := h4
 refine Cov.same (bl' := [_]) (sl' := []) rfl rfl rfl ?_;refine Cov.q .ro (.not rfl) rfl ?_;refine Cov.q .ro (.move rfl) rfl ?_;refine Cov.cutR 5 (β := Unit) (fun y => [(12, .bool (decide (((!u2) = true) ∨ ((x0_1.length : Int) < 1))))]) [(1, _)] (fun y => G :: Fs) (fun y => []) [_] (fun y => []) [] (fun y => True) ⟨rfl, trivial⟩ [0] rfl [] rfl ?_ ?_
 ·rintro _ _
  refine Cov.prune [(12, .bool (decide (((!u2) = true) ∨ ((x0_1.length : Int) < 1)))), (1, _)] ⟨rfl, rfl, trivial⟩ ?_;refine Cov.same (bl' := [_]) (sl' := []) (Fs' := G :: Fs) rfl rfl rfl ?_;refine Cov.q .ro (.move rfl) rfl ?_;refine Cov.cutR 5 (β := Unit) (fun y => [(18, .bool (decide ((((!u2) = true) ∨ ((x0_1.length : Int) < 1)) ∨ (256 < (x0_1.length : Int)))))]) [(1, _)] (fun y => G :: Fs) (fun y => []) [_] (fun y => []) [] (fun y => True) ⟨rfl, trivial⟩ [0] rfl [] rfl ?_ ?_
  ·rintro _ _
   refine Cov.prune [(18, .bool (decide ((((!u2) = true) ∨ ((x0_1.length : Int) < 1)) ∨ (256 < (x0_1.length : Int))))), (1, _)] ⟨rfl, rfl, trivial⟩ ?_;refine Cov.same (bl' := [_]) (sl' := []) (Fs' := G :: Fs) rfl rfl rfl ?_;refine Cov.q .ro (.move rfl) rfl ?_
   obtain ⟨u20, h21, r22⟩ := bind_some r3; clear r3
   refine Cov.cutR 5 (β := Unit) (fun y => [(24, .bool u20)]) [] (fun y => G :: Fs) (fun y => []) [_] (fun y => []) [] (fun y => True) trivial [0] rfl [] rfl ?_ ?_
   ·rintro _ _
    refine Cov.prune [(24, .bool u20)] ⟨rfl, trivial⟩ ?_;refine Cov.same (bl' := [_]) (sl' := []) (Fs' := G :: Fs) rfl rfl rfl ?_;refine Cov.region_end ?_
    refine Cov.cond rfl (fun c25 => ?_) (fun c25 => ?_)
    ·have r26 := ifT r22 c25; clear r22
     refine Cov.seq ?_;refine Cov.region rfl ?_;refine Cov.q .ro (.assign rfl) rfl ?_;refine Cov.region_end ?_
     cases r26
     refine Cov.drop 1 0 [] _ rfl rfl ?_
     refine Cov.retS (c := ⟨61, none⟩) (.inr ⟨_, rfl⟩) [.tmp 2] [_] rfl Tryz.func61 Tryz.results61 ⟨RV.tmp rfl, trivial⟩ (fun _ h => List.mem_cons_of_mem _ h) ⟨rfl, rfl, rfl⟩
    ·have r27 := ifBF r22 c25; clear r22
     refine Cov.skip ?_;refine Cov.seq ?_;refine Cov.region rfl ?_;refine Cov.q .ro (.assign rfl) rfl ?_;refine Cov.region_end ?_
     cases r27
     refine Cov.drop 1 0 [] _ rfl rfl ?_
     refine Cov.retS (c := ⟨61, none⟩) (.inr ⟨_, rfl⟩) [.tmp 2] [_] rfl Tryz.func61 Tryz.results61 ⟨RV.tmp rfl, trivial⟩ (fun _ h => List.mem_cons_of_mem _ h) ⟨rfl, rfl, rfl⟩
   ·intro hb19
    refine Cov.split 19 rfl (fun c18 => ?_) (fun c18 => ?_)
    ·have r28 := ifT h21 c18
     refine Cov.g_off rfl rfl rfl ?_;refine Cov.g_off rfl rfl rfl ?_;refine Cov.g_off rfl rfl rfl ?_;refine Cov.g_off rfl rfl rfl ?_;refine Cov.q .ro (.pick_t rfl rfl) rfl ?_
     refine Cov.prune _ ?_ (Cov.same rfl rfl rfl (hb19 () trivial))
     exact ⟨sval r28, trivial⟩
    ·have r29 := ifF h21 c18
     refine Cov.g_on rfl ?_;refine Cov.q .ro (.fieldAddr 1 rfl fl76_1 ty74.sz rfl) rfl ?_;refine Cov.g_on rfl ?_;refine Cov.q .ro (.load_own 0 rfl rfl ty74 rfl) rfl ?_;refine Cov.g_on rfl ?_
     obtain ⟨u30, hu30, r31⟩ := bind_some r29; clear r29
     refine Cov.callS (b1 := []) (b2 := [_]) (s1 := []) [_] [] .ro rfl rfl Tryz.call118 rfl rfl (fence_ascend_c (G := G) List.mem_cons_self s0_1 hu30) rfl (fun v33 bo so h32 => ?_)
     obtain ⟨rfl, rfl, rfl⟩ := h32
     refine Cov.same (bl' := [_]) (sl' := []) rfl rfl rfl ?_;refine Cov.g_on rfl ?_;refine Cov.q .ro (.not rfl) rfl ?_;refine Cov.q .ro (.pick_f rfl rfl) rfl ?_
     refine Cov.prune _ ?_ (Cov.same rfl rfl rfl (hb19 () trivial))
     exact ⟨sval r31, trivial⟩
  ·intro hb11
   refine Cov.split 13 rfl (fun c10 => ?_) (fun c10 => ?_)
   ·refine Cov.g_off rfl rfl rfl ?_
    refine Cov.g_off rfl rfl rfl ?_;refine Cov.g_off rfl rfl rfl ?_;refine Cov.g_off rfl rfl rfl ?_;refine Cov.q .ro (.pick_t rfl rfl) rfl ?_
    refine Cov.prune _ ?_ (Cov.same rfl rfl rfl (hb11 () trivial))
    exact ⟨dor_t c10, rfl, trivial⟩
   ·refine Cov.g_on rfl ?_
    refine Cov.q .ro (.fieldAddr 1 rfl fl76_1 ty74.sz rfl) rfl ?_;refine Cov.g_on rfl ?_;refine Cov.q .ro (.load_own 0 rfl rfl ty74 rfl) rfl ?_;refine Cov.g_on rfl ?_;refine Cov.q .ro (.len_sl rfl rfl sl74) rfl ?_;refine Cov.g_on rfl ?_;refine Cov.q .ro (.gtr rfl rfl) rfl ?_;refine Cov.q .ro (.pick_f rfl rfl) rfl ?_
    refine Cov.prune _ ?_ (Cov.same rfl rfl rfl (hb11 () trivial))
    exact ⟨dor_f c10, rfl, trivial⟩
 ·intro hb7
  refine Cov.split_b 7 rfl (fun c6 => ?_) (fun c6 => ?_)
  ·refine Cov.g_off rfl rfl rfl ?_
   refine Cov.g_off rfl rfl rfl ?_;refine Cov.g_off rfl rfl rfl ?_;refine Cov.g_off rfl rfl rfl ?_;refine Cov.q .ro (.pick_t rfl rfl) rfl ?_
   refine Cov.prune _ ?_ (Cov.same rfl rfl rfl (hb7 () trivial))
   exact ⟨dor_t c6, rfl, trivial⟩
  ·refine Cov.g_on rfl ?_
   refine Cov.q .ro (.fieldAddr 1 rfl fl76_1 ty74.sz rfl) rfl ?_;refine Cov.g_on rfl ?_;refine Cov.q .ro (.load_own 0 rfl rfl ty74 rfl) rfl ?_;refine Cov.g_on rfl ?_;refine Cov.q .ro (.len_sl rfl rfl sl74) rfl ?_;refine Cov.g_on rfl ?_;refine Cov.q .ro (.lss rfl rfl) rfl ?_;refine Cov.q .ro (.pick_f rfl rfl) rfl ?_
   refine Cov.prune _ ?_ (Cov.same rfl rfl rfl (hb7 () trivial))
   exact ⟨dor_f (bne_of c6), rfl, trivial⟩
set_option maxHeartbeats 4000000 in
set_option maxRecDepth 100000 in
theorem fence_Steps_c {Fs : List Hp} {G : Hp} {x0 : Int} {x1 : Int} {r : (Int × Int)} (hG : G ∈ Fs)  (h : fence_Steps x0 x1 = some r) : RetS Tryz.prog 62 #[.int .i64 x0, .int .i64 x1] Fs [] [] (fun v bo so => v = .tuple #[.int .i64 r.1, .int .i64 r.2] ∧ bo = [] ∧ so = []) := by
 unfold fence_Steps at h
 try dsimp only at h
 refine RetS.of (vs := [_, _]) Tryz.func62 rfl Tryz.ntmps62 [(0, _), (1, _)] ⟨rfl, rfl, trivial⟩ rfl hG fun w0 S0 hS0 B0 => ?_
 refine Cov.seq ?_;refine Cov.region rfl ?_;refine Cov.q .ro (.assign rfl) rfl ?_;refine Cov.q .ro (.assign rfl) rfl ?_;refine Cov.region_end ?_;refine Cov.seq ?_;refine Cov.seq ?_;refine Cov.region rfl ?_;refine Cov.q .ro (.move rfl) rfl ?_
 refine Cov.q .ro (.lss rfl rfl) rfl ?_;refine Cov.q .ro (.move rfl) rfl ?_;refine Cov.cutR 3 (β := Unit) (fun y => [(12, .bool (decide ((x0 < 1) ∨ (256 < x0))))]) [(0, _), (1, _)] (fun y => G :: Fs) (fun y => []) [] (fun y => []) [] (fun y => True) ⟨rfl, rfl, trivial⟩ [] rfl [] rfl ?_ ?_
 ·rintro _ _
  refine Cov.prune [(12, .bool (decide ((x0 < 1) ∨ (256 < x0)))), (0, _), (1, _)] ⟨rfl, rfl, rfl, trivial⟩ ?_;refine Cov.same (bl' := []) (sl' := []) (Fs' := G :: Fs) rfl rfl rfl ?_;refine Cov.q .ro (.move rfl) rfl ?_
  obtain ⟨u11, h12, r13⟩ := bind_some h; clear h
  refine Cov.cutR 4 (β := Unit) (fun y => [(17, .bool u11)]) [(0, _), (1, _)] (fun y => G :: Fs) (fun y => []) [] (fun y => []) [] (fun y => True) ⟨rfl, rfl, trivial⟩ [] rfl [] rfl ?_ ?_
  ·rintro _ _
   refine Cov.prune [(17, .bool u11), (0, _), (1, _)] ⟨rfl, rfl, rfl, trivial⟩ ?_;refine Cov.same (bl' := []) (sl' := []) (Fs' := G :: Fs) rfl rfl rfl ?_;refine Cov.region_end ?_
   refine Cov.cond rfl (fun c16 => ?_) (fun c16 => ?_)
   ·have r17 := ifT r13 c16; clear r13
    refine Cov.seq ?_;refine Cov.region rfl ?_;refine Cov.q .ro (.assign rfl) rfl ?_;refine Cov.q .ro (.assign rfl) rfl ?_;refine Cov.region_end ?_
    cases r17
    refine Cov.retS (c := ⟨62, none⟩) (.inr ⟨_, rfl⟩) [.tmp 4, .tmp 5] [_, _] rfl Tryz.func62 Tryz.results62 ⟨RV.tmp rfl, RV.tmp rfl, trivial⟩ (fun _ h => List.mem_cons_of_mem _ h) ⟨rfl, rfl, rfl⟩
   ·have r18 := ifBF r13 c16; clear r13
    refine Cov.skip ?_;refine Cov.seq ?_;refine Cov.region rfl ?_;refine Cov.q .ro (.assign rfl) rfl ?_;refine Cov.region_end ?_;refine Cov.seq ?_;refine Cov.block ?_
    refine Cov.loop2 (α := Nat × Int × Int) (fun y => [(0, .int .i64 y.2.1), (6, .int .i64 y.2.2)]) [(1, _)] (fun y => []) (fun y => []) [] (fun y => []) [] (fun y => fence_Steps_L1 x1 y.1 y.2.1 y.2.2 = some r) (fun y => y.1) (big, x0, 1) r18 ⟨rfl, rfl, rfl, trivial⟩ rfl rfl rfl (fun y hI hb32 => ?_)
    obtain ⟨n27, v29, v30⟩ := y
    have r31 := hI; clear hI
    try dsimp only at r31
    refine Cov.prune [(0, .int .i64 v29), (6, .int .i64 v30), (1, _)] ⟨rfl, rfl, rfl, trivial⟩ ?_;refine Cov.same (bl' := []) (sl' := []) (Fs' := G :: Fs) rfl rfl rfl ?_
    obtain ⟨m35, rfl⟩ : ∃ m, n27 = m + 1 := by cases n27 with | zero => exact absurd (show (none : Option _) = some _ from r31) (by simp) | succ m => exact ⟨m, rfl⟩
    have r34 : fence_Steps_B1 x1 (fence_Steps_L1 x1 m35) v29 v30 = some r := r31; clear r31; unfold fence_Steps_B1 at r34; try dsimp only at r34
    refine Cov.seq ?_;refine Cov.seq ?_;refine Cov.region rfl ?_;refine Cov.q .ro (.move rfl) rfl ?_;refine Cov.q .ro (.move rfl) rfl ?_;refine Cov.q .ro (.gtr rfl rfl) rfl ?_;refine Cov.region_end ?_
    refine Cov.cond_dec rfl (fun c36 => ?_) (fun c36 => ?_)
    ·have r37 := ifT r34 c36; clear r34
     refine Cov.skip ?_;refine Cov.seq ?_;refine Cov.block ?_;refine Cov.region rfl ?_;refine Cov.q .ro (.move rfl) rfl ?_;refine Cov.q .ro (.addw rfl rfl) rfl ?_;refine Cov.q .ro (.assign rfl) rfl ?_;refine Cov.region_end ?_;refine Cov.inBlock ?_
     refine Cov.region rfl ?_;refine Cov.q .ro (.move rfl) rfl ?_;refine Cov.q .ro (.move rfl) rfl ?_;refine Cov.q .ro (.addw rfl rfl) rfl ?_;refine Cov.q .ro (.subw rfl rfl) rfl ?_;refine Cov.q .ro (.move rfl) rfl ?_
     obtain ⟨u38, hu38, r39⟩ := bind_some r37; clear r37
     refine Cov.q .ro (.quow rfl rfl (nz_some hu38)) rfl ?_;refine Cov.q .ro (.assign rfl) rfl ?_;refine Cov.region_end ?_
     refine Cov.prune _ ?_ (Cov.same rfl rfl rfl (hb32 (m35, (w64 (Int.tdiv (w64 ((w64 (v29 + x1)) - 1)) x1)), (w64 (v30 + 1))) r39 (Nat.lt_succ_self _)))
     exact ⟨rfl, rfl, rfl, trivial⟩
    ·have r40 := ifF r34 c36; clear r34
     refine Cov.exit rfl ?_;refine Cov.seq ?_;refine Cov.region rfl ?_;refine Cov.q .ro (.move rfl) rfl ?_;refine Cov.q .ro (.assign rfl) rfl ?_;refine Cov.q .ro (.assign rfl) rfl ?_;refine Cov.region_end ?_
     cases r40
     refine Cov.retS (c := ⟨62, none⟩) (.inr ⟨_, rfl⟩) [.tmp 4, .tmp 5] [_, _] rfl Tryz.func62 Tryz.results62 ⟨RV.tmp rfl, RV.tmp rfl, trivial⟩ (fun _ h => List.mem_cons_of_mem _ h) ⟨rfl, rfl, rfl⟩
  ·intro hb10
   refine Cov.split 13 rfl (fun c9 => ?_) (fun c9 => ?_)
   ·have r41 := ifT h12 c9
    refine Cov.g_off rfl rfl rfl ?_;refine Cov.g_off rfl rfl rfl ?_;refine Cov.g_off rfl rfl rfl ?_;refine Cov.q .ro (.pick_t rfl rfl) rfl ?_
    refine Cov.prune _ ?_ (Cov.same rfl rfl rfl (hb10 () trivial))
    exact ⟨sval r41, rfl, rfl, trivial⟩
   ·have r42 := ifF h12 c9
    refine Cov.g_on rfl ?_;refine Cov.q .ro (.move rfl) rfl ?_;refine Cov.g_on rfl ?_
    obtain ⟨u43, hu43, r44⟩ := bind_some r42; clear r42
    refine Cov.callS (b1 := []) (b2 := []) (s1 := []) [_] [] .ro rfl rfl Tryz.call117 rfl rfl (fence_sized_c (G := G) List.mem_cons_self  hu43) rfl (fun v46 bo so h45 => ?_)
    obtain ⟨rfl, rfl, rfl⟩ := h45
    refine Cov.same (bl' := []) (sl' := []) rfl rfl rfl ?_;refine Cov.g_on rfl ?_;refine Cov.q .ro (.not rfl) rfl ?_;refine Cov.q .ro (.pick_f rfl rfl) rfl ?_
    refine Cov.prune _ ?_ (Cov.same rfl rfl rfl (hb10 () trivial))
    exact ⟨sval r44, rfl, rfl, trivial⟩
 ·intro hb2
  refine Cov.split 9 rfl (fun c1 => ?_) (fun c1 => ?_)
  ·refine Cov.g_off rfl rfl rfl ?_
   refine Cov.g_off rfl rfl rfl ?_;refine Cov.q .ro (.pick_t rfl rfl) rfl ?_
   refine Cov.prune _ ?_ (Cov.same rfl rfl rfl (hb2 () trivial))
   exact ⟨dor_t c1, rfl, rfl, trivial⟩
  ·refine Cov.g_on rfl ?_
   refine Cov.q .ro (.move rfl) rfl ?_;refine Cov.g_on rfl ?_;refine Cov.q .ro (.gtr rfl rfl) rfl ?_;refine Cov.q .ro (.pick_f rfl rfl) rfl ?_
   refine Cov.prune _ ?_ (Cov.same rfl rfl rfl (hb2 () trivial))
   exact ⟨dor_f c1, rfl, rfl, trivial⟩
set_option maxHeartbeats 4000000 in
set_option maxRecDepth 100000 in
theorem bounds_Looks_c {Fs : List Hp} {G : Hp} {x0_0 : Int} {a0_1 : Option Addr} {k0_1 : Nat} {x0_1 : List (Int × Int)} {x1_0 : Int} {a1_1 : Option Addr} {k1_1 : Nat} {x1_1 : List ByteArray} {r : (Int × Int × Int)} (hG : G ∈ Fs) (s0_1 : SlR (Rep.pair (Rep.int .i64) (Rep.int .i64)) G a0_1 k0_1 x0_1) (s1_1 : SlR Rep.str G a1_1 k1_1 x1_1) (h : bounds_Looks (x0_0, x0_1) (x1_0, x1_1) = some r) : RetS Tryz.prog 30 #[.agg #[.int .i64 x0_0, .slice a0_1 x0_1.length k0_1], .agg #[.int .i64 x1_0, .slice a1_1 x1_1.length k1_1]] Fs [] [] (fun v bo so => v = .tuple #[.int .i64 r.1, .int .i64 r.2.1, .int .i64 r.2.2] ∧ bo = [] ∧ so = []) := by
 unfold bounds_Looks at h
 try dsimp only at h
 refine RetS.of (vs := [_, _]) Tryz.func30 rfl Tryz.ntmps30 [(0, _), (1, _)] ⟨rfl, rfl, trivial⟩ rfl hG fun w0 S0 hS0 B0 => ?_
 refine Cov.seq ?_;refine Cov.region rfl ?_
 refine Cov.box [_, _] .ro rfl rfl rfl (fun b1 hb1 => ?_)
 refine Cov.box [_, _] .ro rfl rfl rfl (fun b2 hb2 => ?_)
 refine Cov.q .ro (.assign rfl) rfl ?_;refine Cov.q .ro (.assign rfl) rfl ?_;refine Cov.q .ro (.assign rfl) rfl ?_;refine Cov.region_end ?_;refine Cov.seq ?_;refine Cov.seq ?_;refine Cov.region rfl ?_;refine Cov.q .ro (.load_own_a 1 [_, _] rfl rfl ty73 rfl) rfl ?_
 obtain ⟨u3, hu3, r4⟩ := bind_some h; clear h
 refine Cov.callS (b1 := []) (b2 := [_, _]) (s1 := []) [_] [] .ro rfl rfl Tryz.call60 rfl rfl (cuckoo_Check_c (G := G) List.mem_cons_self s0_1 hu3) rfl (fun v6 bo so h5 => ?_)
 obtain ⟨rfl, rfl, rfl⟩ := h5
 refine Cov.same (bl' := [_, _]) (sl' := []) rfl rfl rfl ?_;refine Cov.q .ro (.assign rfl) rfl ?_;refine Cov.region_end ?_;refine Cov.seq ?_;refine Cov.region rfl ?_;refine Cov.q .ro (.move rfl) rfl ?_;refine Cov.q .ro (.neq rfl rfl) rfl ?_;refine Cov.region_end ?_
 refine Cov.cond_dec rfl (fun c7 => ?_) (fun c7 => ?_)
 ·have r8 := ifT r4 c7; clear r4
  refine Cov.seq ?_;refine Cov.region rfl ?_;refine Cov.q .ro (.move rfl) rfl ?_;refine Cov.q .ro (.assign rfl) rfl ?_;refine Cov.q .ro (.assign rfl) rfl ?_;refine Cov.q .ro (.assign rfl) rfl ?_;refine Cov.region_end ?_
  cases r8
  refine Cov.drop 2 0 [] _ rfl rfl ?_
  refine Cov.retS (c := ⟨30, none⟩) (.inr ⟨_, rfl⟩) [.tmp 4, .tmp 5, .tmp 6] [_, _, _] rfl Tryz.func30 Tryz.results30 ⟨RV.tmp rfl, RV.tmp rfl, RV.tmp rfl, trivial⟩ (fun _ h => List.mem_cons_of_mem _ h) ⟨rfl, rfl, rfl⟩
 ·have r9 := ifF r4 c7; clear r4
  refine Cov.skip ?_;refine Cov.seq ?_;refine Cov.seq ?_;refine Cov.region rfl ?_;refine Cov.q .ro (.load_own_a 0 [_, _] rfl rfl ty76 rfl) rfl ?_
  obtain ⟨u10, hu10, r11⟩ := bind_some r9; clear r9
  refine Cov.callS (b1 := []) (b2 := [_, _]) (s1 := []) [_] [] .ro rfl rfl Tryz.call61 rfl rfl (fence_Check_c (G := G) List.mem_cons_self s1_1 hu10) rfl (fun v13 bo so h12 => ?_)
  obtain ⟨rfl, rfl, rfl⟩ := h12
  refine Cov.same (bl' := [_, _]) (sl' := []) rfl rfl rfl ?_;refine Cov.q .ro (.assign rfl) rfl ?_;refine Cov.region_end ?_;refine Cov.seq ?_;refine Cov.region rfl ?_;refine Cov.q .ro (.move rfl) rfl ?_;refine Cov.q .ro (.neq rfl rfl) rfl ?_;refine Cov.region_end ?_;refine Cov.prune [(2, _), (3, _), (8, _), (19, _)] ⟨rfl, rfl, rfl, rfl, trivial⟩ ?_
  refine Cov.cond_dec rfl (fun c14 => ?_) (fun c14 => ?_)
  ·have r15 := ifT r11 c14; clear r11
   refine Cov.seq ?_;refine Cov.region rfl ?_;refine Cov.q .ro (.move rfl) rfl ?_;refine Cov.q .ro (.assign rfl) rfl ?_;refine Cov.q .ro (.assign rfl) rfl ?_;refine Cov.q .ro (.assign rfl) rfl ?_;refine Cov.region_end ?_
   cases r15
   refine Cov.drop 2 0 [] _ rfl rfl ?_
   refine Cov.retS (c := ⟨30, none⟩) (.inr ⟨_, rfl⟩) [.tmp 4, .tmp 5, .tmp 6] [_, _, _] rfl Tryz.func30 Tryz.results30 ⟨RV.tmp rfl, RV.tmp rfl, RV.tmp rfl, trivial⟩ (fun _ h => List.mem_cons_of_mem _ h) ⟨rfl, rfl, rfl⟩
  ·have r16 := ifF r11 c14; clear r11
   refine Cov.skip ?_;refine Cov.seq ?_;refine Cov.region rfl ?_;refine Cov.q .ro (.fieldAddr 1 rfl fl76_1 ty74.sz rfl) rfl ?_;refine Cov.q .ro (.load_own 0 rfl rfl ty74 rfl) rfl ?_;refine Cov.q .ro (.len_sl rfl rfl sl74) rfl ?_;refine Cov.q .ro (.fieldAddr 0 rfl fl76_0 ty3.sz rfl) rfl ?_;refine Cov.q .ro (.load_own 0 rfl rfl ty3 rfl) rfl ?_
   obtain ⟨u17, hu17, r18⟩ := bind_some r16; clear r16
   refine Cov.callS (b1 := []) (b2 := [_, _]) (s1 := []) [_, _] [] .ro rfl rfl Tryz.call62 rfl rfl (fence_Steps_c (G := G) List.mem_cons_self  hu17) rfl (fun v20 bo so h19 => ?_)
   obtain ⟨rfl, rfl, rfl⟩ := h19
   refine Cov.same (bl' := [_, _]) (sl' := []) rfl rfl rfl ?_;refine Cov.q .ro (.move rfl) rfl ?_;refine Cov.q .ro (.extract rfl rfl) rfl ?_;refine Cov.q .ro (.extract rfl rfl) rfl ?_;refine Cov.q .ro (.assign rfl) rfl ?_;refine Cov.q .ro (.assign rfl) rfl ?_;refine Cov.region_end ?_;refine Cov.seq ?_;refine Cov.seq ?_
   refine Cov.region rfl ?_;refine Cov.q .ro (.move rfl) rfl ?_;refine Cov.q .ro (.neq rfl rfl) rfl ?_;refine Cov.region_end ?_;refine Cov.prune [(2, _), (9, _), (10, _), (31, _)] ⟨rfl, rfl, rfl, rfl, trivial⟩ ?_
   refine Cov.cond_dec rfl (fun c21 => ?_) (fun c21 => ?_)
   ·have r22 := ifT r18 c21; clear r18
    refine Cov.seq ?_;refine Cov.region rfl ?_;refine Cov.q .ro (.move rfl) rfl ?_;refine Cov.q .ro (.assign rfl) rfl ?_;refine Cov.q .ro (.assign rfl) rfl ?_;refine Cov.q .ro (.assign rfl) rfl ?_;refine Cov.region_end ?_
    cases r22
    refine Cov.drop 2 0 [] _ rfl rfl ?_
    refine Cov.retS (c := ⟨30, none⟩) (.inr ⟨_, rfl⟩) [.tmp 4, .tmp 5, .tmp 6] [_, _, _] rfl Tryz.func30 Tryz.results30 ⟨RV.tmp rfl, RV.tmp rfl, RV.tmp rfl, trivial⟩ (fun _ h => List.mem_cons_of_mem _ h) ⟨rfl, rfl, rfl⟩
   ·have r23 := ifF r18 c21; clear r18
    refine Cov.skip ?_;refine Cov.seq ?_;refine Cov.region rfl ?_;refine Cov.q .ro (.fieldAddr 1 rfl fl73_1 ty71.sz rfl) rfl ?_;refine Cov.q .ro (.load_own 1 rfl rfl ty71 rfl) rfl ?_;refine Cov.q .ro (.len_sl rfl rfl sl71) rfl ?_;refine Cov.q .ro (.move rfl) rfl ?_;refine Cov.q .ro (.assign rfl) rfl ?_;refine Cov.q .ro (.assign rfl) rfl ?_
    refine Cov.q .ro (.assign rfl) rfl ?_;refine Cov.region_end ?_
    cases r23
    refine Cov.drop 2 0 [] _ rfl rfl ?_
    refine Cov.retS (c := ⟨30, none⟩) (.inr ⟨_, rfl⟩) [.tmp 4, .tmp 5, .tmp 6] [_, _, _] rfl Tryz.func30 Tryz.results30 ⟨RV.tmp rfl, RV.tmp rfl, RV.tmp rfl, trivial⟩ (fun _ h => List.mem_cons_of_mem _ h) ⟨rfl, rfl, rfl⟩
set_option maxHeartbeats 4000000 in
set_option maxRecDepth 100000 in
theorem ref20_Key_c {Fs : List Hp} {G : Hp} {x0 : ByteArray} {r : Bool} (hG : G ∈ Fs)  (h : ref20_Key x0 = some r) : RetS Tryz.prog 160 #[.string x0] Fs [] [] (fun v bo so => v = .bool r ∧ bo = [] ∧ so = []) := by
 unfold ref20_Key at h
 try dsimp only at h
 refine RetS.of (vs := [_]) Tryz.func160 rfl Tryz.ntmps160 [(0, _)] ⟨rfl, trivial⟩ rfl hG fun w0 S0 hS0 B0 => ?_
 refine Cov.seq ?_;refine Cov.region rfl ?_;refine Cov.q .ro (.assign rfl) rfl ?_;refine Cov.region_end ?_;refine Cov.seq ?_;refine Cov.region rfl ?_;refine Cov.q .ro (.move rfl) rfl ?_;refine Cov.q .ro (.len_s rfl Tryz.underlying9) rfl ?_;refine Cov.q .ro (.geq rfl rfl) rfl ?_
 refine Cov.q .ro (.move rfl) rfl ?_;refine Cov.cutR 4 (β := Unit) (fun y => [(10, .bool (decide ((1 ≤ (x0.size : Int)) ∧ ((x0.size : Int) ≤ 32))))]) [(2, _)] (fun y => G :: Fs) (fun y => []) [] (fun y => []) [] (fun y => True) ⟨rfl, trivial⟩ [] rfl [] rfl ?_ ?_
 ·rintro _ _
  refine Cov.prune [(10, .bool (decide ((1 ≤ (x0.size : Int)) ∧ ((x0.size : Int) ≤ 32)))), (2, _)] ⟨rfl, rfl, trivial⟩ ?_;refine Cov.same (bl' := []) (sl' := []) (Fs' := G :: Fs) rfl rfl rfl ?_;refine Cov.q .ro (.assign rfl) rfl ?_;refine Cov.region_end ?_
  cases h
  refine Cov.retS (c := ⟨160, none⟩) (.inr ⟨_, rfl⟩) [.tmp 2] [_] rfl Tryz.func160 Tryz.results160 ⟨RV.tmp rfl, trivial⟩ (fun _ h => List.mem_cons_of_mem _ h) ⟨rfl, rfl, rfl⟩
 ·intro hb2
  refine Cov.split 6 rfl (fun c1 => ?_) (fun c1 => ?_)
  ·refine Cov.g_on rfl ?_
   refine Cov.q .ro (.move rfl) rfl ?_;refine Cov.g_on rfl ?_;refine Cov.q .ro (.len_s rfl Tryz.underlying9) rfl ?_;refine Cov.g_on rfl ?_;refine Cov.q .ro (.leq rfl rfl) rfl ?_;refine Cov.q .ro (.pick_t rfl rfl) rfl ?_
   refine Cov.prune _ ?_ (Cov.same rfl rfl rfl (hb2 () trivial))
   exact ⟨dand_t c1, rfl, trivial⟩
  ·refine Cov.g_off rfl rfl rfl ?_
   refine Cov.g_off rfl rfl rfl ?_;refine Cov.g_off rfl rfl rfl ?_;refine Cov.q .ro (.pick_f rfl rfl) rfl ?_
   refine Cov.prune _ ?_ (Cov.same rfl rfl rfl (hb2 () trivial))
   exact ⟨dand_f c1, rfl, trivial⟩
set_option maxHeartbeats 4000000 in
set_option maxRecDepth 100000 in
theorem ref21_ascend_c {Fs : List Hp} {G : Hp} {a0 : Option Addr} {k0 : Nat} {x0 : List ByteArray} {r : Bool} (hG : G ∈ Fs) (s0 : SlR Rep.str G a0 k0 x0) (h : ref21_ascend x0 = some r) : RetS Tryz.prog 119 #[.slice a0 x0.length k0] Fs [] [] (fun v bo so => v = .bool r ∧ bo = [] ∧ so = []) := by
 unfold ref21_ascend at h
 try dsimp only at h
 refine RetS.of (vs := [_]) Tryz.func119 rfl Tryz.ntmps119 [(0, _)] ⟨rfl, trivial⟩ rfl hG fun w0 S0 hS0 B0 => ?_
 refine Cov.seq ?_;refine Cov.region rfl ?_;refine Cov.q .ro (.assign rfl) rfl ?_;refine Cov.region_end ?_;refine Cov.seq ?_;refine Cov.seq ?_;refine Cov.region rfl ?_;refine Cov.q .ro (.move rfl) rfl ?_;refine Cov.q .ro (.len_sl rfl rfl sl74) rfl ?_
 refine Cov.q .ro (.move rfl) rfl ?_;refine Cov.region_end ?_;refine Cov.block ?_
 refine Cov.loop2 (α := Nat × List ByteArray) (fun y => [(7, .int .i64 (y.1 : Int))]) [(0, _), (5, _), (6, _)] (fun y => []) (fun y => []) [] (fun y => []) [] (fun y => List.drop y.1 x0 = y.2 ∧ ref21_ascend_L1 x0 y.2 y.1  = some r) (fun y => y.2.length) (0, x0) ⟨rfl, h⟩ ⟨rfl, rfl, rfl, rfl, trivial⟩ rfl rfl rfl (fun y hI hb70 => ?_)
 obtain ⟨i66, w67⟩ := y
 obtain ⟨g68, r69⟩ := hI
 try dsimp only at g68 r69
 refine Cov.prune [(7, .int .i64 (i66 : Int)), (0, _), (5, _), (6, _)] ⟨rfl, rfl, rfl, rfl, trivial⟩ ?_;refine Cov.same (bl' := []) (sl' := []) (Fs' := G :: Fs) rfl rfl rfl ?_
 cases w67 with
 | nil =>
  rw [ref21_ascend_L1] at r69; try dsimp only at r69
  refine Cov.seq ?_;refine Cov.region rfl ?_;refine Cov.q .ro (.lss rfl rfl) rfl ?_;refine Cov.region_end ?_;refine Cov.seq ?_
  refine Cov.cond_dec rfl (fun c => absurd c (drop_nil g68)) (fun _ => ?_)
  refine Cov.exit rfl ?_;refine Cov.seq ?_;refine Cov.region rfl ?_;refine Cov.q .ro (.assign rfl) rfl ?_;refine Cov.region_end ?_
  cases r69
  refine Cov.retS (c := ⟨119, none⟩) (.inr ⟨_, rfl⟩) [.tmp 2] [_] rfl Tryz.func119 Tryz.results119 ⟨RV.tmp rfl, trivial⟩ (fun _ h => List.mem_cons_of_mem _ h) ⟨rfl, rfl, rfl⟩
 | cons x74 xs75 =>
  have r73 : ref21_ascend_B1 x0 (ref21_ascend_L1 x0 xs75 (i66 + 1)) x74 i66  = some r := r69; clear r69; unfold ref21_ascend_B1 at r73; try dsimp only at r73
  refine Cov.seq ?_;refine Cov.region rfl ?_;refine Cov.q .ro (.lss rfl rfl) rfl ?_;refine Cov.region_end ?_;refine Cov.seq ?_
  refine Cov.cond_dec rfl (fun _ => ?_) (fun c => absurd (drop_lt g68) c)
  refine Cov.skip ?_;refine Cov.seq ?_;refine Cov.block ?_;refine Cov.seq ?_;refine Cov.region rfl ?_;refine Cov.q .ro (.move rfl) rfl ?_
  obtain ⟨c76, p77, h78⟩ := SlR.get s0 (drop_idx g68)
  obtain rfl := h78
  refine Cov.q .ro (.idxR s0 rfl rfl (drop_idx g68) sl74 ty9.sz) rfl ?_;refine Cov.q .ro (.load_rp p77 List.mem_cons_self rfl ty9 rfl) rfl ?_;refine Cov.q .ro (.assign rfl) rfl ?_;refine Cov.q .ro (.assign rfl) rfl ?_;refine Cov.region_end ?_;refine Cov.seq ?_;refine Cov.region rfl ?_;refine Cov.q .ro (.move rfl) rfl ?_
  obtain ⟨u79, hu79, r80⟩ := bind_some r73; clear r73
  refine Cov.callS (b1 := []) (b2 := []) (s1 := []) [_] [] .ro rfl rfl Tryz.call160 rfl rfl (ref20_Key_c (G := G) List.mem_cons_self  hu79) rfl (fun v82 bo so h81 => ?_)
  obtain ⟨rfl, rfl, rfl⟩ := h81
  refine Cov.same (bl' := []) (sl' := []) rfl rfl rfl ?_;refine Cov.q .ro (.not rfl) rfl ?_;refine Cov.q .ro (.move rfl) rfl ?_
  obtain ⟨u104, h105, r106⟩ := bind_some r80; clear r80
  refine Cov.cutR 12 (β := Unit) (fun y => [(27, .bool u104)]) [(7, _), (0, _), (5, _), (6, _)] (fun y => G :: Fs) (fun y => []) [] (fun y => []) [] (fun y => True) ⟨rfl, rfl, rfl, rfl, trivial⟩ [] rfl [] rfl ?_ ?_
  ·rintro _ _
   refine Cov.prune [(27, .bool u104), (7, _), (0, _), (5, _), (6, _)] ⟨rfl, rfl, rfl, rfl, rfl, trivial⟩ ?_;refine Cov.same (bl' := []) (sl' := []) (Fs' := G :: Fs) rfl rfl rfl ?_;refine Cov.region_end ?_
   refine Cov.cond rfl (fun c109 => ?_) (fun c109 => ?_)
   ·have r110 := ifT r106 c109; clear r106
    refine Cov.seq ?_;refine Cov.region rfl ?_;refine Cov.q .ro (.assign rfl) rfl ?_;refine Cov.region_end ?_
    cases r110
    refine Cov.retS (c := ⟨119, none⟩) (.inr ⟨_, rfl⟩) [.tmp 2] [_] rfl Tryz.func119 Tryz.results119 ⟨RV.tmp rfl, trivial⟩ (fun _ h => List.mem_cons_of_mem _ h) ⟨rfl, rfl, rfl⟩
   ·have r111 := ifBF r106 c109; clear r106
    refine Cov.skip ?_;refine Cov.inBlock ?_;refine Cov.region rfl ?_;refine Cov.q .ro (.addw rfl rfl) rfl ?_;refine Cov.q .ro (.move rfl) rfl ?_;refine Cov.region_end ?_
    refine Cov.prune _ ?_ (Cov.same rfl rfl rfl (hb70 ((i66 + 1), xs75) ⟨(drop_succ g68), r111⟩ (Nat.lt_succ_self _)))
    exact ⟨(congrArg (fun z => some (Value.int .i64 z)) (idx_wrap (SlR.len s0) g68)), rfl, rfl, rfl, trivial⟩
  ·intro hb103
   refine Cov.split_b 15 rfl (fun c102 => ?_) (fun c102 => ?_)
   ·have r112 := ifT h105 c102
    refine Cov.g_off rfl rfl rfl ?_;refine Cov.g_off rfl rfl rfl ?_;refine Cov.g_off rfl rfl rfl ?_;refine Cov.gu_off rfl rfl ?_;refine Cov.gu_off rfl rfl ?_;refine Cov.gu_off rfl rfl ?_;refine Cov.gu_off rfl rfl ?_;refine Cov.gu_off rfl rfl ?_;refine Cov.gu_off rfl rfl ?_
    refine Cov.gu_off rfl rfl ?_;refine Cov.g_off rfl rfl rfl ?_;refine Cov.q .ro (.pick_t rfl rfl) rfl ?_
    refine Cov.prune _ ?_ (Cov.same rfl rfl rfl (hb103 () trivial))
    exact ⟨sval r112, rfl, rfl, rfl, rfl, trivial⟩
   ·have r113 := ifBF h105 c102
    refine Cov.g_on rfl ?_;refine Cov.q .ro (.move rfl) rfl ?_;refine Cov.g_on rfl ?_;refine Cov.q .ro (.gtr rfl rfl) rfl ?_;refine Cov.g_on rfl ?_;refine Cov.q .ro (.move rfl) rfl ?_
    obtain ⟨u121, h122, r123⟩ := bind_some r113; clear r113
    refine Cov.cutR 8 (β := Unit) (fun y => [(26, .bool u121)]) [(7, _), (0, _), (5, _), (6, _), (15, _), (16, _), (17, _)] (fun y => G :: Fs) (fun y => []) [] (fun y => []) [] (fun y => True) ⟨rfl, rfl, rfl, rfl, rfl, rfl, rfl, trivial⟩ [] rfl [] rfl ?_ ?_
    ·rintro _ _
     refine Cov.prune [(26, .bool u121), (7, _), (0, _), (5, _), (6, _), (15, _), (16, _), (17, _)] ⟨rfl, rfl, rfl, rfl, rfl, rfl, rfl, rfl, trivial⟩ ?_;refine Cov.same (bl' := []) (sl' := []) (Fs' := G :: Fs) rfl rfl rfl ?_;refine Cov.q .ro (.pick_f rfl rfl) rfl ?_
     refine Cov.prune _ ?_ (Cov.same rfl rfl rfl (hb103 () trivial))
     exact ⟨sval r123, rfl, rfl, rfl, rfl, trivial⟩
    ·intro hb120
     refine Cov.split 18 rfl (fun c119 => ?_) (fun c119 => ?_)
     ·have r126 := ifT h122 c119
      refine Cov.g_on rfl ?_;refine Cov.q .ro (.move rfl) rfl ?_;refine Cov.g_on rfl ?_;refine Cov.q .ro (.move rfl) rfl ?_;refine Cov.g_on rfl ?_;refine Cov.q .ro (.move rfl) rfl ?_;refine Cov.g_on rfl ?_;refine Cov.q .ro (.subw rfl rfl) rfl ?_;refine Cov.g_on rfl ?_
      obtain ⟨u127, hu127, r128⟩ := bind_some r126; clear r126
      obtain ⟨c129, p130, h131⟩ := SlR.get s0 hu127
      obtain rfl := h131
      refine Cov.q .ro (.idxR s0 rfl rfl hu127 sl74 ty9.sz) rfl ?_;refine Cov.g_on rfl ?_;refine Cov.q .ro (.load_rp p130 List.mem_cons_self rfl ty9 rfl) rfl ?_;refine Cov.g_on rfl ?_;refine Cov.q .ro (.leq_d rfl rfl) rfl ?_;refine Cov.g_on rfl ?_;refine Cov.q .ro (.pick_t rfl rfl) rfl ?_
      refine Cov.prune _ ?_ (Cov.same rfl rfl rfl (hb120 () trivial))
      exact ⟨sval r128, rfl, rfl, rfl, rfl, rfl, rfl, rfl, trivial⟩
     ·have r132 := ifF h122 c119
      refine Cov.g_off rfl rfl rfl ?_;refine Cov.g_off rfl rfl rfl ?_;refine Cov.g_off rfl rfl rfl ?_;refine Cov.g_off rfl rfl rfl ?_;refine Cov.g_off rfl rfl rfl ?_;refine Cov.g_off rfl rfl rfl ?_;refine Cov.g_off rfl rfl rfl ?_;refine Cov.g_on rfl ?_;refine Cov.q .ro (.pick_f rfl rfl) rfl ?_
      refine Cov.prune _ ?_ (Cov.same rfl rfl rfl (hb120 () trivial))
      exact ⟨sval r132, rfl, rfl, rfl, rfl, rfl, rfl, rfl, trivial⟩
set_option maxHeartbeats 4000000 in
set_option maxRecDepth 100000 in
theorem ref21_Check_c {Fs : List Hp} {G : Hp} {x0_0 : Int} {a0_1 : Option Addr} {k0_1 : Nat} {x0_1 : List ByteArray} {r : Int} (hG : G ∈ Fs) (s0_1 : SlR Rep.str G a0_1 k0_1 x0_1) (h : ref21_Check (x0_0, x0_1) = some r) : RetS Tryz.prog 64 #[.agg #[.int .i64 x0_0, .slice a0_1 x0_1.length k0_1]] Fs [] [] (fun v bo so => v = .int .i64 r ∧ bo = [] ∧ so = []) := by
 unfold ref21_Check at h
 try dsimp only at h
 refine RetS.of (vs := [_]) Tryz.func64 rfl Tryz.ntmps64 [(0, _)] ⟨rfl, trivial⟩ rfl hG fun w0 S0 hS0 B0 => ?_
 refine Cov.seq ?_;refine Cov.region rfl ?_
 refine Cov.box [_, _] .ro rfl rfl rfl (fun b1 hb1 => ?_)
 refine Cov.q .ro (.assign rfl) rfl ?_;refine Cov.region_end ?_;refine Cov.seq ?_;refine Cov.seq ?_;refine Cov.region rfl ?_;refine Cov.q .ro (.fieldAddr 0 rfl fl76_0 ty3.sz rfl) rfl ?_;refine Cov.q .ro (.load_own 0 rfl rfl ty3 rfl) rfl ?_;refine Cov.q .ro (.lss rfl rfl) rfl ?_;refine Cov.q .ro (.move rfl) rfl ?_
 refine Cov.cutR 4 (β := Unit) (fun y => [(10, .bool (decide ((x0_0 < 2) ∨ (8 < x0_0))))]) [(1, _)] (fun y => G :: Fs) (fun y => []) [_] (fun y => []) [] (fun y => True) ⟨rfl, trivial⟩ [0] rfl [] rfl ?_ ?_
 ·rintro _ _
  refine Cov.prune [(10, .bool (decide ((x0_0 < 2) ∨ (8 < x0_0)))), (1, _)] ⟨rfl, rfl, trivial⟩ ?_;refine Cov.same (bl' := [_]) (sl' := []) (Fs' := G :: Fs) rfl rfl rfl ?_;refine Cov.q .ro (.move rfl) rfl ?_;refine Cov.cutR 5 (β := Unit) (fun y => [(16, .bool (decide (((x0_0 < 2) ∨ (8 < x0_0)) ∨ ((x0_1.length : Int) < 1))))]) [(1, _)] (fun y => G :: Fs) (fun y => []) [_] (fun y => []) [] (fun y => True) ⟨rfl, trivial⟩ [0] rfl [] rfl ?_ ?_
  ·rintro _ _
   refine Cov.prune [(16, .bool (decide (((x0_0 < 2) ∨ (8 < x0_0)) ∨ ((x0_1.length : Int) < 1)))), (1, _)] ⟨rfl, rfl, trivial⟩ ?_;refine Cov.same (bl' := [_]) (sl' := []) (Fs' := G :: Fs) rfl rfl rfl ?_;refine Cov.q .ro (.move rfl) rfl ?_;refine Cov.cutR 5 (β := Unit) (fun y => [(22, .bool (decide ((((x0_0 < 2) ∨ (8 < x0_0)) ∨ ((x0_1.length : Int) < 1)) ∨ (256 < (x0_1.length : Int)))))]) [(1, _)] (fun y => G :: Fs) (fun y => []) [_] (fun y => []) [] (fun y => True) ⟨rfl, trivial⟩ [0] rfl [] rfl ?_ ?_
   ·rintro _ _
    refine Cov.prune [(22, .bool (decide ((((x0_0 < 2) ∨ (8 < x0_0)) ∨ ((x0_1.length : Int) < 1)) ∨ (256 < (x0_1.length : Int))))), (1, _)] ⟨rfl, rfl, trivial⟩ ?_;refine Cov.same (bl' := [_]) (sl' := []) (Fs' := G :: Fs) rfl rfl rfl ?_;refine Cov.q .ro (.move rfl) rfl ?_
    obtain ⟨u20, h21, r22⟩ := bind_some h; clear h
    refine Cov.cutR 5 (β := Unit) (fun y => [(28, .bool u20)]) [] (fun y => G :: Fs) (fun y => []) [_] (fun y => []) [] (fun y => True) trivial [0] rfl [] rfl ?_ ?_
    ·rintro _ _
     refine Cov.prune [(28, .bool u20)] ⟨rfl, trivial⟩ ?_;refine Cov.same (bl' := [_]) (sl' := []) (Fs' := G :: Fs) rfl rfl rfl ?_;refine Cov.region_end ?_
     refine Cov.cond rfl (fun c25 => ?_) (fun c25 => ?_)
     ·have r26 := ifT r22 c25; clear r22
      refine Cov.seq ?_;refine Cov.region rfl ?_;refine Cov.q .ro (.assign rfl) rfl ?_;refine Cov.region_end ?_
      cases r26
      refine Cov.drop 1 0 [] _ rfl rfl ?_
      refine Cov.retS (c := ⟨64, none⟩) (.inr ⟨_, rfl⟩) [.tmp 2] [_] rfl Tryz.func64 Tryz.results64 ⟨RV.tmp rfl, trivial⟩ (fun _ h => List.mem_cons_of_mem _ h) ⟨rfl, rfl, rfl⟩
     ·have r27 := ifBF r22 c25; clear r22
      refine Cov.skip ?_;refine Cov.seq ?_;refine Cov.region rfl ?_;refine Cov.q .ro (.assign rfl) rfl ?_;refine Cov.region_end ?_
      cases r27
      refine Cov.drop 1 0 [] _ rfl rfl ?_
      refine Cov.retS (c := ⟨64, none⟩) (.inr ⟨_, rfl⟩) [.tmp 2] [_] rfl Tryz.func64 Tryz.results64 ⟨RV.tmp rfl, trivial⟩ (fun _ h => List.mem_cons_of_mem _ h) ⟨rfl, rfl, rfl⟩
    ·intro hb19
     refine Cov.split 23 rfl (fun c18 => ?_) (fun c18 => ?_)
     ·have r28 := ifT h21 c18
      refine Cov.g_off rfl rfl rfl ?_;refine Cov.g_off rfl rfl rfl ?_;refine Cov.g_off rfl rfl rfl ?_;refine Cov.g_off rfl rfl rfl ?_;refine Cov.q .ro (.pick_t rfl rfl) rfl ?_
      refine Cov.prune _ ?_ (Cov.same rfl rfl rfl (hb19 () trivial))
      exact ⟨sval r28, trivial⟩
     ·have r29 := ifF h21 c18
      refine Cov.g_on rfl ?_;refine Cov.q .ro (.fieldAddr 1 rfl fl76_1 ty74.sz rfl) rfl ?_;refine Cov.g_on rfl ?_;refine Cov.q .ro (.load_own 0 rfl rfl ty74 rfl) rfl ?_;refine Cov.g_on rfl ?_
      obtain ⟨u30, hu30, r31⟩ := bind_some r29; clear r29
      refine Cov.callS (b1 := []) (b2 := [_]) (s1 := []) [_] [] .ro rfl rfl Tryz.call119 rfl rfl (ref21_ascend_c (G := G) List.mem_cons_self s0_1 hu30) rfl (fun v33 bo so h32 => ?_)
      obtain ⟨rfl, rfl, rfl⟩ := h32
      refine Cov.same (bl' := [_]) (sl' := []) rfl rfl rfl ?_;refine Cov.g_on rfl ?_;refine Cov.q .ro (.not rfl) rfl ?_;refine Cov.q .ro (.pick_f rfl rfl) rfl ?_
      refine Cov.prune _ ?_ (Cov.same rfl rfl rfl (hb19 () trivial))
      exact ⟨sval r31, trivial⟩
   ·intro hb11
    refine Cov.split 17 rfl (fun c10 => ?_) (fun c10 => ?_)
    ·refine Cov.g_off rfl rfl rfl ?_
     refine Cov.g_off rfl rfl rfl ?_;refine Cov.g_off rfl rfl rfl ?_;refine Cov.g_off rfl rfl rfl ?_;refine Cov.q .ro (.pick_t rfl rfl) rfl ?_
     refine Cov.prune _ ?_ (Cov.same rfl rfl rfl (hb11 () trivial))
     exact ⟨dor_t c10, rfl, trivial⟩
    ·refine Cov.g_on rfl ?_
     refine Cov.q .ro (.fieldAddr 1 rfl fl76_1 ty74.sz rfl) rfl ?_;refine Cov.g_on rfl ?_;refine Cov.q .ro (.load_own 0 rfl rfl ty74 rfl) rfl ?_;refine Cov.g_on rfl ?_;refine Cov.q .ro (.len_sl rfl rfl sl74) rfl ?_;refine Cov.g_on rfl ?_;refine Cov.q .ro (.gtr rfl rfl) rfl ?_;refine Cov.q .ro (.pick_f rfl rfl) rfl ?_
     refine Cov.prune _ ?_ (Cov.same rfl rfl rfl (hb11 () trivial))
     exact ⟨dor_f c10, rfl, trivial⟩
  ·intro hb7
   refine Cov.split 11 rfl (fun c6 => ?_) (fun c6 => ?_)
   ·refine Cov.g_off rfl rfl rfl ?_
    refine Cov.g_off rfl rfl rfl ?_;refine Cov.g_off rfl rfl rfl ?_;refine Cov.g_off rfl rfl rfl ?_;refine Cov.q .ro (.pick_t rfl rfl) rfl ?_
    refine Cov.prune _ ?_ (Cov.same rfl rfl rfl (hb7 () trivial))
    exact ⟨dor_t c6, rfl, trivial⟩
   ·refine Cov.g_on rfl ?_
    refine Cov.q .ro (.fieldAddr 1 rfl fl76_1 ty74.sz rfl) rfl ?_;refine Cov.g_on rfl ?_;refine Cov.q .ro (.load_own 0 rfl rfl ty74 rfl) rfl ?_;refine Cov.g_on rfl ?_;refine Cov.q .ro (.len_sl rfl rfl sl74) rfl ?_;refine Cov.g_on rfl ?_;refine Cov.q .ro (.lss rfl rfl) rfl ?_;refine Cov.q .ro (.pick_f rfl rfl) rfl ?_
    refine Cov.prune _ ?_ (Cov.same rfl rfl rfl (hb7 () trivial))
    exact ⟨dor_f c6, rfl, trivial⟩
 ·intro hb3
  refine Cov.split 6 rfl (fun c2 => ?_) (fun c2 => ?_)
  ·refine Cov.g_off rfl rfl rfl ?_
   refine Cov.g_off rfl rfl rfl ?_;refine Cov.g_off rfl rfl rfl ?_;refine Cov.q .ro (.pick_t rfl rfl) rfl ?_
   refine Cov.prune _ ?_ (Cov.same rfl rfl rfl (hb3 () trivial))
   exact ⟨dor_t c2, rfl, trivial⟩
  ·refine Cov.g_on rfl ?_
   refine Cov.q .ro (.fieldAddr 0 rfl fl76_0 ty3.sz rfl) rfl ?_;refine Cov.g_on rfl ?_;refine Cov.q .ro (.load_own 0 rfl rfl ty3 rfl) rfl ?_;refine Cov.g_on rfl ?_;refine Cov.q .ro (.gtr rfl rfl) rfl ?_;refine Cov.q .ro (.pick_f rfl rfl) rfl ?_
   refine Cov.prune _ ?_ (Cov.same rfl rfl rfl (hb3 () trivial))
   exact ⟨dor_f c2, rfl, trivial⟩
set_option maxHeartbeats 4000000 in
set_option maxRecDepth 100000 in
theorem ref21_Steps_c {Fs : List Hp} {G : Hp} {x0 : Int} {x1 : Int} {r : (Int × Int)} (hG : G ∈ Fs)  (h : ref21_Steps x0 x1 = some r) : RetS Tryz.prog 65 #[.int .i64 x0, .int .i64 x1] Fs [] [] (fun v bo so => v = .tuple #[.int .i64 r.1, .int .i64 r.2] ∧ bo = [] ∧ so = []) := by
 unfold ref21_Steps at h
 try dsimp only at h
 refine RetS.of (vs := [_, _]) Tryz.func65 rfl Tryz.ntmps65 [(0, _), (1, _)] ⟨rfl, rfl, trivial⟩ rfl hG fun w0 S0 hS0 B0 => ?_
 refine Cov.seq ?_;refine Cov.region rfl ?_;refine Cov.q .ro (.assign rfl) rfl ?_;refine Cov.q .ro (.assign rfl) rfl ?_;refine Cov.region_end ?_;refine Cov.seq ?_;refine Cov.seq ?_;refine Cov.region rfl ?_;refine Cov.q .ro (.move rfl) rfl ?_
 refine Cov.q .ro (.lss rfl rfl) rfl ?_;refine Cov.q .ro (.move rfl) rfl ?_;refine Cov.cutR 3 (β := Unit) (fun y => [(12, .bool (decide ((x0 < 1) ∨ (256 < x0))))]) [(0, _), (1, _)] (fun y => G :: Fs) (fun y => []) [] (fun y => []) [] (fun y => True) ⟨rfl, rfl, trivial⟩ [] rfl [] rfl ?_ ?_
 ·rintro _ _
  refine Cov.prune [(12, .bool (decide ((x0 < 1) ∨ (256 < x0)))), (0, _), (1, _)] ⟨rfl, rfl, rfl, trivial⟩ ?_;refine Cov.same (bl' := []) (sl' := []) (Fs' := G :: Fs) rfl rfl rfl ?_;refine Cov.q .ro (.move rfl) rfl ?_;refine Cov.cutR 3 (β := Unit) (fun y => [(16, .bool (decide (((x0 < 1) ∨ (256 < x0)) ∨ (x1 < 2))))]) [(0, _), (1, _)] (fun y => G :: Fs) (fun y => []) [] (fun y => []) [] (fun y => True) ⟨rfl, rfl, trivial⟩ [] rfl [] rfl ?_ ?_
  ·rintro _ _
   refine Cov.prune [(16, .bool (decide (((x0 < 1) ∨ (256 < x0)) ∨ (x1 < 2)))), (0, _), (1, _)] ⟨rfl, rfl, rfl, trivial⟩ ?_;refine Cov.same (bl' := []) (sl' := []) (Fs' := G :: Fs) rfl rfl rfl ?_;refine Cov.q .ro (.move rfl) rfl ?_;refine Cov.cutR 3 (β := Unit) (fun y => [(20, .bool (decide ((((x0 < 1) ∨ (256 < x0)) ∨ (x1 < 2)) ∨ (8 < x1))))]) [(0, _), (1, _)] (fun y => G :: Fs) (fun y => []) [] (fun y => []) [] (fun y => True) ⟨rfl, rfl, trivial⟩ [] rfl [] rfl ?_ ?_
   ·rintro _ _
    refine Cov.prune [(20, .bool (decide ((((x0 < 1) ∨ (256 < x0)) ∨ (x1 < 2)) ∨ (8 < x1)))), (0, _), (1, _)] ⟨rfl, rfl, rfl, trivial⟩ ?_;refine Cov.same (bl' := []) (sl' := []) (Fs' := G :: Fs) rfl rfl rfl ?_;refine Cov.region_end ?_
    refine Cov.cond_dec rfl (fun c13 => ?_) (fun c13 => ?_)
    ·have r14 := ifT h c13; clear h
     refine Cov.seq ?_;refine Cov.region rfl ?_;refine Cov.q .ro (.assign rfl) rfl ?_;refine Cov.q .ro (.assign rfl) rfl ?_;refine Cov.region_end ?_
     cases r14
     refine Cov.retS (c := ⟨65, none⟩) (.inr ⟨_, rfl⟩) [.tmp 4, .tmp 5] [_, _] rfl Tryz.func65 Tryz.results65 ⟨RV.tmp rfl, RV.tmp rfl, trivial⟩ (fun _ h => List.mem_cons_of_mem _ h) ⟨rfl, rfl, rfl⟩
    ·have r15 := ifF h c13; clear h
     refine Cov.skip ?_;refine Cov.seq ?_;refine Cov.region rfl ?_;refine Cov.q .ro (.assign rfl) rfl ?_;refine Cov.region_end ?_;refine Cov.seq ?_;refine Cov.block ?_
     refine Cov.loop2 (α := Nat × Int × Int) (fun y => [(0, .int .i64 y.2.1), (6, .int .i64 y.2.2)]) [(1, _)] (fun y => []) (fun y => []) [] (fun y => []) [] (fun y => ref21_Steps_L1 x1 y.1 y.2.1 y.2.2 = some r) (fun y => y.1) (big, x0, 1) r15 ⟨rfl, rfl, rfl, trivial⟩ rfl rfl rfl (fun y hI hb29 => ?_)
     obtain ⟨n24, v26, v27⟩ := y
     have r28 := hI; clear hI
     try dsimp only at r28
     refine Cov.prune [(0, .int .i64 v26), (6, .int .i64 v27), (1, _)] ⟨rfl, rfl, rfl, trivial⟩ ?_;refine Cov.same (bl' := []) (sl' := []) (Fs' := G :: Fs) rfl rfl rfl ?_
     obtain ⟨m32, rfl⟩ : ∃ m, n24 = m + 1 := by cases n24 with | zero => exact absurd (show (none : Option _) = some _ from r28) (by simp) | succ m => exact ⟨m, rfl⟩
     have r31 : ref21_Steps_B1 x1 (ref21_Steps_L1 x1 m32) v26 v27 = some r := r28; clear r28; unfold ref21_Steps_B1 at r31; try dsimp only at r31
     refine Cov.seq ?_;refine Cov.seq ?_;refine Cov.region rfl ?_;refine Cov.q .ro (.move rfl) rfl ?_;refine Cov.q .ro (.move rfl) rfl ?_;refine Cov.q .ro (.gtr rfl rfl) rfl ?_;refine Cov.region_end ?_
     refine Cov.cond_dec rfl (fun c33 => ?_) (fun c33 => ?_)
     ·have r34 := ifT r31 c33; clear r31
      refine Cov.skip ?_;refine Cov.seq ?_;refine Cov.block ?_;refine Cov.region rfl ?_;refine Cov.q .ro (.move rfl) rfl ?_;refine Cov.q .ro (.addw rfl rfl) rfl ?_;refine Cov.q .ro (.assign rfl) rfl ?_;refine Cov.region_end ?_;refine Cov.inBlock ?_
      refine Cov.region rfl ?_;refine Cov.q .ro (.move rfl) rfl ?_;refine Cov.q .ro (.move rfl) rfl ?_;refine Cov.q .ro (.addw rfl rfl) rfl ?_;refine Cov.q .ro (.subw rfl rfl) rfl ?_;refine Cov.q .ro (.move rfl) rfl ?_
      obtain ⟨u35, hu35, r36⟩ := bind_some r34; clear r34
      refine Cov.q .ro (.quow rfl rfl (nz_some hu35)) rfl ?_;refine Cov.q .ro (.assign rfl) rfl ?_;refine Cov.region_end ?_
      refine Cov.prune _ ?_ (Cov.same rfl rfl rfl (hb29 (m32, (w64 (Int.tdiv (w64 ((w64 (v26 + x1)) - 1)) x1)), (w64 (v27 + 1))) r36 (Nat.lt_succ_self _)))
      exact ⟨rfl, rfl, rfl, trivial⟩
     ·have r37 := ifF r31 c33; clear r31
      refine Cov.exit rfl ?_;refine Cov.seq ?_;refine Cov.region rfl ?_;refine Cov.q .ro (.move rfl) rfl ?_;refine Cov.q .ro (.assign rfl) rfl ?_;refine Cov.q .ro (.assign rfl) rfl ?_;refine Cov.region_end ?_
      cases r37
      refine Cov.retS (c := ⟨65, none⟩) (.inr ⟨_, rfl⟩) [.tmp 4, .tmp 5] [_, _] rfl Tryz.func65 Tryz.results65 ⟨RV.tmp rfl, RV.tmp rfl, trivial⟩ (fun _ h => List.mem_cons_of_mem _ h) ⟨rfl, rfl, rfl⟩
   ·intro hb10
    refine Cov.split 17 rfl (fun c9 => ?_) (fun c9 => ?_)
    ·refine Cov.g_off rfl rfl rfl ?_
     refine Cov.g_off rfl rfl rfl ?_;refine Cov.q .ro (.pick_t rfl rfl) rfl ?_
     refine Cov.prune _ ?_ (Cov.same rfl rfl rfl (hb10 () trivial))
     exact ⟨dor_t c9, rfl, rfl, trivial⟩
    ·refine Cov.g_on rfl ?_
     refine Cov.q .ro (.move rfl) rfl ?_;refine Cov.g_on rfl ?_;refine Cov.q .ro (.gtr rfl rfl) rfl ?_;refine Cov.q .ro (.pick_f rfl rfl) rfl ?_
     refine Cov.prune _ ?_ (Cov.same rfl rfl rfl (hb10 () trivial))
     exact ⟨dor_f c9, rfl, rfl, trivial⟩
  ·intro hb6
   refine Cov.split 13 rfl (fun c5 => ?_) (fun c5 => ?_)
   ·refine Cov.g_off rfl rfl rfl ?_
    refine Cov.g_off rfl rfl rfl ?_;refine Cov.q .ro (.pick_t rfl rfl) rfl ?_
    refine Cov.prune _ ?_ (Cov.same rfl rfl rfl (hb6 () trivial))
    exact ⟨dor_t c5, rfl, rfl, trivial⟩
   ·refine Cov.g_on rfl ?_
    refine Cov.q .ro (.move rfl) rfl ?_;refine Cov.g_on rfl ?_;refine Cov.q .ro (.lss rfl rfl) rfl ?_;refine Cov.q .ro (.pick_f rfl rfl) rfl ?_
    refine Cov.prune _ ?_ (Cov.same rfl rfl rfl (hb6 () trivial))
    exact ⟨dor_f c5, rfl, rfl, trivial⟩
 ·intro hb2
  refine Cov.split 9 rfl (fun c1 => ?_) (fun c1 => ?_)
  ·refine Cov.g_off rfl rfl rfl ?_
   refine Cov.g_off rfl rfl rfl ?_;refine Cov.q .ro (.pick_t rfl rfl) rfl ?_
   refine Cov.prune _ ?_ (Cov.same rfl rfl rfl (hb2 () trivial))
   exact ⟨dor_t c1, rfl, rfl, trivial⟩
  ·refine Cov.g_on rfl ?_
   refine Cov.q .ro (.move rfl) rfl ?_;refine Cov.g_on rfl ?_;refine Cov.q .ro (.gtr rfl rfl) rfl ?_;refine Cov.q .ro (.pick_f rfl rfl) rfl ?_
   refine Cov.prune _ ?_ (Cov.same rfl rfl rfl (hb2 () trivial))
   exact ⟨dor_f c1, rfl, rfl, trivial⟩
set_option maxHeartbeats 4000000 in
set_option maxRecDepth 100000 in
theorem ref43_Looks_c {Fs : List Hp} {G : Hp} {x0_0 : Int} {a0_1 : Option Addr} {k0_1 : Nat} {x0_1 : List (Int × Int)} {x1_0 : Int} {a1_1 : Option Addr} {k1_1 : Nat} {x1_1 : List ByteArray} {r : (Int × Int × Int)} (hG : G ∈ Fs) (s0_1 : SlR (Rep.pair (Rep.int .i64) (Rep.int .i64)) G a0_1 k0_1 x0_1) (s1_1 : SlR Rep.str G a1_1 k1_1 x1_1) (h : ref43_Looks (x0_0, x0_1) (x1_0, x1_1) = some r) : RetS Tryz.prog 31 #[.agg #[.int .i64 x0_0, .slice a0_1 x0_1.length k0_1], .agg #[.int .i64 x1_0, .slice a1_1 x1_1.length k1_1]] Fs [] [] (fun v bo so => v = .tuple #[.int .i64 r.1, .int .i64 r.2.1, .int .i64 r.2.2] ∧ bo = [] ∧ so = []) := by
 unfold ref43_Looks at h
 try dsimp only at h
 refine RetS.of (vs := [_, _]) Tryz.func31 rfl Tryz.ntmps31 [(0, _), (1, _)] ⟨rfl, rfl, trivial⟩ rfl hG fun w0 S0 hS0 B0 => ?_
 refine Cov.seq ?_;refine Cov.region rfl ?_
 refine Cov.box [_, _] .ro rfl rfl rfl (fun b1 hb1 => ?_)
 refine Cov.box [_, _] .ro rfl rfl rfl (fun b2 hb2 => ?_)
 refine Cov.q .ro (.assign rfl) rfl ?_;refine Cov.q .ro (.assign rfl) rfl ?_;refine Cov.q .ro (.assign rfl) rfl ?_;refine Cov.region_end ?_;refine Cov.seq ?_;refine Cov.seq ?_;refine Cov.region rfl ?_;refine Cov.q .ro (.load_own_a 1 [_, _] rfl rfl ty73 rfl) rfl ?_
 obtain ⟨u3, hu3, r4⟩ := bind_some h; clear h
 refine Cov.callS (b1 := []) (b2 := [_, _]) (s1 := []) [_] [] .ro rfl rfl Tryz.call63 rfl rfl (ref19_Check_c (G := G) List.mem_cons_self s0_1 hu3) rfl (fun v6 bo so h5 => ?_)
 obtain ⟨rfl, rfl, rfl⟩ := h5
 refine Cov.same (bl' := [_, _]) (sl' := []) rfl rfl rfl ?_;refine Cov.q .ro (.assign rfl) rfl ?_;refine Cov.region_end ?_;refine Cov.seq ?_;refine Cov.region rfl ?_;refine Cov.q .ro (.move rfl) rfl ?_;refine Cov.q .ro (.neq rfl rfl) rfl ?_;refine Cov.region_end ?_
 refine Cov.cond_dec rfl (fun c7 => ?_) (fun c7 => ?_)
 ·have r8 := ifT r4 c7; clear r4
  refine Cov.seq ?_;refine Cov.region rfl ?_;refine Cov.q .ro (.move rfl) rfl ?_;refine Cov.q .ro (.assign rfl) rfl ?_;refine Cov.q .ro (.assign rfl) rfl ?_;refine Cov.q .ro (.assign rfl) rfl ?_;refine Cov.region_end ?_
  cases r8
  refine Cov.drop 2 0 [] _ rfl rfl ?_
  refine Cov.retS (c := ⟨31, none⟩) (.inr ⟨_, rfl⟩) [.tmp 4, .tmp 5, .tmp 6] [_, _, _] rfl Tryz.func31 Tryz.results31 ⟨RV.tmp rfl, RV.tmp rfl, RV.tmp rfl, trivial⟩ (fun _ h => List.mem_cons_of_mem _ h) ⟨rfl, rfl, rfl⟩
 ·have r9 := ifF r4 c7; clear r4
  refine Cov.skip ?_;refine Cov.seq ?_;refine Cov.seq ?_;refine Cov.region rfl ?_;refine Cov.q .ro (.load_own_a 0 [_, _] rfl rfl ty76 rfl) rfl ?_
  obtain ⟨u10, hu10, r11⟩ := bind_some r9; clear r9
  refine Cov.callS (b1 := []) (b2 := [_, _]) (s1 := []) [_] [] .ro rfl rfl Tryz.call64 rfl rfl (ref21_Check_c (G := G) List.mem_cons_self s1_1 hu10) rfl (fun v13 bo so h12 => ?_)
  obtain ⟨rfl, rfl, rfl⟩ := h12
  refine Cov.same (bl' := [_, _]) (sl' := []) rfl rfl rfl ?_;refine Cov.q .ro (.assign rfl) rfl ?_;refine Cov.region_end ?_;refine Cov.seq ?_;refine Cov.region rfl ?_;refine Cov.q .ro (.move rfl) rfl ?_;refine Cov.q .ro (.neq rfl rfl) rfl ?_;refine Cov.region_end ?_;refine Cov.prune [(2, _), (3, _), (8, _), (19, _)] ⟨rfl, rfl, rfl, rfl, trivial⟩ ?_
  refine Cov.cond_dec rfl (fun c14 => ?_) (fun c14 => ?_)
  ·have r15 := ifT r11 c14; clear r11
   refine Cov.seq ?_;refine Cov.region rfl ?_;refine Cov.q .ro (.move rfl) rfl ?_;refine Cov.q .ro (.assign rfl) rfl ?_;refine Cov.q .ro (.assign rfl) rfl ?_;refine Cov.q .ro (.assign rfl) rfl ?_;refine Cov.region_end ?_
   cases r15
   refine Cov.drop 2 0 [] _ rfl rfl ?_
   refine Cov.retS (c := ⟨31, none⟩) (.inr ⟨_, rfl⟩) [.tmp 4, .tmp 5, .tmp 6] [_, _, _] rfl Tryz.func31 Tryz.results31 ⟨RV.tmp rfl, RV.tmp rfl, RV.tmp rfl, trivial⟩ (fun _ h => List.mem_cons_of_mem _ h) ⟨rfl, rfl, rfl⟩
  ·have r16 := ifF r11 c14; clear r11
   refine Cov.skip ?_;refine Cov.seq ?_;refine Cov.region rfl ?_;refine Cov.q .ro (.fieldAddr 1 rfl fl76_1 ty74.sz rfl) rfl ?_;refine Cov.q .ro (.load_own 0 rfl rfl ty74 rfl) rfl ?_;refine Cov.q .ro (.len_sl rfl rfl sl74) rfl ?_;refine Cov.q .ro (.fieldAddr 0 rfl fl76_0 ty3.sz rfl) rfl ?_;refine Cov.q .ro (.load_own 0 rfl rfl ty3 rfl) rfl ?_
   obtain ⟨u17, hu17, r18⟩ := bind_some r16; clear r16
   refine Cov.callS (b1 := []) (b2 := [_, _]) (s1 := []) [_, _] [] .ro rfl rfl Tryz.call65 rfl rfl (ref21_Steps_c (G := G) List.mem_cons_self  hu17) rfl (fun v20 bo so h19 => ?_)
   obtain ⟨rfl, rfl, rfl⟩ := h19
   refine Cov.same (bl' := [_, _]) (sl' := []) rfl rfl rfl ?_;refine Cov.q .ro (.move rfl) rfl ?_;refine Cov.q .ro (.extract rfl rfl) rfl ?_;refine Cov.q .ro (.extract rfl rfl) rfl ?_;refine Cov.q .ro (.assign rfl) rfl ?_;refine Cov.q .ro (.assign rfl) rfl ?_;refine Cov.region_end ?_;refine Cov.prune [(2, _), (9, _)] ⟨rfl, rfl, trivial⟩ ?_;refine Cov.seq ?_
   refine Cov.region rfl ?_;refine Cov.q .ro (.fieldAddr 1 rfl fl73_1 ty71.sz rfl) rfl ?_;refine Cov.q .ro (.load_own 1 rfl rfl ty71 rfl) rfl ?_;refine Cov.q .ro (.len_sl rfl rfl sl71) rfl ?_;refine Cov.q .ro (.move rfl) rfl ?_;refine Cov.q .ro (.assign rfl) rfl ?_;refine Cov.q .ro (.assign rfl) rfl ?_;refine Cov.q .ro (.assign rfl) rfl ?_;refine Cov.region_end ?_
   cases r18
   refine Cov.drop 2 0 [] _ rfl rfl ?_
   refine Cov.retS (c := ⟨31, none⟩) (.inr ⟨_, rfl⟩) [.tmp 4, .tmp 5, .tmp 6] [_, _, _] rfl Tryz.func31 Tryz.results31 ⟨RV.tmp rfl, RV.tmp rfl, RV.tmp rfl, trivial⟩ (fun _ h => List.mem_cons_of_mem _ h) ⟨rfl, rfl, rfl⟩
end Go.Proofs.YtnfalgmfmiolbaaGreat
end

section
namespace Go.Proofs.YtnfalgmfmiolbaaGreat
open Go.RowKit
set_option linter.unusedSimpArgs false
set_option linter.unusedVariables false
set_option synthInstance.maxSize 2000
set_option synthInstance.maxHeartbeats 400000
set_option maxHeartbeats 4000000 in
set_option maxRecDepth 100000 in
theorem law43_BoundsSteps_c {Fs : List Hp} {G : Hp} {a0 : Option Addr} {k0 : Nat} {x0 : List Int} {x1_0 : Int} {x1_1 : Int} {x1_2 : Int} {x1_3 : Int} {x2_0 : Int} {x3 : Int} {x4 : Int} {x5 : Int} {x6 : Int} {x7_0 : Int} {a7_1 : Option Addr} {k7_1 : Nat} {x7_1 : List (Int × Int)} {x8_0 : Int} {a8_1 : Option Addr} {k8_1 : Nat} {x8_1 : List ByteArray} {r : Bool} (hG : G ∈ Fs) (s0 : SlR (Rep.int .u8) G a0 k0 x0) (s7_1 : SlR (Rep.pair (Rep.int .i64) (Rep.int .i64)) G a7_1 k7_1 x7_1) (s8_1 : SlR Rep.str G a8_1 k8_1 x8_1) (h : law43_BoundsSteps x0 (x1_0, x1_1, x1_2, x1_3) x2_0 x3 x4 x5 x6 (x7_0, x7_1) (x8_0, x8_1) = some r) : RetS Tryz.prog 4 #[.slice a0 x0.length k0, .agg #[.int .i64 x1_0, .int .i64 x1_1, .int .i64 x1_2, .int .i64 x1_3], .agg #[.int .i64 x2_0], .int .i64 x3, .int .i64 x4, .int .i64 x5, .int .i64 x6, .agg #[.int .i64 x7_0, .slice a7_1 x7_1.length k7_1], .agg #[.int .i64 x8_0, .slice a8_1 x8_1.length k8_1]] Fs [] [] (fun v bo so => v = .bool r ∧ bo = [] ∧ so = []) := by
 unfold law43_BoundsSteps at h
 try dsimp only at h
 refine RetS.of (vs := [_, _, _, _, _, _, _, _, _]) Tryz.func4 rfl Tryz.ntmps4 [(0, _), (1, _), (2, _), (3, _), (4, _), (5, _), (6, _), (7, _), (8, _)] ⟨rfl, rfl, rfl, rfl, rfl, rfl, rfl, rfl, rfl, trivial⟩ rfl hG fun w0 S0 hS0 B0 => ?_
 refine Cov.seq ?_;refine Cov.region rfl ?_
 refine Cov.box [_, _, _, _] .ro rfl rfl rfl (fun b1 hb1 => ?_)
 refine Cov.box [_] .ro rfl rfl rfl (fun b2 hb2 => ?_)
 refine Cov.box [_, _] .ro rfl rfl rfl (fun b3 hb3 => ?_)
 refine Cov.box [_, _] .ro rfl rfl rfl (fun b4 hb4 => ?_)
 refine Cov.q .ro (.assign rfl) rfl ?_;refine Cov.region_end ?_;refine Cov.seq ?_;refine Cov.seq ?_;refine Cov.region rfl ?_
 obtain ⟨u5, hu5, r6⟩ := bind_some h; clear h
 refine Cov.callS (b1 := []) (b2 := [_, _, _, _]) (s1 := []) [] [] .ro rfl rfl Tryz.call5 rfl rfl (law43_sane_c (G := G) List.mem_cons_self  hu5) rfl (fun v8 bo so h7 => ?_)
 obtain ⟨rfl, rfl, rfl⟩ := h7
 refine Cov.same (bl' := [_, _, _, _]) (sl' := []) rfl rfl rfl ?_;refine Cov.q .ro (.not rfl) rfl ?_;refine Cov.region_end ?_
 refine Cov.cond rfl (fun c9 => ?_) (fun c9 => ?_)
 ·have r10 := ifT r6 c9; clear r6
  refine Cov.seq ?_;refine Cov.region rfl ?_;refine Cov.q .ro (.assign rfl) rfl ?_;refine Cov.region_end ?_;refine Cov.prune [(18, _)] ⟨rfl, trivial⟩ ?_
  cases r10
  refine Cov.drop 4 0 [] _ rfl rfl ?_
  refine Cov.retS (c := ⟨4, none⟩) (.inr ⟨_, rfl⟩) [.tmp 18] [_] rfl Tryz.func4 Tryz.results4 ⟨RV.tmp rfl, trivial⟩ (fun _ h => List.mem_cons_of_mem _ h) ⟨rfl, rfl, rfl⟩
 ·have r11 := ifBF r6 c9; clear r6
  refine Cov.skip ?_;refine Cov.seq ?_;refine Cov.seq ?_;refine Cov.region rfl ?_;refine Cov.q .ro (.fieldAddr 1 rfl fl73_1 ty71.sz rfl) rfl ?_;refine Cov.q .ro (.load_own 1 rfl rfl ty71 rfl) rfl ?_;refine Cov.q .ro (.len_sl rfl rfl sl71) rfl ?_;refine Cov.q .ro (.gtr rfl rfl) rfl ?_;refine Cov.q .ro (.move rfl) rfl ?_
  refine Cov.cutR 5 (β := Unit) (fun y => [(68, .bool (decide ((5 < (x7_1.length : Int)) ∨ (12 < (x8_1.length : Int)))))]) [(0, _), (3, _), (4, _), (5, _), (6, _), (10, _), (11, _), (16, _), (17, _)] (fun y => G :: Fs) (fun y => []) [_, _, _, _] (fun y => []) [] (fun y => True) ⟨rfl, rfl, rfl, rfl, rfl, rfl, rfl, rfl, rfl, trivial⟩ [0, 1, 2, 3] rfl [] rfl ?_ ?_
  ·rintro _ _
   refine Cov.prune [(68, .bool (decide ((5 < (x7_1.length : Int)) ∨ (12 < (x8_1.length : Int))))), (0, _), (3, _), (4, _), (5, _), (6, _), (10, _), (11, _), (16, _), (17, _)] ⟨rfl, rfl, rfl, rfl, rfl, rfl, rfl, rfl, rfl, rfl, trivial⟩ ?_;refine Cov.same (bl' := [_, _, _, _]) (sl' := []) (Fs' := G :: Fs) rfl rfl rfl ?_;refine Cov.region_end ?_
   refine Cov.cond_dec rfl (fun c16 => ?_) (fun c16 => ?_)
   ·have r17 := ifT r11 c16; clear r11
    refine Cov.seq ?_;refine Cov.region rfl ?_;refine Cov.q .ro (.assign rfl) rfl ?_;refine Cov.region_end ?_
    cases r17
    refine Cov.drop 4 0 [] _ rfl rfl ?_
    refine Cov.retS (c := ⟨4, none⟩) (.inr ⟨_, rfl⟩) [.tmp 18] [_] rfl Tryz.func4 Tryz.results4 ⟨RV.tmp rfl, trivial⟩ (fun _ h => List.mem_cons_of_mem _ h) ⟨rfl, rfl, rfl⟩
   ·have r18 := ifF r11 c16; clear r11
    refine Cov.skip ?_;refine Cov.seq ?_;refine Cov.region rfl ?_;refine Cov.q .ro (.move rfl) rfl ?_
    obtain ⟨u19, hu19, r20⟩ := bind_some r18; clear r18
    refine Cov.callS (b1 := []) (b2 := [_, _, _, _]) (s1 := []) [_] [] .ro rfl rfl Tryz.call6 rfl rfl (play_New_c (G := G) List.mem_cons_self s0 hu19) rfl (fun v22 bo so h21 => ?_)
    obtain ⟨a24, k25, b23, rfl, rfl, rfl, s26⟩ := h21
    refine Cov.same (bl' := [_, _, _, _, _]) (sl' := []) rfl rfl rfl ?_;refine Cov.q .ro (.assign rfl) rfl ?_;refine Cov.region_end ?_;refine Cov.seq ?_;refine Cov.region rfl ?_;refine Cov.q .ro (.move rfl) rfl ?_
    obtain ⟨u27, hu27, r28⟩ := bind_some r20; clear r20
    refine Cov.callS (b1 := []) (b2 := [_, _, _, _, _]) (s1 := []) [_, _] [] .ro rfl rfl Tryz.call15 rfl rfl (play_Mod_c (G := G) List.mem_cons_self  hu27) rfl (fun v30 bo so h29 => ?_)
    obtain ⟨rfl, rfl, rfl⟩ := h29
    refine Cov.same (bl' := [_, _, _, _, _]) (sl' := []) rfl rfl rfl ?_;refine Cov.q .ro (.addw rfl rfl) rfl ?_;refine Cov.q .ro (.move rfl) rfl ?_
    obtain ⟨u31, hu31, r32⟩ := bind_some r28; clear r28
    refine Cov.callS (b1 := []) (b2 := [_, _, _, _, _]) (s1 := []) [_, _] [] .ro rfl rfl Tryz.call15 rfl rfl (play_Mod_c (G := G) List.mem_cons_self  hu31) rfl (fun v34 bo so h33 => ?_)
    obtain ⟨rfl, rfl, rfl⟩ := h33
    refine Cov.same (bl' := [_, _, _, _, _]) (sl' := []) rfl rfl rfl ?_;refine Cov.q .ro (.addw rfl rfl) rfl ?_;refine Cov.q .ro (.assign rfl) rfl ?_;refine Cov.q .ro (.assign rfl) rfl ?_;refine Cov.region_end ?_;refine Cov.seq ?_;refine Cov.region rfl ?_;refine Cov.q .ro (.move rfl) rfl ?_
    obtain ⟨u35, hu35, r36⟩ := bind_some r32; clear r32
    refine Cov.callS (b1 := [_]) (b2 := [_, _, _, _]) (s1 := []) [_] [] .ro rfl rfl Tryz.call16 rfl rfl (play_Dice_Scheme_c (G := G) List.mem_cons_self s26 hu35) rfl (fun v38 bo so h37 => ?_)
    obtain ⟨a39, k40, rfl, rfl, rfl, s41⟩ := h37
    refine Cov.same (bl' := [_, _, _, _, _]) (sl' := []) rfl rfl rfl ?_
    refine Cov.alloc .ro ty27 rfl (fun b42 hb42 => ?_)
    refine Cov.store 0 [_, _, _, _] [_, _, _, _, _, _] .ro rfl rfl rfl ty27 rfl rfl rfl rfl ?_;refine Cov.region_end ?_;refine Cov.seq ?_;refine Cov.seq ?_;refine Cov.drawL (.q 0 (.q 1 (.q 3 (.q 4 (.e 2 1 (.e 5 1 (.q 6 (.q 7 (.q 8 (.q 9 (.q 10 (.q 12 (.q 13 (.q 14 (.e 11 1 (.e 15 1 (.q 16 (.q 17 (.q 18 (.q 19 (.q 20 (.q 21 (.q 23 (.q 24 (.q 25 (.e 22 1 (.e 26 1 (.q 27 (.q 28 .nil))))))))))))))))))))))))))))) [_, _, _, _, _, _] (by kernel_rfl) (by kernel_rfl) (pick_mem [0, 1, 2, 3, 4, 5] rfl) ?_;refine Cov.dq (.load_own_a 0 [_, _, _, _] rfl rfl ty27 rfl) rfl ?_;refine Cov.dq (.move rfl) rfl ?_;refine Cov.dq (.load_own_a 0 [_, _, _, _] rfl rfl ty27 rfl) rfl ?_;refine Cov.dq (.move rfl) rfl ?_
    obtain ⟨u43, hu43, r44⟩ := bind_some r36; clear r36
    refine Cov.callS (b1 := []) (b2 := [_, _, _, _, _, _]) (s1 := []) [_, _] [] .d1 rfl rfl Tryz.call13 rfl rfl (bounds_Notes_c (G := G) List.mem_cons_self  hu43) rfl (fun v46 bo so h45 => ?_)
    obtain ⟨rfl, rfl, rfl⟩ := h45
    refine Cov.same (bl' := [_, _, _, _, _, _]) (sl' := []) rfl rfl rfl ?_;refine Cov.clsL (HpLe.refl _) (pick_mem [0, 1, 2, 3, 4, 5] rfl) ?_
    obtain ⟨u47, hu47, r48⟩ := bind_some r44; clear r44
    refine Cov.callS (b1 := []) (b2 := [_, _, _, _, _, _]) (s1 := []) [_, _] [] .d1 rfl rfl Tryz.call17 rfl rfl (ref43_Notes_c (G := G) List.mem_cons_self  hu47) rfl (fun v50 bo so h49 => ?_)
    obtain ⟨rfl, rfl, rfl⟩ := h49
    refine Cov.same (bl' := [_, _, _, _, _, _]) (sl' := []) rfl rfl rfl ?_;refine Cov.clsL (HpLe.refl _) (pick_mem [0, 1, 2, 3, 4, 5] rfl) ?_;refine Cov.dq (.neq rfl rfl) rfl ?_;refine Cov.dq (.move rfl) rfl ?_
    obtain ⟨u61, h62, r63⟩ := bind_some r48; clear r48
    refine Cov.cutD 10 (β := Unit) (fun y => [(96, .bool u61)]) [(3, _), (4, _), (5, _), (6, _), (10, _), (11, _), (16, _), (17, _), (19, _), (20, _), (21, _), (22, _)] (fun y => G :: Fs) (fun y => []) [_, _, _, _, _, _] (fun y => []) [] (fun y => True) ⟨rfl, rfl, rfl, rfl, rfl, rfl, rfl, rfl, rfl, rfl, rfl, rfl, trivial⟩ [0, 1, 2, 3, 4, 5] rfl [] rfl ?_ ?_
    ·rintro _ _
     refine Cov.prune [(96, .bool u61), (3, _), (4, _), (5, _), (6, _), (10, _), (11, _), (16, _), (17, _), (19, _), (20, _), (21, _), (22, _)] ⟨rfl, rfl, rfl, rfl, rfl, rfl, rfl, rfl, rfl, rfl, rfl, rfl, rfl, trivial⟩ ?_;refine Cov.same (bl' := [_, _, _, _, _, _]) (sl' := []) (Fs' := G :: Fs) rfl rfl rfl ?_;refine Cov.dq (.move rfl) rfl ?_
     obtain ⟨u76, h77, r78⟩ := bind_some r63; clear r63
     refine Cov.cutD 10 (β := Unit) (fun y => [(107, .bool u76)]) [(3, _), (4, _), (5, _), (6, _), (10, _), (11, _), (16, _), (17, _), (19, _), (22, _)] (fun y => G :: Fs) (fun y => []) [_, _, _, _, _, _] (fun y => []) [] (fun y => True) ⟨rfl, rfl, rfl, rfl, rfl, rfl, rfl, rfl, rfl, rfl, trivial⟩ [0, 1, 2, 3, 4, 5] rfl [] rfl ?_ ?_
     ·rintro _ _
      refine Cov.prune [(107, .bool u76), (3, _), (4, _), (5, _), (6, _), (10, _), (11, _), (16, _), (17, _), (19, _), (22, _)] ⟨rfl, rfl, rfl, rfl, rfl, rfl, rfl, rfl, rfl, rfl, rfl, trivial⟩ ?_;refine Cov.same (bl' := [_, _, _, _, _, _]) (sl' := []) (Fs' := G :: Fs) rfl rfl rfl ?_;refine Cov.draw_end ?_
      refine Cov.cond rfl (fun c81 => ?_) (fun c81 => ?_)
      ·have r82 := ifT r78 c81; clear r78
       refine Cov.seq ?_;refine Cov.region rfl ?_;refine Cov.q .ro (.assign rfl) rfl ?_;refine Cov.region_end ?_
       cases r82
       refine Cov.drop 6 0 [] _ rfl rfl ?_
       refine Cov.retS (c := ⟨4, none⟩) (.inr ⟨_, rfl⟩) [.tmp 18] [_] rfl Tryz.func4 Tryz.results4 ⟨RV.tmp rfl, trivial⟩ (fun _ h => List.mem_cons_of_mem _ h) ⟨rfl, rfl, rfl⟩
      ·have r83 := ifBF r78 c81; clear r78
       refine Cov.skip ?_;refine Cov.seq ?_;refine Cov.seq ?_;refine Cov.drawL (.q 0 (.q 1 (.q 2 (.q 6 (.e 3 1 (.e 4 1 (.q 5 .nil))))))) [_, _, _, _, _] (by kernel_rfl) (by kernel_rfl) (pick_mem [0, 2, 3, 4, 5] rfl) ?_;refine Cov.dq (.load_own_a 0 [_, _, _, _] rfl rfl ty27 rfl) rfl ?_;refine Cov.dq (.load_own_a 4 [_, _, _, _] rfl rfl ty27 rfl) rfl ?_;refine Cov.dq (.move rfl) rfl ?_;refine Cov.dq (.move rfl) rfl ?_
       obtain ⟨u84, hu84, r85⟩ := bind_some r83; clear r83
       refine Cov.pull 1 rfl [_, _, _, _, _, _] rfl ?_
       refine Cov.callS (b1 := [_]) (b2 := [_, _, _, _, _]) (s1 := []) [_] [] .d1 rfl rfl Tryz.call21 rfl rfl (play_Dice_Odd_c (G := G) List.mem_cons_self s41 hu84) rfl (fun v87 bo so h86 => ?_)
       obtain ⟨a88, k89, rfl, rfl, rfl, s90⟩ := h86
       refine Cov.same (bl' := [_, _, _, _, _, _]) (sl' := []) rfl rfl rfl ?_;refine Cov.clsL (HpLe.refl _) (pick_mem [1, 2, 3, 4, 5] rfl) ?_
       refine Cov.lit [_, _, _, _, _, _, _, _, _, _, _, _] [(0, _), (1, _), (2, _)] .d1 sl79 ty27 rfl rfl rfl rfl rfl rfl (fun b91 hb91 => ?_)
       have o92 : OL (Rep.pair (Rep.int .i64) (Rep.pair (Rep.int .i64) (Rep.pair (Rep.int .i64) (Rep.int .i64)))) G [.int .i64 u35.1.1, .int .i64 u35.1.2.1, .int .i64 u35.1.2.2.1, .int .i64 u35.1.2.2.2, .int .i64 x1_0, .int .i64 x1_1, .int .i64 x1_2, .int .i64 x1_3, .int .i64 u84.1.1, .int .i64 u84.1.2.1, .int .i64 u84.1.2.2.1, .int .i64 u84.1.2.2.2] ([u35.1, (x1_0, x1_1, x1_2, x1_3), u84.1] : List (Int × Int × Int × Int)) := ((OL.cons rfl (Rep.pairI (Rep.intI .i64 u35.1.1) (Rep.pairI (Rep.intI .i64 u35.1.2.1) (Rep.pairI (Rep.intI .i64 u35.1.2.2.1) (Rep.intI .i64 u35.1.2.2.2)))) (OL.cons rfl (Rep.pairI (Rep.intI .i64 x1_0) (Rep.pairI (Rep.intI .i64 x1_1) (Rep.pairI (Rep.intI .i64 x1_2) (Rep.intI .i64 x1_3)))) (OL.cons rfl (Rep.pairI (Rep.intI .i64 u84.1.1) (Rep.pairI (Rep.intI .i64 u84.1.2.1) (Rep.pairI (Rep.intI .i64 u84.1.2.2.1) (Rep.intI .i64 u84.1.2.2.2)))) (OL.nil (Rp' := (Rep.pair (Rep.int .i64) (Rep.pair (Rep.int .i64) (Rep.pair (Rep.int .i64) (Rep.int .i64))))))))) :)
       refine Cov.reval 112 (n' := ([u35.1, (x1_0, x1_1, x1_2, x1_3), u84.1] : List (Int × Int × Int × Int)).length) rfl rfl ?_;refine Cov.clsL (HpLe.refl _) (pick_mem [1, 2, 3, 4, 5] rfl) ?_;refine Cov.dq (.len_sl rfl rfl sl79) rfl ?_;refine Cov.draw_end ?_;refine Cov.cutB (β := Hp × List Int × Option Addr × Nat × Int × Int × Int × Int × Int × Int × Int × Int × Int × Int × Int × Int) (fun y => []) [(3, _), (6, _), (16, _), (17, _), (19, _)] (fun y => y.1 :: Fs) (fun y => [(b23, .cells #[.slice y.2.2.1 y.2.1.length y.2.2.2.1, .int .i64 y.2.2.2.2.1] 97 (0, 0)), (b42, .cells #[.int .i64 y.2.2.2.2.2.1, .int .i64 y.2.2.2.2.2.2.1, .int .i64 y.2.2.2.2.2.2.2.1, .int .i64 y.2.2.2.2.2.2.2.2.1] 27 (0, 0)), (b4, .cells #[.int .i64 y.2.2.2.2.2.2.2.2.2.1, .slice a8_1 x8_1.length k8_1] 76 (0, 0)), (b3, .cells #[.int .i64 y.2.2.2.2.2.2.2.2.2.2.1, .slice a7_1 x7_1.length k7_1] 73 (0, 0)), (b2, .cells #[.int .i64 y.2.2.2.2.2.2.2.2.2.2.2.1] 49 (0, 0)), (b1, .cells #[.int .i64 y.2.2.2.2.2.2.2.2.2.2.2.2.1, .int .i64 y.2.2.2.2.2.2.2.2.2.2.2.2.2.1, .int .i64 y.2.2.2.2.2.2.2.2.2.2.2.2.2.2.1, .int .i64 y.2.2.2.2.2.2.2.2.2.2.2.2.2.2.2] 27 (0, 0))]) [] (fun y => []) [_] (fun y => HpLe G y.1 ∧ Bd w0 S0 Fs y.1 ∧ SlR (Rep.int .u8) y.1 y.2.2.1 y.2.2.2.1 y.2.1 ∧ (law43_BoundsSteps_J5 x3 x6 x8_1 x7_1) y.2.1 y.2.2.2.2.1 y.2.2.2.2.2.1 y.2.2.2.2.2.2.1 y.2.2.2.2.2.2.2.1 y.2.2.2.2.2.2.2.2.1 y.2.2.2.2.2.2.2.2.2.1 y.2.2.2.2.2.2.2.2.2.2.1 y.2.2.2.2.2.2.2.2.2.2.2.1 y.2.2.2.2.2.2.2.2.2.2.2.2.1 y.2.2.2.2.2.2.2.2.2.2.2.2.2.1 y.2.2.2.2.2.2.2.2.2.2.2.2.2.2.1 y.2.2.2.2.2.2.2.2.2.2.2.2.2.2.2 = some r) ⟨rfl, rfl, rfl, rfl, rfl, trivial⟩ [] rfl [0] rfl ?_ ?_
       ·intro y hI
        obtain ⟨G1316, v1320, a1321, k1322, v1324, v1325, v1326, v1327, v1328, v1329, v1330, v1331, v1332, v1333, v1334, v1335⟩ := y
        obtain ⟨e1317, B1318, s1323, r1337⟩ := hI
        try dsimp only at e1317 B1318 s1323 r1337
        refine Cov.prune [(3, _), (6, _), (16, _), (17, _), (19, _)] ⟨rfl, rfl, rfl, rfl, rfl, trivial⟩ ?_;refine Cov.same (bl' := [(b23, .cells #[.slice a1321 v1320.length k1322, .int .i64 v1324] 97 (0, 0)), (b42, .cells #[.int .i64 v1325, .int .i64 v1326, .int .i64 v1327, .int .i64 v1328] 27 (0, 0)), (b4, .cells #[.int .i64 v1329, .slice a8_1 x8_1.length k8_1] 76 (0, 0)), (b3, .cells #[.int .i64 v1330, .slice a7_1 x7_1.length k7_1] 73 (0, 0)), (b2, .cells #[.int .i64 v1331] 49 (0, 0)), (b1, .cells #[.int .i64 v1332, .int .i64 v1333, .int .i64 v1334, .int .i64 v1335] 27 (0, 0))]) (sl' := [_]) (Fs' := G1316 :: Fs) rfl rfl rfl ?_
        unfold law43_BoundsSteps_J5 at r1337
        try dsimp only at r1337
        refine Cov.seq ?_;refine Cov.seq ?_;refine Cov.drawL (.q 0 (.q 1 (.q 5 (.e 2 1 (.e 3 1 (.q 4 .nil)))))) [_, _, _, _, _] (by kernel_rfl) (by kernel_rfl) (pick_mem [1, 2, 3, 4, 5] rfl) ?_;refine Cov.dq (.load_own_a 2 [_, _] rfl rfl ty73 rfl) rfl ?_;refine Cov.dq (.move rfl) rfl ?_;refine Cov.dq (.move rfl) rfl ?_
        obtain ⟨u1343, hu1343, r1344⟩ := bind_some r1337; clear r1337
        refine Cov.callW (b1 := [_]) (b2 := [_, _, _, _, _]) (s1 := []) [_] [] .d1 rfl rfl Tryz.call24 rfl rfl (play_Dice_Hashing_c (G := G1316) List.mem_cons_self s1323 hu1343) rfl B1318 (fun v1346 bo so G1347 e1348 B1349 h1345 => ?_)
        obtain ⟨a1351, k1352, a1354, k1355, rfl, rfl, rfl, s1353, s1356⟩ := h1345
        refine Cov.same (bl' := [_, _, _, _, _, _]) (sl' := [_]) rfl rfl rfl ?_;refine Cov.clsL e1348 (pick_mem [1, 2, 3, 4, 5] rfl) ?_
        refine Cov.lit [_, _, _, _] [(0, _), (1, _)] .d1 sl83 ty73 rfl rfl rfl rfl rfl rfl (fun b1357 hb1357 => ?_)
        have o1358 : OL (Rep.pair (Rep.int .i64) (Rep.sl (Rep.pair (Rep.int .i64) (Rep.int .i64)))) G1347 [.int .i64 v1330, .slice a7_1 x7_1.length k7_1, .int .i64 u1343.1.1, .slice a1351 u1343.1.2.length k1352] ([(v1330, x7_1), u1343.1] : List (Int × (List (Int × Int)))) := ((OL.cons rfl (Rep.pairI (Rep.intI .i64 v1330) (Rep.slI (SlR.mono (HpLe.trans e1317 e1348) s7_1))) (OL.cons rfl (Rep.pairI (Rep.intI .i64 u1343.1.1) (Rep.slI s1353)) (OL.nil (Rp' := (Rep.pair (Rep.int .i64) (Rep.sl (Rep.pair (Rep.int .i64) (Rep.int .i64)))))))) :)
        refine Cov.reval 215 (n' := ([(v1330, x7_1), u1343.1] : List (Int × (List (Int × Int)))).length) rfl rfl ?_;refine Cov.clsL e1348 (pick_mem [1, 2, 3, 4, 5] rfl) ?_;refine Cov.dq (.len_sl rfl rfl sl83) rfl ?_;refine Cov.draw_end ?_;refine Cov.block ?_;refine Cov.pull 5 rfl [_, _, _, _, _, _] rfl ?_;refine Cov.pull 5 rfl [_, _, _, _, _, _] rfl ?_;refine Cov.pull 5 rfl [_, _, _, _, _, _] rfl ?_;refine Cov.pull 5 rfl [_, _, _, _, _, _] rfl ?_
        refine Cov.pull 5 rfl [_, _, _, _, _, _] rfl ?_;refine Cov.pull 5 rfl [_, _, _, _, _, _] rfl ?_
        refine Cov.loop2 (α := Nat × (List (Int × (List (Int × Int)))) × Hp × List Int × Option Addr × Nat × Int × Int × Int × Int × Int × Int × Int × Int × Int × Int × Int × Int) (fun y => [(217, .int .i64 (y.1 : Int))]) [(3, _), (6, _), (17, _), (19, _), (215, _), (216, _)] (fun y => [y.2.2.1]) (fun y => [(b23, .cells #[.slice y.2.2.2.2.1 y.2.2.2.1.length y.2.2.2.2.2.1, .int .i64 y.2.2.2.2.2.2.1] 97 (0, 0)), (b42, .cells #[.int .i64 y.2.2.2.2.2.2.2.1, .int .i64 y.2.2.2.2.2.2.2.2.1, .int .i64 y.2.2.2.2.2.2.2.2.2.1, .int .i64 y.2.2.2.2.2.2.2.2.2.2.1] 27 (0, 0)), (b4, .cells #[.int .i64 y.2.2.2.2.2.2.2.2.2.2.2.1, .slice a8_1 x8_1.length k8_1] 76 (0, 0)), (b3, .cells #[.int .i64 y.2.2.2.2.2.2.2.2.2.2.2.2.1, .slice a7_1 x7_1.length k7_1] 73 (0, 0)), (b2, .cells #[.int .i64 y.2.2.2.2.2.2.2.2.2.2.2.2.2.1] 49 (0, 0)), (b1, .cells #[.int .i64 y.2.2.2.2.2.2.2.2.2.2.2.2.2.2.1, .int .i64 y.2.2.2.2.2.2.2.2.2.2.2.2.2.2.2.1, .int .i64 y.2.2.2.2.2.2.2.2.2.2.2.2.2.2.2.2.1, .int .i64 y.2.2.2.2.2.2.2.2.2.2.2.2.2.2.2.2.2] 27 (0, 0))]) [] (fun y => []) [_, _] (fun y => HpLe G1347 y.2.2.1 ∧ Bd w0 S0 Fs y.2.2.1 ∧ SlR (Rep.int .u8) y.2.2.1 y.2.2.2.2.1 y.2.2.2.2.2.1 y.2.2.2.1 ∧ List.drop y.1 ([(v1330, x7_1), u1343.1] : List (Int × (List (Int × Int)))) = y.2.1 ∧ law43_BoundsSteps_L4 x3 x6 x8_1 y.2.1 y.2.2.2.1 y.2.2.2.2.2.2.1 y.2.2.2.2.2.2.2.1 y.2.2.2.2.2.2.2.2.1 y.2.2.2.2.2.2.2.2.2.1 y.2.2.2.2.2.2.2.2.2.2.1 y.2.2.2.2.2.2.2.2.2.2.2.1 y.2.2.2.2.2.2.2.2.2.2.2.2.1 y.2.2.2.2.2.2.2.2.2.2.2.2.2.1 y.2.2.2.2.2.2.2.2.2.2.2.2.2.2.1 y.2.2.2.2.2.2.2.2.2.2.2.2.2.2.2.1 y.2.2.2.2.2.2.2.2.2.2.2.2.2.2.2.2.1 y.2.2.2.2.2.2.2.2.2.2.2.2.2.2.2.2.2 = some r) (fun y => y.2.1.length) (0, ([(v1330, x7_1), u1343.1] : List (Int × (List (Int × Int)))), G1347, u1343.2.1, a1354, k1355, u1343.2.2, v1325, v1326, v1327, v1328, v1329, v1330, v1331, v1332, v1333, v1334, v1335) ⟨(HpLe.refl _), B1349, s1356, rfl, r1344⟩ ⟨rfl, rfl, rfl, rfl, rfl, rfl, rfl, trivial⟩ rfl rfl rfl (fun y hI hb1769 => ?_)
        obtain ⟨i1745, w1746, G1748, v1752, a1753, k1754, v1756, v1757, v1758, v1759, v1760, v1761, v1762, v1763, v1764, v1765, v1766, v1767⟩ := y
        obtain ⟨e1749, B1750, s1755, g1747, r1768⟩ := hI
        try dsimp only at e1749 B1750 s1755 g1747 r1768
        refine Cov.prune [(217, .int .i64 (i1745 : Int)), (3, _), (6, _), (17, _), (19, _), (215, _), (216, _)] ⟨rfl, rfl, rfl, rfl, rfl, rfl, rfl, trivial⟩ ?_;refine Cov.same (bl' := [(b23, .cells #[.slice a1753 v1752.length k1754, .int .i64 v1756] 97 (0, 0)), (b42, .cells #[.int .i64 v1757, .int .i64 v1758, .int .i64 v1759, .int .i64 v1760] 27 (0, 0)), (b4, .cells #[.int .i64 v1761, .slice a8_1 x8_1.length k8_1] 76 (0, 0)), (b3, .cells #[.int .i64 v1762, .slice a7_1 x7_1.length k7_1] 73 (0, 0)), (b2, .cells #[.int .i64 v1763] 49 (0, 0)), (b1, .cells #[.int .i64 v1764, .int .i64 v1765, .int .i64 v1766, .int .i64 v1767] 27 (0, 0))]) (sl' := [_, _]) (Fs' := G1748 :: Fs) rfl rfl rfl ?_
        cases w1746 with
        | nil =>
         rw [law43_BoundsSteps_L4] at r1768; try dsimp only at r1768
         refine Cov.seq ?_;refine Cov.region rfl ?_;refine Cov.q .ro (.lss rfl rfl) rfl ?_;refine Cov.region_end ?_;refine Cov.seq ?_
         refine Cov.cond_dec rfl (fun c => absurd c (drop_nil g1747)) (fun _ => ?_)
         refine Cov.exit rfl ?_;refine Cov.seq ?_;refine Cov.region rfl ?_;refine Cov.q .ro (.assign rfl) rfl ?_;refine Cov.region_end ?_
         cases r1768
         refine Cov.drop 6 0 [] _ rfl rfl ?_;refine Cov.drop 0 2 _ [] rfl rfl ?_
         refine Cov.retS (c := ⟨4, none⟩) (.inr ⟨_, rfl⟩) [.tmp 18] [_] rfl Tryz.func4 Tryz.results4 ⟨RV.tmp rfl, trivial⟩ (fun _ h => List.mem_cons_of_mem _ h) ⟨rfl, rfl, rfl⟩
        | cons x1778 xs1779 =>
         have r1777 : law43_BoundsSteps_B4 x3 x6 x8_1 (law43_BoundsSteps_L4 x3 x6 x8_1 xs1779) x1778 v1752 v1756 v1757 v1758 v1759 v1760 v1761 v1762 v1763 v1764 v1765 v1766 v1767 = some r := r1768; clear r1768; unfold law43_BoundsSteps_B4 at r1777; try dsimp only at r1777
         refine Cov.seq ?_;refine Cov.region rfl ?_;refine Cov.q .ro (.lss rfl rfl) rfl ?_;refine Cov.region_end ?_;refine Cov.seq ?_
         refine Cov.cond_dec rfl (fun _ => ?_) (fun c => absurd (drop_lt g1747) c)
         refine Cov.skip ?_;refine Cov.seq ?_;refine Cov.block ?_;refine Cov.seq ?_;refine Cov.region rfl ?_
         obtain ⟨c1780, p1781, h1782⟩ := OL.get (OL.mono e1749 o1358) (drop_idx g1747)
         obtain ⟨_, _, rfl, rfl, a1783, k1784, rfl, s1785⟩ := h1782
         refine Cov.q .ro (.idxO 0 rfl rfl rfl (drop_idx g1747) sl83 ty73.sz) rfl ?_;refine Cov.q .ro (.loadO_a 0 0 [_, _] rfl (drop_idx g1747) p1781 rfl (.inl ⟨rfl, rfl⟩) ty73 rfl) rfl ?_
         refine Cov.alloc .ro ty73 rfl (fun b1786 hb1786 => ?_)
         refine Cov.store 0 [_, _] [_, _, _, _, _, _, _] .ro rfl rfl rfl ty73 rfl rfl rfl rfl ?_;refine Cov.region_end ?_;refine Cov.seq ?_;refine Cov.seq ?_;refine Cov.region rfl ?_;refine Cov.q .ro (.move rfl) rfl ?_;refine Cov.q .ro (.min2 rfl rfl) rfl ?_;refine Cov.q .ro (.move rfl) rfl ?_;refine Cov.q .ro (.build_a [_, _] [(0, _), (1, _)] ty84 ar84 ty3.sz rfl rfl) rfl ?_
         refine Cov.q .ro (.move rfl) rfl ?_
         obtain ⟨u1787, hu1787, r1788⟩ := bind_some r1777; clear r1777
         refine Cov.pull 1 rfl [_, _, _, _, _, _, _] rfl ?_
         refine Cov.callS (b1 := [_]) (b2 := [_, _, _, _, _, _]) (s1 := []) [_, _] [] .ro rfl rfl Tryz.call25 rfl rfl (play_Dice_Pick_c (G := G1748) List.mem_cons_self s1755 hu1787) rfl (fun v1790 bo so h1789 => ?_)
         obtain ⟨a1791, k1792, rfl, rfl, rfl, s1793⟩ := h1789
         refine Cov.same (bl' := [_, _, _, _, _, _, _]) (sl' := [_, _]) rfl rfl rfl ?_;refine Cov.q .ro (.addw rfl rfl) rfl ?_;refine Cov.q .ro (.move rfl) rfl ?_
         obtain ⟨u1794, hu1794, r1795⟩ := bind_some r1788; clear r1788
         refine Cov.callS (b1 := [_]) (b2 := [_, _, _, _, _, _]) (s1 := []) [_, _] [] .ro rfl rfl Tryz.call25 rfl rfl (play_Dice_Pick_c (G := G1748) List.mem_cons_self s1793 hu1794) rfl (fun v1797 bo so h1796 => ?_)
         obtain ⟨a1798, k1799, rfl, rfl, rfl, s1800⟩ := h1796
         refine Cov.same (bl' := [_, _, _, _, _, _, _]) (sl' := [_, _]) rfl rfl rfl ?_;refine Cov.q .ro (.build_a [_, _] [(0, _), (1, _)] ty84 ar84 ty3.sz rfl rfl) rfl ?_
         refine Cov.lit [_, _, _, _] [(0, _), (1, _)] .ro sl86 ty84 rfl rfl rfl rfl rfl rfl (fun b1801 hb1801 => ?_)
         have o1802 : OL (Rep.pair (Rep.int .i64) (Rep.int .i64)) G1748 [.int .i64 (min x3 12), .int .i64 x6, .int .i64 (w64 (1 + u1787.1)), .int .i64 u1794.1] ([((min x3 12), x6), ((w64 (1 + u1787.1)), u1794.1)] : List (Int × Int)) := ((OL.cons rfl (Rep.pairI (Rep.intI .i64 (min x3 12)) (Rep.intI .i64 x6)) (OL.cons rfl (Rep.pairI (Rep.intI .i64 (w64 (1 + u1787.1))) (Rep.intI .i64 u1794.1)) (OL.nil (Rp' := (Rep.pair (Rep.int .i64) (Rep.int .i64)))))) :)
         refine Cov.reval 231 (n' := ([((min x3 12), x6), ((w64 (1 + u1787.1)), u1794.1)] : List (Int × Int)).length) rfl rfl ?_;refine Cov.q .ro (.len_sl rfl rfl sl86) rfl ?_;refine Cov.q .ro (.move rfl) rfl ?_;refine Cov.region_end ?_;refine Cov.prune [(217, _), (3, _), (6, _), (17, _), (19, _), (215, _), (216, _), (40, _), (231, _), (232, _), (233, _)] ⟨rfl, rfl, rfl, rfl, rfl, rfl, rfl, rfl, rfl, rfl, rfl, trivial⟩ ?_;refine Cov.cutB (β := Int × Int × Int × Int × Int × Int × Int × Int × Int × Int × Int × Int × Int) (fun y => []) [(217, _), (3, _), (6, _), (17, _), (19, _), (215, _), (216, _), (40, _)] (fun y => G1748 :: Fs) (fun y => [(b23, .cells #[.slice a1798 u1794.2.1.length k1799, .int .i64 y.1] 97 (0, 0)), (b1786, .cells #[.int .i64 y.2.1, .slice a1783 x1778.2.length k1784] 73 (0, 0)), (b42, .cells #[.int .i64 y.2.2.1, .int .i64 y.2.2.2.1, .int .i64 y.2.2.2.2.1, .int .i64 y.2.2.2.2.2.1] 27 (0, 0)), (b4, .cells #[.int .i64 y.2.2.2.2.2.2.1, .slice a8_1 x8_1.length k8_1] 76 (0, 0)), (b3, .cells #[.int .i64 y.2.2.2.2.2.2.2.1, .slice a7_1 x7_1.length k7_1] 73 (0, 0)), (b2, .cells #[.int .i64 y.2.2.2.2.2.2.2.2.1] 49 (0, 0)), (b1, .cells #[.int .i64 y.2.2.2.2.2.2.2.2.2.1, .int .i64 y.2.2.2.2.2.2.2.2.2.2.1, .int .i64 y.2.2.2.2.2.2.2.2.2.2.2.1, .int .i64 y.2.2.2.2.2.2.2.2.2.2.2.2] 27 (0, 0))]) [] (fun y => []) [_, _, _] (fun y => (law43_BoundsSteps_J2 (law43_BoundsSteps_L4 x3 x6 x8_1 xs1779) u1794.2.1 x1778.2 x8_1) y.1 y.2.1 y.2.2.1 y.2.2.2.1 y.2.2.2.2.1 y.2.2.2.2.2.1 y.2.2.2.2.2.2.1 y.2.2.2.2.2.2.2.1 y.2.2.2.2.2.2.2.2.1 y.2.2.2.2.2.2.2.2.2.1 y.2.2.2.2.2.2.2.2.2.2.1 y.2.2.2.2.2.2.2.2.2.2.2.1 y.2.2.2.2.2.2.2.2.2.2.2.2 = some r) ⟨rfl, rfl, rfl, rfl, rfl, rfl, rfl, rfl, trivial⟩ [] rfl [0, 1, 2] rfl ?_ ?_
         ·intro y hI
          obtain ⟨v1904, v1905, v1906, v1907, v1908, v1909, v1910, v1911, v1912, v1913, v1914, v1915, v1916⟩ := y
          have r1918 := hI; clear hI
          try dsimp only at r1918
          refine Cov.prune [(217, _), (3, _), (6, _), (17, _), (19, _), (215, _), (216, _), (40, _)] ⟨rfl, rfl, rfl, rfl, rfl, rfl, rfl, rfl, trivial⟩ ?_;refine Cov.same (bl' := [(b23, .cells #[.slice a1798 u1794.2.1.length k1799, .int .i64 v1904] 97 (0, 0)), (b1786, .cells #[.int .i64 v1905, .slice a1783 x1778.2.length k1784] 73 (0, 0)), (b42, .cells #[.int .i64 v1906, .int .i64 v1907, .int .i64 v1908, .int .i64 v1909] 27 (0, 0)), (b4, .cells #[.int .i64 v1910, .slice a8_1 x8_1.length k8_1] 76 (0, 0)), (b3, .cells #[.int .i64 v1911, .slice a7_1 x7_1.length k7_1] 73 (0, 0)), (b2, .cells #[.int .i64 v1912] 49 (0, 0)), (b1, .cells #[.int .i64 v1913, .int .i64 v1914, .int .i64 v1915, .int .i64 v1916] 27 (0, 0))]) (sl' := [_, _, _]) (Fs' := G1748 :: Fs) rfl rfl rfl ?_
          unfold law43_BoundsSteps_J2 at r1918
          try dsimp only at r1918
          refine Cov.seq ?_;refine Cov.region rfl ?_;refine Cov.q .ro (.load_own_a 3 [_, _] rfl rfl ty76 rfl) rfl ?_
          refine Cov.lit [_, _, _] [(0, _), (1, _), (2, _)] .ro sl74 ty9 rfl rfl rfl rfl rfl rfl (fun b1930 hb1930 => ?_)
          have o1931 : OL Rep.str G1748 [.string ⟨#[97]⟩, .string ⟨#[98]⟩, .string ⟨#[99]⟩] ([⟨#[97]⟩, ⟨#[98]⟩, ⟨#[99]⟩] : List ByteArray) := ((OL.cons rfl (Rep.strI ⟨#[97]⟩) (OL.cons rfl (Rep.strI ⟨#[98]⟩) (OL.cons rfl (Rep.strI ⟨#[99]⟩) (OL.nil (Rp' := Rep.str))))) :)
          refine Cov.reval 272 (n' := ([⟨#[97]⟩, ⟨#[98]⟩, ⟨#[99]⟩] : List ByteArray).length) rfl rfl ?_;refine Cov.q .ro (.build [_, _] [(0, _), (1, _)] ty76 pl76 rfl rfl) rfl ?_
          refine Cov.freezeR 0 rfl rfl o1931 [_, _, _] rfl B1750 (fun G1933 e1934 B1935 s1936 => ?_)
          refine Cov.lit [_, _, _, _] [(0, _), (1, _)] .ro sl93 ty76 rfl rfl rfl rfl rfl rfl (fun b1938 hb1938 => ?_)
          have o1939 : OL (Rep.pair (Rep.int .i64) (Rep.sl Rep.str)) G1933 [.int .i64 v1910, .slice a8_1 x8_1.length k8_1, .int .i64 2, .slice (some ⟨b1930, 0, none⟩) ([⟨#[97]⟩, ⟨#[98]⟩, ⟨#[99]⟩] : List ByteArray).length 3] ([(v1910, x8_1), (2, ([⟨#[97]⟩, ⟨#[98]⟩, ⟨#[99]⟩] : List ByteArray))] : List (Int × (List ByteArray))) := ((OL.cons rfl (Rep.pairI (Rep.intI .i64 v1910) (Rep.slI (SlR.mono (HpLe.trans (HpLe.trans (HpLe.trans e1317 e1348) e1749) e1934) s8_1))) (OL.cons rfl (Rep.pairI (Rep.intI .i64 2) (Rep.slI s1936)) (OL.nil (Rp' := (Rep.pair (Rep.int .i64) (Rep.sl Rep.str)))))) :)
          refine Cov.reval 274 (n' := ([(v1910, x8_1), (2, ([⟨#[97]⟩, ⟨#[98]⟩, ⟨#[99]⟩] : List ByteArray))] : List (Int × (List ByteArray))).length) rfl rfl ?_;refine Cov.q .ro (.len_sl rfl rfl sl93) rfl ?_;refine Cov.q .ro (.move rfl) rfl ?_;refine Cov.region_end ?_;refine Cov.block ?_
          refine Cov.loop2 (α := Nat × (List (Int × (List ByteArray)))) (fun y => [(276, .int .i64 (y.1 : Int))]) [(217, _), (3, _), (6, _), (17, _), (19, _), (215, _), (216, _), (40, _), (274, _), (275, _)] (fun y => []) (fun y => []) [_, _, _, _, _, _, _] (fun y => []) [_, _, _, _] (fun y => List.drop y.1 ([(v1910, x8_1), (2, ([⟨#[97]⟩, ⟨#[98]⟩, ⟨#[99]⟩] : List ByteArray))] : List (Int × (List ByteArray))) = y.2 ∧ law43_BoundsSteps_L1 (law43_BoundsSteps_L4 x3 x6 x8_1 xs1779) u1794.2.1 v1904 v1905 x1778.2 v1906 v1907 v1908 v1909 v1910 v1911 v1912 v1913 v1914 v1915 v1916 y.2  = some r) (fun y => y.2.length) (0, ([(v1910, x8_1), (2, ([⟨#[97]⟩, ⟨#[98]⟩, ⟨#[99]⟩] : List ByteArray))] : List (Int × (List ByteArray)))) ⟨rfl, r1918⟩ ⟨rfl, rfl, rfl, rfl, rfl, rfl, rfl, rfl, rfl, rfl, rfl, trivial⟩ rfl rfl rfl (fun y hI hb1992 => ?_)
          obtain ⟨i1988, w1989⟩ := y
          obtain ⟨g1990, r1991⟩ := hI
          try dsimp only at g1990 r1991
          refine Cov.prune [(276, .int .i64 (i1988 : Int)), (217, _), (3, _), (6, _), (17, _), (19, _), (215, _), (216, _), (40, _), (274, _), (275, _)] ⟨rfl, rfl, rfl, rfl, rfl, rfl, rfl, rfl, rfl, rfl, rfl, trivial⟩ ?_;refine Cov.same (bl' := [_, _, _, _, _, _, _]) (sl' := [_, _, _, _]) (Fs' := G1933 :: Fs) rfl rfl rfl ?_
          cases w1989 with
          | nil =>
           rw [law43_BoundsSteps_L1] at r1991; try dsimp only at r1991
           refine Cov.seq ?_;refine Cov.region rfl ?_;refine Cov.q .ro (.lss rfl rfl) rfl ?_;refine Cov.region_end ?_;refine Cov.seq ?_
           refine Cov.cond_dec rfl (fun c => absurd c (drop_nil g1990)) (fun _ => ?_)
           refine Cov.exit rfl ?_;refine Cov.inBlock ?_;refine Cov.region rfl ?_;refine Cov.q .ro (.addw rfl rfl) rfl ?_;refine Cov.q .ro (.move rfl) rfl ?_;refine Cov.region_end ?_;refine Cov.pull 6 rfl [_, _, _, _, _, _, _] rfl ?_;refine Cov.pull 6 rfl [_, _, _, _, _, _, _] rfl ?_;refine Cov.pull 6 rfl [_, _, _, _, _, _, _] rfl ?_
           refine Cov.pull 6 rfl [_, _, _, _, _, _, _] rfl ?_;refine Cov.pull 6 rfl [_, _, _, _, _, _, _] rfl ?_;refine Cov.pull 5 rfl [_, _, _, _, _, _, _] rfl ?_;refine Cov.pull 6 rfl [_, _, _, _, _, _, _] rfl ?_;refine Cov.drop 1 0 [_, _, _, _, _, _] _ rfl rfl ?_;refine Cov.drop 0 2 _ [_, _] rfl rfl ?_
           refine Cov.prune _ ?_ (Cov.same rfl rfl rfl (hb1769 ((i1745 + 1), xs1779, G1933, u1794.2.1, a1798, k1799, v1904, v1906, v1907, v1908, v1909, v1910, v1911, v1912, v1913, v1914, v1915, v1916) ⟨(HpLe.trans e1749 e1934), B1935, (SlR.mono e1934 s1800), (drop_succ g1747), r1991⟩ (Nat.lt_succ_self _)))
           exact ⟨(congrArg (fun z => some (Value.int .i64 z)) (idx_wrap (OL.len' o1358) g1747)), rfl, rfl, rfl, rfl, rfl, rfl, trivial⟩
          | cons x2020 xs2021 =>
           have r2019 : law43_BoundsSteps_B1 (law43_BoundsSteps_L4 x3 x6 x8_1 xs1779) u1794.2.1 v1904 v1905 x1778.2 v1906 v1907 v1908 v1909 v1910 v1911 v1912 v1913 v1914 v1915 v1916 (law43_BoundsSteps_L1 (law43_BoundsSteps_L4 x3 x6 x8_1 xs1779) u1794.2.1 v1904 v1905 x1778.2 v1906 v1907 v1908 v1909 v1910 v1911 v1912 v1913 v1914 v1915 v1916 xs2021) x2020  = some r := r1991; clear r1991; unfold law43_BoundsSteps_B1 at r2019; try dsimp only at r2019
           refine Cov.seq ?_;refine Cov.region rfl ?_;refine Cov.q .ro (.lss rfl rfl) rfl ?_;refine Cov.region_end ?_;refine Cov.seq ?_
           refine Cov.cond_dec rfl (fun _ => ?_) (fun c => absurd (drop_lt g1990) c)
           refine Cov.skip ?_;refine Cov.seq ?_;refine Cov.block ?_;refine Cov.seq ?_;refine Cov.region rfl ?_
           obtain ⟨c2022, p2023, h2024⟩ := OL.get o1939 (drop_idx g1990)
           obtain ⟨_, _, rfl, rfl, a2025, k2026, rfl, s2027⟩ := h2024
           refine Cov.q .ro (.idxO 0 rfl rfl rfl (drop_idx g1990) sl93 ty76.sz) rfl ?_;refine Cov.q .ro (.loadO_a 0 0 [_, _] rfl (drop_idx g1990) p2023 rfl (.inl ⟨rfl, rfl⟩) ty76 rfl) rfl ?_
           refine Cov.alloc .ro ty76 rfl (fun b2028 hb2028 => ?_)
           refine Cov.store 0 [_, _] [_, _, _, _, _, _, _, _] .ro rfl rfl rfl ty76 rfl rfl rfl rfl ?_;refine Cov.region_end ?_;refine Cov.seq ?_;refine Cov.region rfl ?_;refine Cov.q .ro (.load_own_a 2 [_, _] rfl rfl ty73 rfl) rfl ?_;refine Cov.q .ro (.load_own_a 0 [_, _] rfl rfl ty76 rfl) rfl ?_
           obtain ⟨u2029, hu2029, r2030⟩ := bind_some r2019; clear r2019
           refine Cov.callS (b1 := []) (b2 := [_, _, _, _, _, _, _, _]) (s1 := []) [_, _] [] .ro rfl rfl Tryz.call30 rfl rfl (bounds_Looks_c (G := G1933) List.mem_cons_self (SlR.mono e1934 s1785) s2027 hu2029) rfl (fun v2032 bo so h2031 => ?_)
           obtain ⟨rfl, rfl, rfl⟩ := h2031
           refine Cov.same (bl' := [_, _, _, _, _, _, _, _]) (sl' := [_, _, _, _]) rfl rfl rfl ?_;refine Cov.q .ro (.move rfl) rfl ?_;refine Cov.q .ro (.extract rfl rfl) rfl ?_;refine Cov.q .ro (.extract rfl rfl) rfl ?_;refine Cov.q .ro (.extract rfl rfl) rfl ?_;refine Cov.q .ro (.assign rfl) rfl ?_;refine Cov.q .ro (.assign rfl) rfl ?_;refine Cov.q .ro (.assign rfl) rfl ?_;refine Cov.region_end ?_
           refine Cov.seq ?_;refine Cov.region rfl ?_;refine Cov.q .ro (.load_own_a 2 [_, _] rfl rfl ty73 rfl) rfl ?_;refine Cov.q .ro (.load_own_a 0 [_, _] rfl rfl ty76 rfl) rfl ?_
           obtain ⟨u2033, hu2033, r2034⟩ := bind_some r2030; clear r2030
           refine Cov.callS (b1 := []) (b2 := [_, _, _, _, _, _, _, _]) (s1 := []) [_, _] [] .ro rfl rfl Tryz.call31 rfl rfl (ref43_Looks_c (G := G1933) List.mem_cons_self (SlR.mono e1934 s1785) s2027 hu2033) rfl (fun v2036 bo so h2035 => ?_)
           obtain ⟨rfl, rfl, rfl⟩ := h2035
           refine Cov.same (bl' := [_, _, _, _, _, _, _, _]) (sl' := [_, _, _, _]) rfl rfl rfl ?_;refine Cov.q .ro (.move rfl) rfl ?_;refine Cov.q .ro (.extract rfl rfl) rfl ?_;refine Cov.q .ro (.extract rfl rfl) rfl ?_;refine Cov.q .ro (.extract rfl rfl) rfl ?_;refine Cov.q .ro (.assign rfl) rfl ?_;refine Cov.q .ro (.assign rfl) rfl ?_;refine Cov.q .ro (.assign rfl) rfl ?_;refine Cov.region_end ?_
           refine Cov.prune [(276, _), (217, _), (3, _), (6, _), (17, _), (19, _), (215, _), (216, _), (40, _), (274, _), (275, _), (51, _), (52, _), (53, _), (54, _), (55, _), (56, _)] ⟨rfl, rfl, rfl, rfl, rfl, rfl, rfl, rfl, rfl, rfl, rfl, rfl, rfl, rfl, rfl, rfl, rfl, trivial⟩ ?_;refine Cov.seq ?_;refine Cov.region rfl ?_;refine Cov.q .ro (.move rfl) rfl ?_;refine Cov.q .ro (.move rfl) rfl ?_;refine Cov.q .ro (.neq rfl rfl) rfl ?_;refine Cov.q .ro (.move rfl) rfl ?_;refine Cov.cutR 4 (β := Unit) (fun y => [(301, .bool (decide ((u2029.1 ≠ u2033.1) ∨ (u2029.2.1 ≠ u2033.2.1))))]) [(276, _), (217, _), (3, _), (6, _), (17, _), (19, _), (215, _), (216, _), (40, _), (274, _), (275, _), (53, _), (56, _)] (fun y => G1933 :: Fs) (fun y => []) [_, _, _, _, _, _, _, _] (fun y => []) [_, _, _, _] (fun y => True) ⟨rfl, rfl, rfl, rfl, rfl, rfl, rfl, rfl, rfl, rfl, rfl, rfl, rfl, trivial⟩ [0, 1, 2, 3, 4, 5, 6, 7] rfl [0, 1, 2, 3] rfl ?_ ?_
           ·rintro _ _
            refine Cov.prune [(301, .bool (decide ((u2029.1 ≠ u2033.1) ∨ (u2029.2.1 ≠ u2033.2.1)))), (276, _), (217, _), (3, _), (6, _), (17, _), (19, _), (215, _), (216, _), (40, _), (274, _), (275, _), (53, _), (56, _)] ⟨rfl, rfl, rfl, rfl, rfl, rfl, rfl, rfl, rfl, rfl, rfl, rfl, rfl, rfl, trivial⟩ ?_;refine Cov.same (bl' := [_, _, _, _, _, _, _, _]) (sl' := [_, _, _, _]) (Fs' := G1933 :: Fs) rfl rfl rfl ?_;refine Cov.q .ro (.move rfl) rfl ?_;refine Cov.cutR 4 (β := Unit) (fun y => [(306, .bool (decide (((u2029.1 ≠ u2033.1) ∨ (u2029.2.1 ≠ u2033.2.1)) ∨ (u2029.2.2 ≠ u2033.2.2))))]) [(276, _), (217, _), (3, _), (6, _), (17, _), (19, _), (215, _), (216, _), (40, _), (274, _), (275, _)] (fun y => G1933 :: Fs) (fun y => []) [_, _, _, _, _, _, _, _] (fun y => []) [_, _, _, _] (fun y => True) ⟨rfl, rfl, rfl, rfl, rfl, rfl, rfl, rfl, rfl, rfl, rfl, trivial⟩ [0, 1, 2, 3, 4, 5, 6, 7] rfl [0, 1, 2, 3] rfl ?_ ?_
            ·rintro _ _
             refine Cov.prune [(306, .bool (decide (((u2029.1 ≠ u2033.1) ∨ (u2029.2.1 ≠ u2033.2.1)) ∨ (u2029.2.2 ≠ u2033.2.2)))), (276, _), (217, _), (3, _), (6, _), (17, _), (19, _), (215, _), (216, _), (40, _), (274, _), (275, _)] ⟨rfl, rfl, rfl, rfl, rfl, rfl, rfl, rfl, rfl, rfl, rfl, rfl, trivial⟩ ?_;refine Cov.same (bl' := [_, _, _, _, _, _, _, _]) (sl' := [_, _, _, _]) (Fs' := G1933 :: Fs) rfl rfl rfl ?_;refine Cov.region_end ?_
             refine Cov.cond_dec rfl (fun c2045 => ?_) (fun c2045 => ?_)
             ·have r2046 := ifT r2034 c2045; clear r2034
              refine Cov.seq ?_;refine Cov.region rfl ?_;refine Cov.q .ro (.assign rfl) rfl ?_;refine Cov.region_end ?_
              cases r2046
              refine Cov.drop 8 0 [] _ rfl rfl ?_;refine Cov.drop 0 4 _ [] rfl rfl ?_
              refine Cov.retS (c := ⟨4, none⟩) (.inr ⟨_, rfl⟩) [.tmp 18] [_] rfl Tryz.func4 Tryz.results4 ⟨RV.tmp rfl, trivial⟩ (fun _ h => List.mem_cons_of_mem _ h) ⟨rfl, rfl, rfl⟩
             ·have r2047 := ifF r2034 c2045; clear r2034
              refine Cov.skip ?_;refine Cov.inBlock ?_;refine Cov.region rfl ?_;refine Cov.q .ro (.addw rfl rfl) rfl ?_;refine Cov.q .ro (.move rfl) rfl ?_;refine Cov.region_end ?_;refine Cov.drop 1 0 [_, _, _, _, _, _, _] _ rfl rfl ?_
              refine Cov.prune _ ?_ (Cov.same rfl rfl rfl (hb1992 ((i1988 + 1), xs2021) ⟨(drop_succ g1990), r2047⟩ (Nat.lt_succ_self _)))
              exact ⟨(congrArg (fun z => some (Value.int .i64 z)) (idx_wrap (OL.len' o1939) g1990)), rfl, rfl, rfl, rfl, rfl, rfl, rfl, rfl, rfl, rfl, trivial⟩
            ·intro hb2042
             refine Cov.split 302 rfl (fun c2041 => ?_) (fun c2041 => ?_)
             ·refine Cov.g_off rfl rfl rfl ?_
              refine Cov.g_off rfl rfl rfl ?_;refine Cov.g_off rfl rfl rfl ?_;refine Cov.q .ro (.pick_t rfl rfl) rfl ?_
              refine Cov.prune _ ?_ (Cov.same rfl rfl rfl (hb2042 () trivial))
              exact ⟨dor_t c2041, rfl, rfl, rfl, rfl, rfl, rfl, rfl, rfl, rfl, rfl, rfl, trivial⟩
             ·refine Cov.g_on rfl ?_
              refine Cov.q .ro (.move rfl) rfl ?_;refine Cov.g_on rfl ?_;refine Cov.q .ro (.move rfl) rfl ?_;refine Cov.g_on rfl ?_;refine Cov.q .ro (.neq rfl rfl) rfl ?_;refine Cov.q .ro (.pick_f rfl rfl) rfl ?_
              refine Cov.prune _ ?_ (Cov.same rfl rfl rfl (hb2042 () trivial))
              exact ⟨dor_f c2041, rfl, rfl, rfl, rfl, rfl, rfl, rfl, rfl, rfl, rfl, rfl, trivial⟩
           ·intro hb2038
            refine Cov.split 297 rfl (fun c2037 => ?_) (fun c2037 => ?_)
            ·refine Cov.g_off rfl rfl rfl ?_
             refine Cov.g_off rfl rfl rfl ?_;refine Cov.g_off rfl rfl rfl ?_;refine Cov.q .ro (.pick_t rfl rfl) rfl ?_
             refine Cov.prune _ ?_ (Cov.same rfl rfl rfl (hb2038 () trivial))
             exact ⟨dor_t c2037, rfl, rfl, rfl, rfl, rfl, rfl, rfl, rfl, rfl, rfl, rfl, rfl, rfl, trivial⟩
            ·refine Cov.g_on rfl ?_
             refine Cov.q .ro (.move rfl) rfl ?_;refine Cov.g_on rfl ?_;refine Cov.q .ro (.move rfl) rfl ?_;refine Cov.g_on rfl ?_;refine Cov.q .ro (.neq rfl rfl) rfl ?_;refine Cov.q .ro (.pick_f rfl rfl) rfl ?_
             refine Cov.prune _ ?_ (Cov.same rfl rfl rfl (hb2038 () trivial))
             exact ⟨dor_f c2037, rfl, rfl, rfl, rfl, rfl, rfl, rfl, rfl, rfl, rfl, rfl, rfl, rfl, trivial⟩
         ·intro hb2048
          refine Cov.block ?_
          refine Cov.loop2 (α := Nat × (List (Int × Int))) (fun y => [(233, .int .i64 (y.1 : Int))]) [(217, _), (3, _), (6, _), (17, _), (19, _), (215, _), (216, _), (40, _), (231, _), (232, _)] (fun y => []) (fun y => []) [_, _, _, _, _, _, _] (fun y => []) [_, _, _] (fun y => List.drop y.1 ([((min x3 12), x6), ((w64 (1 + u1787.1)), u1794.1)] : List (Int × Int)) = y.2 ∧ law43_BoundsSteps_L3 (law43_BoundsSteps_J2 (law43_BoundsSteps_L4 x3 x6 x8_1 xs1779) u1794.2.1 x1778.2 x8_1) u1794.2.2 x1778.1 x1778.2 v1757 v1758 v1759 v1760 v1761 v1762 v1763 v1764 v1765 v1766 v1767 y.2  = some r) (fun y => y.2.length) (0, ([((min x3 12), x6), ((w64 (1 + u1787.1)), u1794.1)] : List (Int × Int))) ⟨rfl, r1795⟩ ⟨rfl, rfl, rfl, rfl, rfl, rfl, rfl, rfl, rfl, rfl, rfl, trivial⟩ rfl rfl rfl (fun y hI hb2097 => ?_)
          obtain ⟨i2093, w2094⟩ := y
          obtain ⟨g2095, r2096⟩ := hI
          try dsimp only at g2095 r2096
          refine Cov.prune [(233, .int .i64 (i2093 : Int)), (217, _), (3, _), (6, _), (17, _), (19, _), (215, _), (216, _), (40, _), (231, _), (232, _)] ⟨rfl, rfl, rfl, rfl, rfl, rfl, rfl, rfl, rfl, rfl, rfl, trivial⟩ ?_;refine Cov.same (bl' := [_, _, _, _, _, _, _]) (sl' := [_, _, _]) (Fs' := G1748 :: Fs) rfl rfl rfl ?_
          cases w2094 with
          | nil =>
           rw [law43_BoundsSteps_L3] at r2096; try dsimp only at r2096
           refine Cov.seq ?_;refine Cov.region rfl ?_;refine Cov.q .ro (.lss rfl rfl) rfl ?_;refine Cov.region_end ?_;refine Cov.seq ?_
           refine Cov.cond_dec rfl (fun c => absurd c (drop_nil g2095)) (fun _ => ?_)
           refine Cov.exit rfl ?_
           refine Cov.prune _ ?_ (Cov.same rfl rfl rfl (hb2048 (u1794.2.2, x1778.1, v1757, v1758, v1759, v1760, v1761, v1762, v1763, v1764, v1765, v1766, v1767) r2096))
           exact ⟨rfl, rfl, rfl, rfl, rfl, rfl, rfl, rfl, trivial⟩
          | cons x2124 xs2125 =>
           have r2123 : law43_BoundsSteps_B3 (law43_BoundsSteps_J2 (law43_BoundsSteps_L4 x3 x6 x8_1 xs1779) u1794.2.1 x1778.2 x8_1) u1794.2.2 x1778.1 x1778.2 v1757 v1758 v1759 v1760 v1761 v1762 v1763 v1764 v1765 v1766 v1767 (law43_BoundsSteps_L3 (law43_BoundsSteps_J2 (law43_BoundsSteps_L4 x3 x6 x8_1 xs1779) u1794.2.1 x1778.2 x8_1) u1794.2.2 x1778.1 x1778.2 v1757 v1758 v1759 v1760 v1761 v1762 v1763 v1764 v1765 v1766 v1767 xs2125) x2124  = some r := r2096; clear r2096; unfold law43_BoundsSteps_B3 at r2123; try dsimp only at r2123
           refine Cov.seq ?_;refine Cov.region rfl ?_;refine Cov.q .ro (.lss rfl rfl) rfl ?_;refine Cov.region_end ?_;refine Cov.seq ?_
           refine Cov.cond_dec rfl (fun _ => ?_) (fun c => absurd (drop_lt g2095) c)
           refine Cov.skip ?_;refine Cov.seq ?_;refine Cov.block ?_;refine Cov.seq ?_;refine Cov.region rfl ?_
           obtain ⟨c2126, p2127, h2128⟩ := OL.get o1802 (drop_idx g2095)
           obtain ⟨_, _, rfl, rfl, rfl⟩ := h2128
           refine Cov.q .ro (.idxO 0 rfl rfl rfl (drop_idx g2095) sl86 ty84.sz) rfl ?_;refine Cov.q .ro (.loadO_a 0 0 [_, _] rfl (drop_idx g2095) p2127 rfl (.inl ⟨rfl, rfl⟩) ty84 rfl) rfl ?_
           refine Cov.alloc .ro ty84 rfl (fun b2129 hb2129 => ?_)
           refine Cov.store 0 [_, _] [_, _, _, _, _, _, _, _] .ro rfl rfl rfl ty84 rfl rfl rfl rfl ?_;refine Cov.region_end ?_;refine Cov.seq ?_;refine Cov.region rfl ?_;refine Cov.q .ro (.load_own_a 2 [_, _] rfl rfl ty73 rfl) rfl ?_;refine Cov.q .ro (.indexAddr_ar 0 rfl rfl ar84 ty3.sz (by decide) (by decide) rfl) rfl ?_;refine Cov.q .ro (.load_own 0 rfl rfl ty3 rfl) rfl ?_;refine Cov.q .ro (.indexAddr_ar 1 rfl rfl ar84 ty3.sz (by decide) (by decide) rfl) rfl ?_;refine Cov.q .ro (.load_own 0 rfl rfl ty3 rfl) rfl ?_
           obtain ⟨u2130, hu2130, r2131⟩ := bind_some r2123; clear r2123
           refine Cov.callS (b1 := []) (b2 := [_, _, _, _, _, _, _, _]) (s1 := []) [_, _, _] [] .ro rfl rfl Tryz.call28 rfl rfl (bounds_Failure_c (G := G1748) List.mem_cons_self s1785 hu2130) rfl (fun v2133 bo so h2132 => ?_)
           obtain ⟨rfl, rfl, rfl⟩ := h2132
           refine Cov.same (bl' := [_, _, _, _, _, _, _, _]) (sl' := [_, _, _]) rfl rfl rfl ?_;refine Cov.q .ro (.move rfl) rfl ?_;refine Cov.q .ro (.extract rfl rfl) rfl ?_;refine Cov.q .ro (.extract rfl rfl) rfl ?_;refine Cov.q .ro (.extract rfl rfl) rfl ?_;refine Cov.q .ro (.assign rfl) rfl ?_;refine Cov.q .ro (.assign rfl) rfl ?_;refine Cov.q .ro (.assign rfl) rfl ?_;refine Cov.region_end ?_
           refine Cov.prune [(233, _), (217, _), (3, _), (6, _), (17, _), (19, _), (215, _), (216, _), (40, _), (231, _), (232, _), (42, _), (43, _), (44, _), (45, _)] ⟨rfl, rfl, rfl, rfl, rfl, rfl, rfl, rfl, rfl, rfl, rfl, rfl, rfl, rfl, rfl, trivial⟩ ?_;refine Cov.seq ?_;refine Cov.region rfl ?_;refine Cov.q .ro (.load_own_a 2 [_, _] rfl rfl ty73 rfl) rfl ?_;refine Cov.q .ro (.indexAddr_ar 0 rfl rfl ar84 ty3.sz (by decide) (by decide) rfl) rfl ?_;refine Cov.q .ro (.load_own 0 rfl rfl ty3 rfl) rfl ?_;refine Cov.q .ro (.indexAddr_ar 1 rfl rfl ar84 ty3.sz (by decide) (by decide) rfl) rfl ?_;refine Cov.q .ro (.load_own 0 rfl rfl ty3 rfl) rfl ?_
           obtain ⟨u2134, hu2134, r2135⟩ := bind_some r2131; clear r2131
           refine Cov.callS (b1 := []) (b2 := [_, _, _, _, _, _, _, _]) (s1 := []) [_, _, _] [] .ro rfl rfl Tryz.call29 rfl rfl (ref43_Failure_c (G := G1748) List.mem_cons_self s1785 hu2134) rfl (fun v2137 bo so h2136 => ?_)
           obtain ⟨rfl, rfl, rfl⟩ := h2136
           refine Cov.same (bl' := [_, _, _, _, _, _, _, _]) (sl' := [_, _, _]) rfl rfl rfl ?_;refine Cov.q .ro (.move rfl) rfl ?_;refine Cov.q .ro (.extract rfl rfl) rfl ?_;refine Cov.q .ro (.extract rfl rfl) rfl ?_;refine Cov.q .ro (.extract rfl rfl) rfl ?_;refine Cov.q .ro (.assign rfl) rfl ?_;refine Cov.q .ro (.assign rfl) rfl ?_;refine Cov.q .ro (.assign rfl) rfl ?_;refine Cov.region_end ?_
           refine Cov.seq ?_;refine Cov.region rfl ?_;refine Cov.q .ro (.move rfl) rfl ?_;refine Cov.q .ro (.move rfl) rfl ?_;refine Cov.q .ro (.neq rfl rfl) rfl ?_;refine Cov.q .ro (.move rfl) rfl ?_;refine Cov.cutR 4 (β := Unit) (fun y => [(264, .bool (decide ((u2130.1 ≠ u2134.1) ∨ (u2130.2.1 ≠ u2134.2.1))))]) [(233, _), (217, _), (3, _), (6, _), (17, _), (19, _), (215, _), (216, _), (40, _), (231, _), (232, _), (45, _), (48, _)] (fun y => G1748 :: Fs) (fun y => []) [_, _, _, _, _, _, _, _] (fun y => []) [_, _, _] (fun y => True) ⟨rfl, rfl, rfl, rfl, rfl, rfl, rfl, rfl, rfl, rfl, rfl, rfl, rfl, trivial⟩ [0, 1, 2, 3, 4, 5, 6, 7] rfl [0, 1, 2] rfl ?_ ?_
           ·rintro _ _
            refine Cov.prune [(264, .bool (decide ((u2130.1 ≠ u2134.1) ∨ (u2130.2.1 ≠ u2134.2.1)))), (233, _), (217, _), (3, _), (6, _), (17, _), (19, _), (215, _), (216, _), (40, _), (231, _), (232, _), (45, _), (48, _)] ⟨rfl, rfl, rfl, rfl, rfl, rfl, rfl, rfl, rfl, rfl, rfl, rfl, rfl, rfl, trivial⟩ ?_;refine Cov.same (bl' := [_, _, _, _, _, _, _, _]) (sl' := [_, _, _]) (Fs' := G1748 :: Fs) rfl rfl rfl ?_;refine Cov.q .ro (.move rfl) rfl ?_;refine Cov.cutR 4 (β := Unit) (fun y => [(269, .bool (decide (((u2130.1 ≠ u2134.1) ∨ (u2130.2.1 ≠ u2134.2.1)) ∨ (u2130.2.2 ≠ u2134.2.2))))]) [(233, _), (217, _), (3, _), (6, _), (17, _), (19, _), (215, _), (216, _), (40, _), (231, _), (232, _)] (fun y => G1748 :: Fs) (fun y => []) [_, _, _, _, _, _, _, _] (fun y => []) [_, _, _] (fun y => True) ⟨rfl, rfl, rfl, rfl, rfl, rfl, rfl, rfl, rfl, rfl, rfl, trivial⟩ [0, 1, 2, 3, 4, 5, 6, 7] rfl [0, 1, 2] rfl ?_ ?_
            ·rintro _ _
             refine Cov.prune [(269, .bool (decide (((u2130.1 ≠ u2134.1) ∨ (u2130.2.1 ≠ u2134.2.1)) ∨ (u2130.2.2 ≠ u2134.2.2)))), (233, _), (217, _), (3, _), (6, _), (17, _), (19, _), (215, _), (216, _), (40, _), (231, _), (232, _)] ⟨rfl, rfl, rfl, rfl, rfl, rfl, rfl, rfl, rfl, rfl, rfl, rfl, trivial⟩ ?_;refine Cov.same (bl' := [_, _, _, _, _, _, _, _]) (sl' := [_, _, _]) (Fs' := G1748 :: Fs) rfl rfl rfl ?_;refine Cov.region_end ?_
             refine Cov.cond_dec rfl (fun c2146 => ?_) (fun c2146 => ?_)
             ·have r2147 := ifT r2135 c2146; clear r2135
              refine Cov.seq ?_;refine Cov.region rfl ?_;refine Cov.q .ro (.assign rfl) rfl ?_;refine Cov.region_end ?_
              cases r2147
              refine Cov.drop 8 0 [] _ rfl rfl ?_;refine Cov.drop 0 3 _ [] rfl rfl ?_
              refine Cov.retS (c := ⟨4, none⟩) (.inr ⟨_, rfl⟩) [.tmp 18] [_] rfl Tryz.func4 Tryz.results4 ⟨RV.tmp rfl, trivial⟩ (fun _ h => List.mem_cons_of_mem _ h) ⟨rfl, rfl, rfl⟩
             ·have r2148 := ifF r2135 c2146; clear r2135
              refine Cov.skip ?_;refine Cov.inBlock ?_;refine Cov.region rfl ?_;refine Cov.q .ro (.addw rfl rfl) rfl ?_;refine Cov.q .ro (.move rfl) rfl ?_;refine Cov.region_end ?_;refine Cov.drop 1 0 [_, _, _, _, _, _, _] _ rfl rfl ?_
              refine Cov.prune _ ?_ (Cov.same rfl rfl rfl (hb2097 ((i2093 + 1), xs2125) ⟨(drop_succ g2095), r2148⟩ (Nat.lt_succ_self _)))
              exact ⟨(congrArg (fun z => some (Value.int .i64 z)) (idx_wrap (OL.len' o1802) g2095)), rfl, rfl, rfl, rfl, rfl, rfl, rfl, rfl, rfl, rfl, trivial⟩
            ·intro hb2143
             refine Cov.split 265 rfl (fun c2142 => ?_) (fun c2142 => ?_)
             ·refine Cov.g_off rfl rfl rfl ?_
              refine Cov.g_off rfl rfl rfl ?_;refine Cov.g_off rfl rfl rfl ?_;refine Cov.q .ro (.pick_t rfl rfl) rfl ?_
              refine Cov.prune _ ?_ (Cov.same rfl rfl rfl (hb2143 () trivial))
              exact ⟨dor_t c2142, rfl, rfl, rfl, rfl, rfl, rfl, rfl, rfl, rfl, rfl, rfl, trivial⟩
             ·refine Cov.g_on rfl ?_
              refine Cov.q .ro (.move rfl) rfl ?_;refine Cov.g_on rfl ?_;refine Cov.q .ro (.move rfl) rfl ?_;refine Cov.g_on rfl ?_;refine Cov.q .ro (.neq rfl rfl) rfl ?_;refine Cov.q .ro (.pick_f rfl rfl) rfl ?_
              refine Cov.prune _ ?_ (Cov.same rfl rfl rfl (hb2143 () trivial))
              exact ⟨dor_f c2142, rfl, rfl, rfl, rfl, rfl, rfl, rfl, rfl, rfl, rfl, rfl, trivial⟩
           ·intro hb2139
            refine Cov.split 260 rfl (fun c2138 => ?_) (fun c2138 => ?_)
            ·refine Cov.g_off rfl rfl rfl ?_
             refine Cov.g_off rfl rfl rfl ?_;refine Cov.g_off rfl rfl rfl ?_;refine Cov.q .ro (.pick_t rfl rfl) rfl ?_
             refine Cov.prune _ ?_ (Cov.same rfl rfl rfl (hb2139 () trivial))
             exact ⟨dor_t c2138, rfl, rfl, rfl, rfl, rfl, rfl, rfl, rfl, rfl, rfl, rfl, rfl, rfl, trivial⟩
            ·refine Cov.g_on rfl ?_
             refine Cov.q .ro (.move rfl) rfl ?_;refine Cov.g_on rfl ?_;refine Cov.q .ro (.move rfl) rfl ?_;refine Cov.g_on rfl ?_;refine Cov.q .ro (.neq rfl rfl) rfl ?_;refine Cov.q .ro (.pick_f rfl rfl) rfl ?_
             refine Cov.prune _ ?_ (Cov.same rfl rfl rfl (hb2139 () trivial))
             exact ⟨dor_f c2138, rfl, rfl, rfl, rfl, rfl, rfl, rfl, rfl, rfl, rfl, rfl, rfl, rfl, trivial⟩
       ·intro hb2149
        refine Cov.block ?_;refine Cov.pull 5 rfl [_, _, _, _, _, _] rfl ?_;refine Cov.pull 5 rfl [_, _, _, _, _, _] rfl ?_;refine Cov.pull 5 rfl [_, _, _, _, _, _] rfl ?_;refine Cov.pull 5 rfl [_, _, _, _, _, _] rfl ?_;refine Cov.pull 5 rfl [_, _, _, _, _, _] rfl ?_;refine Cov.pull 5 rfl [_, _, _, _, _, _] rfl ?_
        refine Cov.loop2 (α := Nat × (List (Int × Int × Int × Int)) × Hp × List Int × Option Addr × Nat × Int × Int × Int × Int × Int × Int × Int × Int × Int × Int × Int × Int) (fun y => [(114, .int .i64 (y.1 : Int))]) [(3, _), (4, _), (5, _), (6, _), (11, _), (16, _), (17, _), (19, _), (112, _), (113, _)] (fun y => [y.2.2.1]) (fun y => [(b23, .cells #[.slice y.2.2.2.2.1 y.2.2.2.1.length y.2.2.2.2.2.1, .int .i64 y.2.2.2.2.2.2.1] 97 (0, 0)), (b42, .cells #[.int .i64 y.2.2.2.2.2.2.2.1, .int .i64 y.2.2.2.2.2.2.2.2.1, .int .i64 y.2.2.2.2.2.2.2.2.2.1, .int .i64 y.2.2.2.2.2.2.2.2.2.2.1] 27 (0, 0)), (b4, .cells #[.int .i64 y.2.2.2.2.2.2.2.2.2.2.2.1, .slice a8_1 x8_1.length k8_1] 76 (0, 0)), (b3, .cells #[.int .i64 y.2.2.2.2.2.2.2.2.2.2.2.2.1, .slice a7_1 x7_1.length k7_1] 73 (0, 0)), (b2, .cells #[.int .i64 y.2.2.2.2.2.2.2.2.2.2.2.2.2.1] 49 (0, 0)), (b1, .cells #[.int .i64 y.2.2.2.2.2.2.2.2.2.2.2.2.2.2.1, .int .i64 y.2.2.2.2.2.2.2.2.2.2.2.2.2.2.2.1, .int .i64 y.2.2.2.2.2.2.2.2.2.2.2.2.2.2.2.2.1, .int .i64 y.2.2.2.2.2.2.2.2.2.2.2.2.2.2.2.2.2] 27 (0, 0))]) [] (fun y => []) [_] (fun y => HpLe G y.2.2.1 ∧ Bd w0 S0 Fs y.2.2.1 ∧ SlR (Rep.int .u8) y.2.2.1 y.2.2.2.2.1 y.2.2.2.2.2.1 y.2.2.2.1 ∧ List.drop y.1 ([u35.1, (x1_0, x1_1, x1_2, x1_3), u84.1] : List (Int × Int × Int × Int)) = y.2.1 ∧ law43_BoundsSteps_L10 (law43_BoundsSteps_J5 x3 x6 x8_1 x7_1) x3 x4 x5 x7_1 y.2.1 y.2.2.2.1 y.2.2.2.2.2.2.1 y.2.2.2.2.2.2.2.1 y.2.2.2.2.2.2.2.2.1 y.2.2.2.2.2.2.2.2.2.1 y.2.2.2.2.2.2.2.2.2.2.1 y.2.2.2.2.2.2.2.2.2.2.2.1 y.2.2.2.2.2.2.2.2.2.2.2.2.1 y.2.2.2.2.2.2.2.2.2.2.2.2.2.1 y.2.2.2.2.2.2.2.2.2.2.2.2.2.2.1 y.2.2.2.2.2.2.2.2.2.2.2.2.2.2.2.1 y.2.2.2.2.2.2.2.2.2.2.2.2.2.2.2.2.1 y.2.2.2.2.2.2.2.2.2.2.2.2.2.2.2.2.2 = some r) (fun y => y.2.1.length) (0, ([u35.1, (x1_0, x1_1, x1_2, x1_3), u84.1] : List (Int × Int × Int × Int)), G, u84.2.1, a88, k89, u84.2.2, u35.1.1, u35.1.2.1, u35.1.2.2.1, u35.1.2.2.2, x8_0, x7_0, x2_0, x1_0, x1_1, x1_2, x1_3) ⟨(HpLe.refl _), B0, s90, rfl, r85⟩ ⟨rfl, rfl, rfl, rfl, rfl, rfl, rfl, rfl, rfl, rfl, rfl, trivial⟩ rfl rfl rfl (fun y hI hb2774 => ?_)
        obtain ⟨i2750, w2751, G2753, v2757, a2758, k2759, v2761, v2762, v2763, v2764, v2765, v2766, v2767, v2768, v2769, v2770, v2771, v2772⟩ := y
        obtain ⟨e2754, B2755, s2760, g2752, r2773⟩ := hI
        try dsimp only at e2754 B2755 s2760 g2752 r2773
        refine Cov.prune [(114, .int .i64 (i2750 : Int)), (3, _), (4, _), (5, _), (6, _), (11, _), (16, _), (17, _), (19, _), (112, _), (113, _)] ⟨rfl, rfl, rfl, rfl, rfl, rfl, rfl, rfl, rfl, rfl, rfl, trivial⟩ ?_;refine Cov.same (bl' := [(b23, .cells #[.slice a2758 v2757.length k2759, .int .i64 v2761] 97 (0, 0)), (b42, .cells #[.int .i64 v2762, .int .i64 v2763, .int .i64 v2764, .int .i64 v2765] 27 (0, 0)), (b4, .cells #[.int .i64 v2766, .slice a8_1 x8_1.length k8_1] 76 (0, 0)), (b3, .cells #[.int .i64 v2767, .slice a7_1 x7_1.length k7_1] 73 (0, 0)), (b2, .cells #[.int .i64 v2768] 49 (0, 0)), (b1, .cells #[.int .i64 v2769, .int .i64 v2770, .int .i64 v2771, .int .i64 v2772] 27 (0, 0))]) (sl' := [_]) (Fs' := G2753 :: Fs) rfl rfl rfl ?_
        cases w2751 with
        | nil =>
         rw [law43_BoundsSteps_L10] at r2773; try dsimp only at r2773
         refine Cov.seq ?_;refine Cov.region rfl ?_;refine Cov.q .ro (.lss rfl rfl) rfl ?_;refine Cov.region_end ?_;refine Cov.seq ?_
         refine Cov.cond_dec rfl (fun c => absurd c (drop_nil g2752)) (fun _ => ?_)
         refine Cov.exit rfl ?_
         refine Cov.prune _ ?_ (Cov.same rfl rfl rfl (hb2149 (G2753, v2757, a2758, k2759, v2761, v2762, v2763, v2764, v2765, v2766, v2767, v2768, v2769, v2770, v2771, v2772) ⟨e2754, B2755, s2760, r2773⟩))
         exact ⟨rfl, rfl, rfl, rfl, rfl, trivial⟩
        | cons x2784 xs2785 =>
         have r2783 : law43_BoundsSteps_B10 (law43_BoundsSteps_J5 x3 x6 x8_1 x7_1) x3 x4 x5 x7_1 (law43_BoundsSteps_L10 (law43_BoundsSteps_J5 x3 x6 x8_1 x7_1) x3 x4 x5 x7_1 xs2785) x2784 v2757 v2761 v2762 v2763 v2764 v2765 v2766 v2767 v2768 v2769 v2770 v2771 v2772 = some r := r2773; clear r2773; unfold law43_BoundsSteps_B10 at r2783; try dsimp only at r2783
         refine Cov.seq ?_;refine Cov.region rfl ?_;refine Cov.q .ro (.lss rfl rfl) rfl ?_;refine Cov.region_end ?_;refine Cov.seq ?_
         refine Cov.cond_dec rfl (fun _ => ?_) (fun c => absurd (drop_lt g2752) c)
         refine Cov.skip ?_;refine Cov.seq ?_;refine Cov.block ?_;refine Cov.seq ?_;refine Cov.region rfl ?_
         obtain ⟨c2786, p2787, h2788⟩ := OL.get (OL.mono e2754 o92) (drop_idx g2752)
         obtain ⟨_, _, rfl, rfl, _, _, rfl, rfl, _, _, rfl, rfl, rfl⟩ := h2788
         refine Cov.q .ro (.idxO 0 rfl rfl rfl (drop_idx g2752) sl79 ty27.sz) rfl ?_;refine Cov.q .ro (.loadO_a 0 0 [_, _, _, _] rfl (drop_idx g2752) p2787 rfl (.inl ⟨rfl, rfl⟩) ty27 rfl) rfl ?_
         refine Cov.alloc .ro ty27 rfl (fun b2789 hb2789 => ?_)
         refine Cov.store 0 [_, _, _, _] [_, _, _, _, _, _, _] .ro rfl rfl rfl ty27 rfl rfl rfl rfl ?_;refine Cov.region_end ?_;refine Cov.seq ?_;refine Cov.seq ?_;refine Cov.drawL (.q 0 (.q 1 (.q 5 (.e 2 1 (.e 3 1 (.q 4 .nil)))))) [_, _, _, _, _, _] (by kernel_rfl) (by kernel_rfl) (pick_mem [0, 2, 3, 4, 5, 6] rfl) ?_;refine Cov.dq (.load_own_a 4 [_] rfl rfl ty49 rfl) rfl ?_;refine Cov.dq (.move rfl) rfl ?_;refine Cov.dq (.move rfl) rfl ?_
         obtain ⟨u2790, hu2790, r2791⟩ := bind_some r2783; clear r2783
         refine Cov.pull 1 rfl [_, _, _, _, _, _, _] rfl ?_
         refine Cov.callS (b1 := [_]) (b2 := [_, _, _, _, _, _]) (s1 := []) [_] [] .d1 rfl rfl Tryz.call22 rfl rfl (play_Dice_Field_c (G := G2753) List.mem_cons_self s2760 hu2790) rfl (fun v2793 bo so h2792 => ?_)
         obtain ⟨a2794, k2795, rfl, rfl, rfl, s2796⟩ := h2792
         refine Cov.same (bl' := [_, _, _, _, _, _, _]) (sl' := [_]) rfl rfl rfl ?_;refine Cov.clsL (HpLe.refl _) (pick_mem [1, 2, 3, 4, 5, 6] rfl) ?_
         refine Cov.lit [_, _] [(0, _), (1, _)] .d1 sl81 ty49 rfl rfl rfl rfl rfl rfl (fun b2797 hb2797 => ?_)
         have o2798 : OL (Rep.int .i64) G2753 [.int .i64 v2768, .int .i64 u2790.1] ([v2768, u2790.1] : List Int) := ((OL.cons rfl (Rep.intI .i64 v2768) (OL.cons rfl (Rep.intI .i64 u2790.1) (OL.nil (Rp' := (Rep.int .i64))))) :)
         refine Cov.reval 121 (n' := ([v2768, u2790.1] : List Int).length) rfl rfl ?_;refine Cov.clsL (HpLe.refl _) (pick_mem [1, 2, 3, 4, 5, 6] rfl) ?_;refine Cov.dq (.len_sl rfl rfl sl81) rfl ?_;refine Cov.draw_end ?_;refine Cov.cutB (β := Int × Int × Int × Int × Int × Int × Int × Int × Int × Int × Int × Int × Int × Int × Int × Int) (fun y => []) [(114, _), (3, _), (4, _), (5, _), (6, _), (11, _), (16, _), (17, _), (19, _), (112, _), (113, _), (24, _)] (fun y => G2753 :: Fs) (fun y => [(b23, .cells #[.slice a2794 u2790.2.1.length k2795, .int .i64 y.1] 97 (0, 0)), (b2789, .cells #[.int .i64 y.2.1, .int .i64 y.2.2.1, .int .i64 y.2.2.2.1, .int .i64 y.2.2.2.2.1] 27 (0, 0)), (b42, .cells #[.int .i64 y.2.2.2.2.2.1, .int .i64 y.2.2.2.2.2.2.1, .int .i64 y.2.2.2.2.2.2.2.1, .int .i64 y.2.2.2.2.2.2.2.2.1] 27 (0, 0)), (b4, .cells #[.int .i64 y.2.2.2.2.2.2.2.2.2.1, .slice a8_1 x8_1.length k8_1] 76 (0, 0)), (b3, .cells #[.int .i64 y.2.2.2.2.2.2.2.2.2.2.1, .slice a7_1 x7_1.length k7_1] 73 (0, 0)), (b2, .cells #[.int .i64 y.2.2.2.2.2.2.2.2.2.2.2.1] 49 (0, 0)), (b1, .cells #[.int .i64 y.2.2.2.2.2.2.2.2.2.2.2.2.1, .int .i64 y.2.2.2.2.2.2.2.2.2.2.2.2.2.1, .int .i64 y.2.2.2.2.2.2.2.2.2.2.2.2.2.2.1, .int .i64 y.2.2.2.2.2.2.2.2.2.2.2.2.2.2.2] 27 (0, 0))]) [] (fun y => []) [_, _] (fun y => (law43_BoundsSteps_J8 (law43_BoundsSteps_L10 (law43_BoundsSteps_J5 x3 x6 x8_1 x7_1) x3 x4 x5 x7_1 xs2785) x3 x4 u2790.2.1 x7_1) y.1 y.2.1 y.2.2.1 y.2.2.2.1 y.2.2.2.2.1 y.2.2.2.2.2.1 y.2.2.2.2.2.2.1 y.2.2.2.2.2.2.2.1 y.2.2.2.2.2.2.2.2.1 y.2.2.2.2.2.2.2.2.2.1 y.2.2.2.2.2.2.2.2.2.2.1 y.2.2.2.2.2.2.2.2.2.2.2.1 y.2.2.2.2.2.2.2.2.2.2.2.2.1 y.2.2.2.2.2.2.2.2.2.2.2.2.2.1 y.2.2.2.2.2.2.2.2.2.2.2.2.2.2.1 y.2.2.2.2.2.2.2.2.2.2.2.2.2.2.2 = some r) ⟨rfl, rfl, rfl, rfl, rfl, rfl, rfl, rfl, rfl, rfl, rfl, rfl, trivial⟩ [] rfl [0, 1] rfl ?_ ?_
         ·intro y hI
          obtain ⟨v2898, v2899, v2900, v2901, v2902, v2903, v2904, v2905, v2906, v2907, v2908, v2909, v2910, v2911, v2912, v2913⟩ := y
          have r2915 := hI; clear hI
          try dsimp only at r2915
          refine Cov.prune [(114, _), (3, _), (4, _), (5, _), (6, _), (11, _), (16, _), (17, _), (19, _), (112, _), (113, _), (24, _)] ⟨rfl, rfl, rfl, rfl, rfl, rfl, rfl, rfl, rfl, rfl, rfl, rfl, trivial⟩ ?_;refine Cov.same (bl' := [(b23, .cells #[.slice a2794 u2790.2.1.length k2795, .int .i64 v2898] 97 (0, 0)), (b2789, .cells #[.int .i64 v2899, .int .i64 v2900, .int .i64 v2901, .int .i64 v2902] 27 (0, 0)), (b42, .cells #[.int .i64 v2903, .int .i64 v2904, .int .i64 v2905, .int .i64 v2906] 27 (0, 0)), (b4, .cells #[.int .i64 v2907, .slice a8_1 x8_1.length k8_1] 76 (0, 0)), (b3, .cells #[.int .i64 v2908, .slice a7_1 x7_1.length k7_1] 73 (0, 0)), (b2, .cells #[.int .i64 v2909] 49 (0, 0)), (b1, .cells #[.int .i64 v2910, .int .i64 v2911, .int .i64 v2912, .int .i64 v2913] 27 (0, 0))]) (sl' := [_, _]) (Fs' := G2753 :: Fs) rfl rfl rfl ?_
          unfold law43_BoundsSteps_J8 at r2915
          try dsimp only at r2915
          refine Cov.seq ?_;refine Cov.drawL (.q 0 (.q 1 (.q 5 (.e 2 1 (.e 3 1 (.q 4 .nil)))))) [_, _, _, _, _, _] (by kernel_rfl) (by kernel_rfl) (pick_mem [1, 2, 3, 4, 5, 6] rfl) ?_;refine Cov.dq (.load_own_a 3 [_, _] rfl rfl ty73 rfl) rfl ?_;refine Cov.dq (.move rfl) rfl ?_;refine Cov.dq (.move rfl) rfl ?_
          obtain ⟨u2927, hu2927, r2928⟩ := bind_some r2915; clear r2915
          refine Cov.callW (b1 := [_]) (b2 := [_, _, _, _, _, _]) (s1 := []) [_] [] .d1 rfl rfl Tryz.call24 rfl rfl (play_Dice_Hashing_c (G := G2753) List.mem_cons_self s2796 hu2927) rfl B2755 (fun v2930 bo so G2931 e2932 B2933 h2929 => ?_)
          obtain ⟨a2935, k2936, a2938, k2939, rfl, rfl, rfl, s2937, s2940⟩ := h2929
          refine Cov.same (bl' := [_, _, _, _, _, _, _]) (sl' := [_, _]) rfl rfl rfl ?_;refine Cov.clsL e2932 (pick_mem [1, 2, 3, 4, 5, 6] rfl) ?_
          refine Cov.lit [_, _, _, _] [(0, _), (1, _)] .d1 sl83 ty73 rfl rfl rfl rfl rfl rfl (fun b2941 hb2941 => ?_)
          have o2942 : OL (Rep.pair (Rep.int .i64) (Rep.sl (Rep.pair (Rep.int .i64) (Rep.int .i64)))) G2931 [.int .i64 v2908, .slice a7_1 x7_1.length k7_1, .int .i64 u2927.1.1, .slice a2935 u2927.1.2.length k2936] ([(v2908, x7_1), u2927.1] : List (Int × (List (Int × Int)))) := ((OL.cons rfl (Rep.pairI (Rep.intI .i64 v2908) (Rep.slI (SlR.mono (HpLe.trans e2754 e2932) s7_1))) (OL.cons rfl (Rep.pairI (Rep.intI .i64 u2927.1.1) (Rep.slI s2937)) (OL.nil (Rp' := (Rep.pair (Rep.int .i64) (Rep.sl (Rep.pair (Rep.int .i64) (Rep.int .i64)))))))) :)
          refine Cov.reval 157 (n' := ([(v2908, x7_1), u2927.1] : List (Int × (List (Int × Int)))).length) rfl rfl ?_;refine Cov.clsL e2932 (pick_mem [1, 2, 3, 4, 5, 6] rfl) ?_;refine Cov.dq (.len_sl rfl rfl sl83) rfl ?_;refine Cov.draw_end ?_;refine Cov.block ?_;refine Cov.pull 6 rfl [_, _, _, _, _, _, _] rfl ?_;refine Cov.pull 6 rfl [_, _, _, _, _, _, _] rfl ?_;refine Cov.pull 6 rfl [_, _, _, _, _, _, _] rfl ?_;refine Cov.pull 6 rfl [_, _, _, _, _, _, _] rfl ?_
          refine Cov.pull 6 rfl [_, _, _, _, _, _, _] rfl ?_;refine Cov.pull 6 rfl [_, _, _, _, _, _, _] rfl ?_;refine Cov.pull 6 rfl [_, _, _, _, _, _, _] rfl ?_
          refine Cov.loop2 (α := Nat × (List (Int × (List (Int × Int)))) × List Int × Option Addr × Nat × Int × Int × Int × Int × Int × Int × Int × Int × Int × Int × Int × Int × Int × Int × Int × Int) (fun y => [(159, .int .i64 (y.1 : Int))]) [(114, _), (3, _), (4, _), (5, _), (6, _), (11, _), (16, _), (17, _), (19, _), (112, _), (113, _), (24, _), (157, _), (158, _)] (fun y => []) (fun y => [(b23, .cells #[.slice y.2.2.2.1 y.2.2.1.length y.2.2.2.2.1, .int .i64 y.2.2.2.2.2.1] 97 (0, 0)), (b2789, .cells #[.int .i64 y.2.2.2.2.2.2.1, .int .i64 y.2.2.2.2.2.2.2.1, .int .i64 y.2.2.2.2.2.2.2.2.1, .int .i64 y.2.2.2.2.2.2.2.2.2.1] 27 (0, 0)), (b42, .cells #[.int .i64 y.2.2.2.2.2.2.2.2.2.2.1, .int .i64 y.2.2.2.2.2.2.2.2.2.2.2.1, .int .i64 y.2.2.2.2.2.2.2.2.2.2.2.2.1, .int .i64 y.2.2.2.2.2.2.2.2.2.2.2.2.2.1] 27 (0, 0)), (b4, .cells #[.int .i64 y.2.2.2.2.2.2.2.2.2.2.2.2.2.2.1, .slice a8_1 x8_1.length k8_1] 76 (0, 0)), (b3, .cells #[.int .i64 y.2.2.2.2.2.2.2.2.2.2.2.2.2.2.2.1, .slice a7_1 x7_1.length k7_1] 73 (0, 0)), (b2, .cells #[.int .i64 y.2.2.2.2.2.2.2.2.2.2.2.2.2.2.2.2.1] 49 (0, 0)), (b1, .cells #[.int .i64 y.2.2.2.2.2.2.2.2.2.2.2.2.2.2.2.2.2.1, .int .i64 y.2.2.2.2.2.2.2.2.2.2.2.2.2.2.2.2.2.2.1, .int .i64 y.2.2.2.2.2.2.2.2.2.2.2.2.2.2.2.2.2.2.2.1, .int .i64 y.2.2.2.2.2.2.2.2.2.2.2.2.2.2.2.2.2.2.2.2] 27 (0, 0))]) [] (fun y => []) [_, _, _] (fun y => SlR (Rep.int .u8) G2931 y.2.2.2.1 y.2.2.2.2.1 y.2.2.1 ∧ List.drop y.1 ([(v2908, x7_1), u2927.1] : List (Int × (List (Int × Int)))) = y.2.1 ∧ law43_BoundsSteps_L7 (law43_BoundsSteps_L10 (law43_BoundsSteps_J5 x3 x6 x8_1 x7_1) x3 x4 x5 x7_1 xs2785) x3 x4 y.2.1 y.2.2.1 y.2.2.2.2.2.1 y.2.2.2.2.2.2.1 y.2.2.2.2.2.2.2.1 y.2.2.2.2.2.2.2.2.1 y.2.2.2.2.2.2.2.2.2.1 y.2.2.2.2.2.2.2.2.2.2.1 y.2.2.2.2.2.2.2.2.2.2.2.1 y.2.2.2.2.2.2.2.2.2.2.2.2.1 y.2.2.2.2.2.2.2.2.2.2.2.2.2.1 y.2.2.2.2.2.2.2.2.2.2.2.2.2.2.1 y.2.2.2.2.2.2.2.2.2.2.2.2.2.2.2.1 y.2.2.2.2.2.2.2.2.2.2.2.2.2.2.2.2.1 y.2.2.2.2.2.2.2.2.2.2.2.2.2.2.2.2.2.1 y.2.2.2.2.2.2.2.2.2.2.2.2.2.2.2.2.2.2.1 y.2.2.2.2.2.2.2.2.2.2.2.2.2.2.2.2.2.2.2.1 y.2.2.2.2.2.2.2.2.2.2.2.2.2.2.2.2.2.2.2.2 = some r) (fun y => y.2.1.length) (0, ([(v2908, x7_1), u2927.1] : List (Int × (List (Int × Int)))), u2927.2.1, a2938, k2939, u2927.2.2, v2899, v2900, v2901, v2902, v2903, v2904, v2905, v2906, v2907, v2908, v2909, v2910, v2911, v2912, v2913) ⟨s2940, rfl, r2928⟩ ⟨rfl, rfl, rfl, rfl, rfl, rfl, rfl, rfl, rfl, rfl, rfl, rfl, rfl, rfl, rfl, trivial⟩ rfl rfl rfl (fun y hI hb3124 => ?_)
          obtain ⟨i3100, w3101, v3103, a3104, k3105, v3107, v3108, v3109, v3110, v3111, v3112, v3113, v3114, v3115, v3116, v3117, v3118, v3119, v3120, v3121, v3122⟩ := y
          obtain ⟨s3106, g3102, r3123⟩ := hI
          try dsimp only at s3106 g3102 r3123
          refine Cov.prune [(159, .int .i64 (i3100 : Int)), (114, _), (3, _), (4, _), (5, _), (6, _), (11, _), (16, _), (17, _), (19, _), (112, _), (113, _), (24, _), (157, _), (158, _)] ⟨rfl, rfl, rfl, rfl, rfl, rfl, rfl, rfl, rfl, rfl, rfl, rfl, rfl, rfl, rfl, trivial⟩ ?_;refine Cov.same (bl' := [(b23, .cells #[.slice a3104 v3103.length k3105, .int .i64 v3107] 97 (0, 0)), (b2789, .cells #[.int .i64 v3108, .int .i64 v3109, .int .i64 v3110, .int .i64 v3111] 27 (0, 0)), (b42, .cells #[.int .i64 v3112, .int .i64 v3113, .int .i64 v3114, .int .i64 v3115] 27 (0, 0)), (b4, .cells #[.int .i64 v3116, .slice a8_1 x8_1.length k8_1] 76 (0, 0)), (b3, .cells #[.int .i64 v3117, .slice a7_1 x7_1.length k7_1] 73 (0, 0)), (b2, .cells #[.int .i64 v3118] 49 (0, 0)), (b1, .cells #[.int .i64 v3119, .int .i64 v3120, .int .i64 v3121, .int .i64 v3122] 27 (0, 0))]) (sl' := [_, _, _]) (Fs' := G2931 :: Fs) rfl rfl rfl ?_
          cases w3101 with
          | nil =>
           rw [law43_BoundsSteps_L7] at r3123; try dsimp only at r3123
           refine Cov.seq ?_;refine Cov.region rfl ?_;refine Cov.q .ro (.lss rfl rfl) rfl ?_;refine Cov.region_end ?_;refine Cov.seq ?_
           refine Cov.cond_dec rfl (fun c => absurd c (drop_nil g3102)) (fun _ => ?_)
           refine Cov.exit rfl ?_;refine Cov.inBlock ?_;refine Cov.region rfl ?_;refine Cov.q .ro (.addw rfl rfl) rfl ?_;refine Cov.q .ro (.move rfl) rfl ?_;refine Cov.region_end ?_;refine Cov.pull 6 rfl [_, _, _, _, _, _, _] rfl ?_;refine Cov.pull 6 rfl [_, _, _, _, _, _, _] rfl ?_;refine Cov.pull 6 rfl [_, _, _, _, _, _, _] rfl ?_
           refine Cov.pull 6 rfl [_, _, _, _, _, _, _] rfl ?_;refine Cov.pull 6 rfl [_, _, _, _, _, _, _] rfl ?_;refine Cov.pull 5 rfl [_, _, _, _, _, _, _] rfl ?_;refine Cov.pull 6 rfl [_, _, _, _, _, _, _] rfl ?_;refine Cov.drop 1 0 [_, _, _, _, _, _] _ rfl rfl ?_;refine Cov.drop 0 2 _ [_] rfl rfl ?_
           refine Cov.prune _ ?_ (Cov.same rfl rfl rfl (hb2774 ((i2750 + 1), xs2785, G2931, v3103, a3104, k3105, v3107, v3112, v3113, v3114, v3115, v3116, v3117, v3118, v3119, v3120, v3121, v3122) ⟨(HpLe.trans e2754 e2932), B2933, s3106, (drop_succ g2752), r3123⟩ (Nat.lt_succ_self _)))
           exact ⟨(congrArg (fun z => some (Value.int .i64 z)) (idx_wrap (OL.len' o92) g2752)), rfl, rfl, rfl, rfl, rfl, rfl, rfl, rfl, rfl, rfl, trivial⟩
          | cons x3138 xs3139 =>
           have r3137 : law43_BoundsSteps_B7 (law43_BoundsSteps_L10 (law43_BoundsSteps_J5 x3 x6 x8_1 x7_1) x3 x4 x5 x7_1 xs2785) x3 x4 (law43_BoundsSteps_L7 (law43_BoundsSteps_L10 (law43_BoundsSteps_J5 x3 x6 x8_1 x7_1) x3 x4 x5 x7_1 xs2785) x3 x4 xs3139) x3138 v3103 v3107 v3108 v3109 v3110 v3111 v3112 v3113 v3114 v3115 v3116 v3117 v3118 v3119 v3120 v3121 v3122 = some r := r3123; clear r3123; unfold law43_BoundsSteps_B7 at r3137; try dsimp only at r3137
           refine Cov.seq ?_;refine Cov.region rfl ?_;refine Cov.q .ro (.lss rfl rfl) rfl ?_;refine Cov.region_end ?_;refine Cov.seq ?_
           refine Cov.cond_dec rfl (fun _ => ?_) (fun c => absurd (drop_lt g3102) c)
           refine Cov.skip ?_;refine Cov.seq ?_;refine Cov.block ?_;refine Cov.seq ?_;refine Cov.region rfl ?_
           obtain ⟨c3140, p3141, h3142⟩ := OL.get o2942 (drop_idx g3102)
           obtain ⟨_, _, rfl, rfl, a3143, k3144, rfl, s3145⟩ := h3142
           refine Cov.q .ro (.idxO 0 rfl rfl rfl (drop_idx g3102) sl83 ty73.sz) rfl ?_;refine Cov.q .ro (.loadO_a 0 0 [_, _] rfl (drop_idx g3102) p3141 rfl (.inl ⟨rfl, rfl⟩) ty73 rfl) rfl ?_
           refine Cov.alloc .ro ty73 rfl (fun b3146 hb3146 => ?_)
           refine Cov.store 0 [_, _] [_, _, _, _, _, _, _, _] .ro rfl rfl rfl ty73 rfl rfl rfl rfl ?_;refine Cov.region_end ?_;refine Cov.seq ?_;refine Cov.region rfl ?_;refine Cov.q .ro (.move rfl) rfl ?_;refine Cov.q .ro (.min2 rfl rfl) rfl ?_;refine Cov.q .ro (.move rfl) rfl ?_;refine Cov.q .ro (.build_a [_, _] [(0, _), (1, _)] ty84 ar84 ty3.sz rfl rfl) rfl ?_;refine Cov.q .ro (.move rfl) rfl ?_
           obtain ⟨u3147, hu3147, r3148⟩ := bind_some r3137; clear r3137
           refine Cov.pull 1 rfl [_, _, _, _, _, _, _, _] rfl ?_
           refine Cov.callS (b1 := [_]) (b2 := [_, _, _, _, _, _, _]) (s1 := []) [_, _] [] .ro rfl rfl Tryz.call25 rfl rfl (play_Dice_Pick_c (G := G2931) List.mem_cons_self s3106 hu3147) rfl (fun v3150 bo so h3149 => ?_)
           obtain ⟨a3151, k3152, rfl, rfl, rfl, s3153⟩ := h3149
           refine Cov.same (bl' := [_, _, _, _, _, _, _, _]) (sl' := [_, _, _]) rfl rfl rfl ?_;refine Cov.q .ro (.addw rfl rfl) rfl ?_;refine Cov.q .ro (.move rfl) rfl ?_
           obtain ⟨u3154, hu3154, r3155⟩ := bind_some r3148; clear r3148
           refine Cov.callS (b1 := [_]) (b2 := [_, _, _, _, _, _, _]) (s1 := []) [_, _] [] .ro rfl rfl Tryz.call25 rfl rfl (play_Dice_Pick_c (G := G2931) List.mem_cons_self s3153 hu3154) rfl (fun v3157 bo so h3156 => ?_)
           obtain ⟨a3158, k3159, rfl, rfl, rfl, s3160⟩ := h3156
           refine Cov.same (bl' := [_, _, _, _, _, _, _, _]) (sl' := [_, _, _]) rfl rfl rfl ?_;refine Cov.q .ro (.addw rfl rfl) rfl ?_;refine Cov.q .ro (.build_a [_, _] [(0, _), (1, _)] ty84 ar84 ty3.sz rfl rfl) rfl ?_;refine Cov.q .ro (.build_a [_, _] [(0, _), (1, _)] ty84 ar84 ty3.sz rfl rfl) rfl ?_
           refine Cov.lit [_, _, _, _, _, _] [(0, _), (1, _), (2, _)] .ro sl86 ty84 rfl rfl rfl rfl rfl rfl (fun b3161 hb3161 => ?_)
           have o3162 : OL (Rep.pair (Rep.int .i64) (Rep.int .i64)) G2931 [.int .i64 (min x3 30), .int .i64 x4, .int .i64 (w64 (1 + u3147.1)), .int .i64 (w64 (1 + u3154.1)), .int .i64 3, .int .i64 0] ([((min x3 30), x4), ((w64 (1 + u3147.1)), (w64 (1 + u3154.1))), (3, 0)] : List (Int × Int)) := ((OL.cons rfl (Rep.pairI (Rep.intI .i64 (min x3 30)) (Rep.intI .i64 x4)) (OL.cons rfl (Rep.pairI (Rep.intI .i64 (w64 (1 + u3147.1))) (Rep.intI .i64 (w64 (1 + u3154.1)))) (OL.cons rfl (Rep.pairI (Rep.intI .i64 3) (Rep.intI .i64 0)) (OL.nil (Rp' := (Rep.pair (Rep.int .i64) (Rep.int .i64))))))) :)
           refine Cov.reval 175 (n' := ([((min x3 30), x4), ((w64 (1 + u3147.1)), (w64 (1 + u3154.1))), (3, 0)] : List (Int × Int)).length) rfl rfl ?_;refine Cov.q .ro (.len_sl rfl rfl sl86) rfl ?_;refine Cov.q .ro (.move rfl) rfl ?_;refine Cov.region_end ?_;refine Cov.prune [(159, _), (114, _), (3, _), (4, _), (5, _), (6, _), (11, _), (16, _), (17, _), (19, _), (112, _), (113, _), (24, _), (157, _), (158, _), (32, _), (175, _), (176, _), (177, _)] ⟨rfl, rfl, rfl, rfl, rfl, rfl, rfl, rfl, rfl, rfl, rfl, rfl, rfl, rfl, rfl, rfl, rfl, rfl, rfl, trivial⟩ ?_;refine Cov.block ?_
           refine Cov.loop2 (α := Nat × (List (Int × Int))) (fun y => [(177, .int .i64 (y.1 : Int))]) [(159, _), (114, _), (3, _), (4, _), (5, _), (6, _), (11, _), (16, _), (17, _), (19, _), (112, _), (113, _), (24, _), (157, _), (158, _), (32, _), (175, _), (176, _)] (fun y => []) (fun y => []) [_, _, _, _, _, _, _, _] (fun y => []) [_, _, _, _] (fun y => List.drop y.1 ([((min x3 30), x4), ((w64 (1 + u3147.1)), (w64 (1 + u3154.1))), (3, 0)] : List (Int × Int)) = y.2 ∧ law43_BoundsSteps_L6 (law43_BoundsSteps_L7 (law43_BoundsSteps_L10 (law43_BoundsSteps_J5 x3 x6 x8_1 x7_1) x3 x4 x5 x7_1 xs2785) x3 x4 xs3139) u3154.2.1 u3154.2.2 x3138.1 x3138.2 v3108 v3109 v3110 v3111 v3112 v3113 v3114 v3115 v3116 v3117 v3118 v3119 v3120 v3121 v3122 y.2  = some r) (fun y => y.2.length) (0, ([((min x3 30), x4), ((w64 (1 + u3147.1)), (w64 (1 + u3154.1))), (3, 0)] : List (Int × Int))) ⟨rfl, r3155⟩ ⟨rfl, rfl, rfl, rfl, rfl, rfl, rfl, rfl, rfl, rfl, rfl, rfl, rfl, rfl, rfl, rfl, rfl, rfl, rfl, trivial⟩ rfl rfl rfl (fun y hI hb3214 => ?_)
           obtain ⟨i3210, w3211⟩ := y
           obtain ⟨g3212, r3213⟩ := hI
           try dsimp only at g3212 r3213
           refine Cov.prune [(177, .int .i64 (i3210 : Int)), (159, _), (114, _), (3, _), (4, _), (5, _), (6, _), (11, _), (16, _), (17, _), (19, _), (112, _), (113, _), (24, _), (157, _), (158, _), (32, _), (175, _), (176, _)] ⟨rfl, rfl, rfl, rfl, rfl, rfl, rfl, rfl, rfl, rfl, rfl, rfl, rfl, rfl, rfl, rfl, rfl, rfl, rfl, trivial⟩ ?_;refine Cov.same (bl' := [_, _, _, _, _, _, _, _]) (sl' := [_, _, _, _]) (Fs' := G2931 :: Fs) rfl rfl rfl ?_
           cases w3211 with
           | nil =>
            rw [law43_BoundsSteps_L6] at r3213; try dsimp only at r3213
            refine Cov.seq ?_;refine Cov.region rfl ?_;refine Cov.q .ro (.lss rfl rfl) rfl ?_;refine Cov.region_end ?_;refine Cov.seq ?_
            refine Cov.cond_dec rfl (fun c => absurd c (drop_nil g3212)) (fun _ => ?_)
            refine Cov.exit rfl ?_;refine Cov.inBlock ?_;refine Cov.region rfl ?_;refine Cov.q .ro (.addw rfl rfl) rfl ?_;refine Cov.q .ro (.move rfl) rfl ?_;refine Cov.region_end ?_;refine Cov.pull 7 rfl [_, _, _, _, _, _, _, _] rfl ?_;refine Cov.pull 7 rfl [_, _, _, _, _, _, _, _] rfl ?_;refine Cov.pull 7 rfl [_, _, _, _, _, _, _, _] rfl ?_
            refine Cov.pull 7 rfl [_, _, _, _, _, _, _, _] rfl ?_;refine Cov.pull 7 rfl [_, _, _, _, _, _, _, _] rfl ?_;refine Cov.pull 7 rfl [_, _, _, _, _, _, _, _] rfl ?_;refine Cov.pull 6 rfl [_, _, _, _, _, _, _, _] rfl ?_;refine Cov.pull 7 rfl [_, _, _, _, _, _, _, _] rfl ?_;refine Cov.drop 1 0 [_, _, _, _, _, _, _] _ rfl rfl ?_;refine Cov.drop 0 1 _ [_, _, _] rfl rfl ?_
            refine Cov.prune _ ?_ (Cov.same rfl rfl rfl (hb3124 ((i3100 + 1), xs3139, u3154.2.1, a3158, k3159, u3154.2.2, v3108, v3109, v3110, v3111, v3112, v3113, v3114, v3115, v3116, v3117, v3118, v3119, v3120, v3121, v3122) ⟨s3160, (drop_succ g3102), r3213⟩ (Nat.lt_succ_self _)))
            exact ⟨(congrArg (fun z => some (Value.int .i64 z)) (idx_wrap (OL.len' o2942) g3102)), rfl, rfl, rfl, rfl, rfl, rfl, rfl, rfl, rfl, rfl, rfl, rfl, rfl, rfl, trivial⟩
           | cons x3250 xs3251 =>
            have r3249 : law43_BoundsSteps_B6 (law43_BoundsSteps_L7 (law43_BoundsSteps_L10 (law43_BoundsSteps_J5 x3 x6 x8_1 x7_1) x3 x4 x5 x7_1 xs2785) x3 x4 xs3139) u3154.2.1 u3154.2.2 x3138.1 x3138.2 v3108 v3109 v3110 v3111 v3112 v3113 v3114 v3115 v3116 v3117 v3118 v3119 v3120 v3121 v3122 (law43_BoundsSteps_L6 (law43_BoundsSteps_L7 (law43_BoundsSteps_L10 (law43_BoundsSteps_J5 x3 x6 x8_1 x7_1) x3 x4 x5 x7_1 xs2785) x3 x4 xs3139) u3154.2.1 u3154.2.2 x3138.1 x3138.2 v3108 v3109 v3110 v3111 v3112 v3113 v3114 v3115 v3116 v3117 v3118 v3119 v3120 v3121 v3122 xs3251) x3250  = some r := r3213; clear r3213; unfold law43_BoundsSteps_B6 at r3249; try dsimp only at r3249
            refine Cov.seq ?_;refine Cov.region rfl ?_;refine Cov.q .ro (.lss rfl rfl) rfl ?_;refine Cov.region_end ?_;refine Cov.seq ?_
            refine Cov.cond_dec rfl (fun _ => ?_) (fun c => absurd (drop_lt g3212) c)
            refine Cov.skip ?_;refine Cov.seq ?_;refine Cov.block ?_;refine Cov.seq ?_;refine Cov.region rfl ?_
            obtain ⟨c3252, p3253, h3254⟩ := OL.get o3162 (drop_idx g3212)
            obtain ⟨_, _, rfl, rfl, rfl⟩ := h3254
            refine Cov.q .ro (.idxO 0 rfl rfl rfl (drop_idx g3212) sl86 ty84.sz) rfl ?_;refine Cov.q .ro (.loadO_a 0 0 [_, _] rfl (drop_idx g3212) p3253 rfl (.inl ⟨rfl, rfl⟩) ty84 rfl) rfl ?_
            refine Cov.alloc .ro ty84 rfl (fun b3255 hb3255 => ?_)
            refine Cov.store 0 [_, _] [_, _, _, _, _, _, _, _, _] .ro rfl rfl rfl ty84 rfl rfl rfl rfl ?_;refine Cov.region_end ?_;refine Cov.seq ?_;refine Cov.region rfl ?_;refine Cov.q .ro (.load_own_a 2 [_, _] rfl rfl ty73 rfl) rfl ?_;refine Cov.q .ro (.load_own_a 3 [_, _, _, _] rfl rfl ty27 rfl) rfl ?_;refine Cov.q .ro (.indexAddr_ar 0 rfl rfl ar84 ty3.sz (by decide) (by decide) rfl) rfl ?_;refine Cov.q .ro (.load_own 0 rfl rfl ty3 rfl) rfl ?_;refine Cov.q .ro (.indexAddr_ar 1 rfl rfl ar84 ty3.sz (by decide) (by decide) rfl) rfl ?_
            refine Cov.q .ro (.load_own 0 rfl rfl ty3 rfl) rfl ?_
            obtain ⟨u3256, hu3256, r3257⟩ := bind_some r3249; clear r3249
            refine Cov.callS (b1 := []) (b2 := [_, _, _, _, _, _, _, _, _]) (s1 := []) [_, _, _, _] [] .ro rfl rfl Tryz.call26 rfl rfl (bounds_Batched_c (G := G2931) List.mem_cons_self s3145 hu3256) rfl (fun v3259 bo so h3258 => ?_)
            obtain ⟨rfl, rfl, rfl⟩ := h3258
            refine Cov.same (bl' := [_, _, _, _, _, _, _, _, _]) (sl' := [_, _, _, _]) rfl rfl rfl ?_;refine Cov.q .ro (.move rfl) rfl ?_;refine Cov.q .ro (.extract rfl rfl) rfl ?_;refine Cov.q .ro (.extract rfl rfl) rfl ?_
            refine Cov.alloc .ro ty88 rfl (fun b3260 hb3260 => ?_)
            refine Cov.store 0 [_, _, _] [_, _, _, _, _, _, _, _, _, _] .ro rfl rfl rfl ty88 rfl rfl rfl rfl ?_;refine Cov.q .ro (.assign rfl) rfl ?_;refine Cov.region_end ?_;refine Cov.prune [(177, _), (159, _), (114, _), (3, _), (4, _), (5, _), (6, _), (11, _), (16, _), (17, _), (19, _), (112, _), (113, _), (24, _), (157, _), (158, _), (32, _), (175, _), (176, _), (34, _), (35, _), (36, _)] ⟨rfl, rfl, rfl, rfl, rfl, rfl, rfl, rfl, rfl, rfl, rfl, rfl, rfl, rfl, rfl, rfl, rfl, rfl, rfl, rfl, rfl, rfl, trivial⟩ ?_;refine Cov.seq ?_;refine Cov.region rfl ?_;refine Cov.q .ro (.load_own_a 3 [_, _] rfl rfl ty73 rfl) rfl ?_;refine Cov.q .ro (.load_own_a 4 [_, _, _, _] rfl rfl ty27 rfl) rfl ?_;refine Cov.q .ro (.indexAddr_ar 0 rfl rfl ar84 ty3.sz (by decide) (by decide) rfl) rfl ?_
            refine Cov.q .ro (.load_own 1 rfl rfl ty3 rfl) rfl ?_;refine Cov.q .ro (.indexAddr_ar 1 rfl rfl ar84 ty3.sz (by decide) (by decide) rfl) rfl ?_;refine Cov.q .ro (.load_own 1 rfl rfl ty3 rfl) rfl ?_
            obtain ⟨u3261, hu3261, r3262⟩ := bind_some r3257; clear r3257
            refine Cov.callS (b1 := []) (b2 := [_, _, _, _, _, _, _, _, _, _]) (s1 := []) [_, _, _, _] [] .ro rfl rfl Tryz.call27 rfl rfl (ref43_Batched_c (G := G2931) List.mem_cons_self s3145 hu3261) rfl (fun v3264 bo so h3263 => ?_)
            obtain ⟨rfl, rfl, rfl⟩ := h3263
            refine Cov.same (bl' := [_, _, _, _, _, _, _, _, _, _]) (sl' := [_, _, _, _]) rfl rfl rfl ?_;refine Cov.q .ro (.move rfl) rfl ?_;refine Cov.q .ro (.extract rfl rfl) rfl ?_;refine Cov.q .ro (.extract rfl rfl) rfl ?_
            refine Cov.alloc .ro ty88 rfl (fun b3265 hb3265 => ?_)
            refine Cov.store 0 [_, _, _] [_, _, _, _, _, _, _, _, _, _, _] .ro rfl rfl rfl ty88 rfl rfl rfl rfl ?_;refine Cov.q .ro (.assign rfl) rfl ?_;refine Cov.region_end ?_;refine Cov.seq ?_;refine Cov.region rfl ?_;refine Cov.q .ro (.load_own_a 1 [_, _, _] rfl rfl ty88 rfl) rfl ?_;refine Cov.q .ro (.load_own_a 0 [_, _, _] rfl rfl ty88 rfl) rfl ?_;refine Cov.q .ro (.cast (show Value.bool (decide (([u3256.1.1, u3256.1.2.1, u3256.1.2.2] : List Int) ≠ ([u3261.1.1, u3261.1.2.1, u3261.1.2.2] : List Int))) = Value.bool (decide ((u3256.1.1, u3256.1.2.1, u3256.1.2.2) ≠ (u3261.1.1, u3261.1.2.1, u3261.1.2.2))) from congrArg Value.bool (decide_eq_decide.2 (by simp))) (.neq_i [u3256.1.1, u3256.1.2.1, u3256.1.2.2] [u3261.1.1, u3261.1.2.1, u3261.1.2.2] Tryz.underlying88 (by kernel_rfl) Tryz.stoodInHeld88 Tryz.eqGuardType88 rfl rfl rfl rfl)) rfl ?_;refine Cov.q .ro (.move rfl) rfl ?_
            refine Cov.cutR 4 (β := Unit) (fun y => [(208, .bool (decide (((u3256.1.1, u3256.1.2.1, u3256.1.2.2) ≠ (u3261.1.1, u3261.1.2.1, u3261.1.2.2)) ∨ (u3256.2 ≠ u3261.2))))]) [(177, _), (159, _), (114, _), (3, _), (4, _), (5, _), (6, _), (11, _), (16, _), (17, _), (19, _), (112, _), (113, _), (24, _), (157, _), (158, _), (32, _), (175, _), (176, _)] (fun y => G2931 :: Fs) (fun y => []) [_, _, _, _, _, _, _, _, _, _, _] (fun y => []) [_, _, _, _] (fun y => True) ⟨rfl, rfl, rfl, rfl, rfl, rfl, rfl, rfl, rfl, rfl, rfl, rfl, rfl, rfl, rfl, rfl, rfl, rfl, rfl, trivial⟩ [0, 1, 2, 3, 4, 5, 6, 7, 8, 9, 10] rfl [0, 1, 2, 3] rfl ?_ ?_
            ·rintro _ _
             refine Cov.prune [(208, .bool (decide (((u3256.1.1, u3256.1.2.1, u3256.1.2.2) ≠ (u3261.1.1, u3261.1.2.1, u3261.1.2.2)) ∨ (u3256.2 ≠ u3261.2)))), (177, _), (159, _), (114, _), (3, _), (4, _), (5, _), (6, _), (11, _), (16, _), (17, _), (19, _), (112, _), (113, _), (24, _), (157, _), (158, _), (32, _), (175, _), (176, _)] ⟨rfl, rfl, rfl, rfl, rfl, rfl, rfl, rfl, rfl, rfl, rfl, rfl, rfl, rfl, rfl, rfl, rfl, rfl, rfl, rfl, trivial⟩ ?_;refine Cov.same (bl' := [_, _, _, _, _, _, _, _, _, _, _]) (sl' := [_, _, _, _]) (Fs' := G2931 :: Fs) rfl rfl rfl ?_;refine Cov.region_end ?_
             refine Cov.cond_dec rfl (fun c3270 => ?_) (fun c3270 => ?_)
             ·have r3271 := ifT r3262 c3270; clear r3262
              refine Cov.seq ?_;refine Cov.region rfl ?_;refine Cov.q .ro (.assign rfl) rfl ?_;refine Cov.region_end ?_;refine Cov.prune [(18, _)] ⟨rfl, trivial⟩ ?_
              cases r3271
              refine Cov.drop 11 0 [] _ rfl rfl ?_;refine Cov.drop 0 4 _ [] rfl rfl ?_
              refine Cov.retS (c := ⟨4, none⟩) (.inr ⟨_, rfl⟩) [.tmp 18] [_] rfl Tryz.func4 Tryz.results4 ⟨RV.tmp rfl, trivial⟩ (fun _ h => List.mem_cons_of_mem _ h) ⟨rfl, rfl, rfl⟩
             ·have r3272 := ifF r3262 c3270; clear r3262
              refine Cov.skip ?_;refine Cov.inBlock ?_;refine Cov.region rfl ?_;refine Cov.q .ro (.addw rfl rfl) rfl ?_;refine Cov.q .ro (.move rfl) rfl ?_;refine Cov.region_end ?_;refine Cov.drop 3 0 [_, _, _, _, _, _, _, _] _ rfl rfl ?_
              refine Cov.prune _ ?_ (Cov.same rfl rfl rfl (hb3214 ((i3210 + 1), xs3251) ⟨(drop_succ g3212), r3272⟩ (Nat.lt_succ_self _)))
              exact ⟨(congrArg (fun z => some (Value.int .i64 z)) (idx_wrap (OL.len' o3162) g3212)), rfl, rfl, rfl, rfl, rfl, rfl, rfl, rfl, rfl, rfl, rfl, rfl, rfl, rfl, rfl, rfl, rfl, rfl, trivial⟩
            ·intro hb3267
             refine Cov.split 204 rfl (fun c3266 => ?_) (fun c3266 => ?_)
             ·refine Cov.g_off rfl rfl rfl ?_
              refine Cov.g_off rfl rfl rfl ?_;refine Cov.g_off rfl rfl rfl ?_;refine Cov.q .ro (.pick_t rfl rfl) rfl ?_
              refine Cov.prune _ ?_ (Cov.same rfl rfl rfl (hb3267 () trivial))
              exact ⟨dor_t c3266, rfl, rfl, rfl, rfl, rfl, rfl, rfl, rfl, rfl, rfl, rfl, rfl, rfl, rfl, rfl, rfl, rfl, rfl, rfl, trivial⟩
             ·refine Cov.g_on rfl ?_
              refine Cov.q .ro (.move rfl) rfl ?_;refine Cov.g_on rfl ?_;refine Cov.q .ro (.move rfl) rfl ?_;refine Cov.g_on rfl ?_;refine Cov.q .ro (.neq rfl rfl) rfl ?_;refine Cov.q .ro (.pick_f rfl rfl) rfl ?_
              refine Cov.prune _ ?_ (Cov.same rfl rfl rfl (hb3267 () trivial))
              exact ⟨dor_f c3266, rfl, rfl, rfl, rfl, rfl, rfl, rfl, rfl, rfl, rfl, rfl, rfl, rfl, rfl, rfl, rfl, rfl, rfl, rfl, trivial⟩
         ·intro hb3273
          refine Cov.block ?_
          refine Cov.loop2 (α := Nat × List Int) (fun y => [(123, .int .i64 (y.1 : Int))]) [(114, _), (3, _), (4, _), (5, _), (6, _), (11, _), (16, _), (17, _), (19, _), (112, _), (113, _), (24, _), (121, _), (122, _)] (fun y => []) (fun y => []) [_, _, _, _, _, _, _] (fun y => []) [_, _] (fun y => List.drop y.1 ([v2768, u2790.1] : List Int) = y.2 ∧ law43_BoundsSteps_L9 (law43_BoundsSteps_J8 (law43_BoundsSteps_L10 (law43_BoundsSteps_J5 x3 x6 x8_1 x7_1) x3 x4 x5 x7_1 xs2785) x3 x4 u2790.2.1 x7_1) x3 x5 u2790.2.2 x2784.1 x2784.2.1 x2784.2.2.1 x2784.2.2.2 v2762 v2763 v2764 v2765 v2766 v2767 v2768 v2769 v2770 v2771 v2772 y.2  = some r) (fun y => y.2.length) (0, ([v2768, u2790.1] : List Int)) ⟨rfl, r2791⟩ ⟨rfl, rfl, rfl, rfl, rfl, rfl, rfl, rfl, rfl, rfl, rfl, rfl, rfl, rfl, rfl, trivial⟩ rfl rfl rfl (fun y hI hb3321 => ?_)
          obtain ⟨i3317, w3318⟩ := y
          obtain ⟨g3319, r3320⟩ := hI
          try dsimp only at g3319 r3320
          refine Cov.prune [(123, .int .i64 (i3317 : Int)), (114, _), (3, _), (4, _), (5, _), (6, _), (11, _), (16, _), (17, _), (19, _), (112, _), (113, _), (24, _), (121, _), (122, _)] ⟨rfl, rfl, rfl, rfl, rfl, rfl, rfl, rfl, rfl, rfl, rfl, rfl, rfl, rfl, rfl, trivial⟩ ?_;refine Cov.same (bl' := [_, _, _, _, _, _, _]) (sl' := [_, _]) (Fs' := G2753 :: Fs) rfl rfl rfl ?_
          cases w3318 with
          | nil =>
           rw [law43_BoundsSteps_L9] at r3320; try dsimp only at r3320
           refine Cov.seq ?_;refine Cov.region rfl ?_;refine Cov.q .ro (.lss rfl rfl) rfl ?_;refine Cov.region_end ?_;refine Cov.seq ?_
           refine Cov.cond_dec rfl (fun c => absurd c (drop_nil g3319)) (fun _ => ?_)
           refine Cov.exit rfl ?_
           refine Cov.prune _ ?_ (Cov.same rfl rfl rfl (hb3273 (u2790.2.2, x2784.1, x2784.2.1, x2784.2.2.1, x2784.2.2.2, v2762, v2763, v2764, v2765, v2766, v2767, v2768, v2769, v2770, v2771, v2772) r3320))
           exact ⟨rfl, rfl, rfl, rfl, rfl, rfl, rfl, rfl, rfl, rfl, rfl, rfl, trivial⟩
          | cons x3351 xs3352 =>
           have r3350 : law43_BoundsSteps_B9 (law43_BoundsSteps_J8 (law43_BoundsSteps_L10 (law43_BoundsSteps_J5 x3 x6 x8_1 x7_1) x3 x4 x5 x7_1 xs2785) x3 x4 u2790.2.1 x7_1) x3 x5 u2790.2.2 x2784.1 x2784.2.1 x2784.2.2.1 x2784.2.2.2 v2762 v2763 v2764 v2765 v2766 v2767 v2768 v2769 v2770 v2771 v2772 (law43_BoundsSteps_L9 (law43_BoundsSteps_J8 (law43_BoundsSteps_L10 (law43_BoundsSteps_J5 x3 x6 x8_1 x7_1) x3 x4 x5 x7_1 xs2785) x3 x4 u2790.2.1 x7_1) x3 x5 u2790.2.2 x2784.1 x2784.2.1 x2784.2.2.1 x2784.2.2.2 v2762 v2763 v2764 v2765 v2766 v2767 v2768 v2769 v2770 v2771 v2772 xs3352) x3351  = some r := r3320; clear r3320; unfold law43_BoundsSteps_B9 at r3350; try dsimp only at r3350
           refine Cov.seq ?_;refine Cov.region rfl ?_;refine Cov.q .ro (.lss rfl rfl) rfl ?_;refine Cov.region_end ?_;refine Cov.seq ?_
           refine Cov.cond_dec rfl (fun _ => ?_) (fun c => absurd (drop_lt g3319) c)
           refine Cov.skip ?_;refine Cov.seq ?_;refine Cov.block ?_;refine Cov.seq ?_;refine Cov.region rfl ?_
           obtain ⟨c3353, p3354, h3355⟩ := OL.get o2798 (drop_idx g3319)
           obtain rfl := h3355
           refine Cov.q .ro (.idxO 0 rfl rfl rfl (drop_idx g3319) sl81 ty49.sz) rfl ?_;refine Cov.q .ro (.loadO_a 0 0 [_] rfl (drop_idx g3319) p3354 rfl (.inl ⟨rfl, rfl⟩) ty49 rfl) rfl ?_
           refine Cov.alloc .ro ty49 rfl (fun b3356 hb3356 => ?_)
           refine Cov.store 0 [_] [_, _, _, _, _, _, _, _] .ro rfl rfl rfl ty49 rfl rfl rfl rfl ?_;refine Cov.region_end ?_;refine Cov.seq ?_;refine Cov.region rfl ?_;refine Cov.q .ro (.load_own_a 2 [_, _, _, _] rfl rfl ty27 rfl) rfl ?_;refine Cov.q .ro (.load_own_a 0 [_] rfl rfl ty49 rfl) rfl ?_;refine Cov.q .ro (.move rfl) rfl ?_;refine Cov.q .ro (.min2 rfl rfl) rfl ?_;refine Cov.q .ro (.move rfl) rfl ?_
           obtain ⟨u3357, hu3357, r3358⟩ := bind_some r3350; clear r3350
           refine Cov.callS (b1 := []) (b2 := [_, _, _, _, _, _, _, _]) (s1 := []) [_, _, _, _] [] .ro rfl rfl Tryz.call11 rfl rfl (bounds_Draws_c (G := G2753) List.mem_cons_self  hu3357) rfl (fun v3360 bo so h3359 => ?_)
           obtain ⟨rfl, rfl, rfl⟩ := h3359
           refine Cov.same (bl' := [_, _, _, _, _, _, _, _]) (sl' := [_, _]) rfl rfl rfl ?_;refine Cov.q .ro (.move rfl) rfl ?_;refine Cov.q .ro (.extract rfl rfl) rfl ?_;refine Cov.q .ro (.extract rfl rfl) rfl ?_;refine Cov.q .ro (.assign rfl) rfl ?_;refine Cov.q .ro (.assign rfl) rfl ?_;refine Cov.region_end ?_;refine Cov.seq ?_;refine Cov.region rfl ?_
           refine Cov.q .ro (.load_own_a 2 [_, _, _, _] rfl rfl ty27 rfl) rfl ?_;refine Cov.q .ro (.load_own_a 0 [_] rfl rfl ty49 rfl) rfl ?_;refine Cov.q .ro (.move rfl) rfl ?_;refine Cov.q .ro (.min2 rfl rfl) rfl ?_;refine Cov.q .ro (.move rfl) rfl ?_
           obtain ⟨u3361, hu3361, r3362⟩ := bind_some r3358; clear r3358
           refine Cov.callS (b1 := []) (b2 := [_, _, _, _, _, _, _, _]) (s1 := []) [_, _, _, _] [] .ro rfl rfl Tryz.call23 rfl rfl (ref43_Draws_c (G := G2753) List.mem_cons_self  hu3361) rfl (fun v3364 bo so h3363 => ?_)
           obtain ⟨rfl, rfl, rfl⟩ := h3363
           refine Cov.same (bl' := [_, _, _, _, _, _, _, _]) (sl' := [_, _]) rfl rfl rfl ?_;refine Cov.q .ro (.move rfl) rfl ?_;refine Cov.q .ro (.extract rfl rfl) rfl ?_;refine Cov.q .ro (.extract rfl rfl) rfl ?_;refine Cov.q .ro (.assign rfl) rfl ?_;refine Cov.q .ro (.assign rfl) rfl ?_;refine Cov.region_end ?_;refine Cov.prune [(123, _), (114, _), (3, _), (4, _), (5, _), (6, _), (11, _), (16, _), (17, _), (19, _), (112, _), (113, _), (24, _), (121, _), (122, _), (27, _), (28, _), (29, _), (30, _)] ⟨rfl, rfl, rfl, rfl, rfl, rfl, rfl, rfl, rfl, rfl, rfl, rfl, rfl, rfl, rfl, rfl, rfl, rfl, rfl, trivial⟩ ?_;refine Cov.seq ?_
           refine Cov.region rfl ?_;refine Cov.q .ro (.move rfl) rfl ?_;refine Cov.q .ro (.move rfl) rfl ?_;refine Cov.q .ro (.neq rfl rfl) rfl ?_;refine Cov.q .ro (.move rfl) rfl ?_;refine Cov.cutR 4 (β := Unit) (fun y => [(152, .bool (decide ((u3357.1 ≠ u3361.1) ∨ (u3357.2 ≠ u3361.2))))]) [(123, _), (114, _), (3, _), (4, _), (5, _), (6, _), (11, _), (16, _), (17, _), (19, _), (112, _), (113, _), (24, _), (121, _), (122, _)] (fun y => G2753 :: Fs) (fun y => []) [_, _, _, _, _, _, _, _] (fun y => []) [_, _] (fun y => True) ⟨rfl, rfl, rfl, rfl, rfl, rfl, rfl, rfl, rfl, rfl, rfl, rfl, rfl, rfl, rfl, trivial⟩ [0, 1, 2, 3, 4, 5, 6, 7] rfl [0, 1] rfl ?_ ?_
           ·rintro _ _
            refine Cov.prune [(152, .bool (decide ((u3357.1 ≠ u3361.1) ∨ (u3357.2 ≠ u3361.2)))), (123, _), (114, _), (3, _), (4, _), (5, _), (6, _), (11, _), (16, _), (17, _), (19, _), (112, _), (113, _), (24, _), (121, _), (122, _)] ⟨rfl, rfl, rfl, rfl, rfl, rfl, rfl, rfl, rfl, rfl, rfl, rfl, rfl, rfl, rfl, rfl, trivial⟩ ?_;refine Cov.same (bl' := [_, _, _, _, _, _, _, _]) (sl' := [_, _]) (Fs' := G2753 :: Fs) rfl rfl rfl ?_;refine Cov.region_end ?_
            refine Cov.cond_dec rfl (fun c3369 => ?_) (fun c3369 => ?_)
            ·have r3370 := ifT r3362 c3369; clear r3362
             refine Cov.seq ?_;refine Cov.region rfl ?_;refine Cov.q .ro (.assign rfl) rfl ?_;refine Cov.region_end ?_;refine Cov.prune [(18, _)] ⟨rfl, trivial⟩ ?_
             cases r3370
             refine Cov.drop 8 0 [] _ rfl rfl ?_;refine Cov.drop 0 2 _ [] rfl rfl ?_
             refine Cov.retS (c := ⟨4, none⟩) (.inr ⟨_, rfl⟩) [.tmp 18] [_] rfl Tryz.func4 Tryz.results4 ⟨RV.tmp rfl, trivial⟩ (fun _ h => List.mem_cons_of_mem _ h) ⟨rfl, rfl, rfl⟩
            ·have r3371 := ifF r3362 c3369; clear r3362
             refine Cov.skip ?_;refine Cov.inBlock ?_;refine Cov.region rfl ?_;refine Cov.q .ro (.addw rfl rfl) rfl ?_;refine Cov.q .ro (.move rfl) rfl ?_;refine Cov.region_end ?_;refine Cov.drop 1 0 [_, _, _, _, _, _, _] _ rfl rfl ?_
             refine Cov.prune _ ?_ (Cov.same rfl rfl rfl (hb3321 ((i3317 + 1), xs3352) ⟨(drop_succ g3319), r3371⟩ (Nat.lt_succ_self _)))
             exact ⟨(congrArg (fun z => some (Value.int .i64 z)) (idx_wrap (OL.len' o2798) g3319)), rfl, rfl, rfl, rfl, rfl, rfl, rfl, rfl, rfl, rfl, rfl, rfl, rfl, rfl, trivial⟩
           ·intro hb3366
            refine Cov.split 148 rfl (fun c3365 => ?_) (fun c3365 => ?_)
            ·refine Cov.g_off rfl rfl rfl ?_
             refine Cov.g_off rfl rfl rfl ?_;refine Cov.g_off rfl rfl rfl ?_;refine Cov.q .ro (.pick_t rfl rfl) rfl ?_
             refine Cov.prune _ ?_ (Cov.same rfl rfl rfl (hb3366 () trivial))
             exact ⟨dor_t c3365, rfl, rfl, rfl, rfl, rfl, rfl, rfl, rfl, rfl, rfl, rfl, rfl, rfl, rfl, rfl, trivial⟩
            ·refine Cov.g_on rfl ?_
             refine Cov.q .ro (.move rfl) rfl ?_;refine Cov.g_on rfl ?_;refine Cov.q .ro (.move rfl) rfl ?_;refine Cov.g_on rfl ?_;refine Cov.q .ro (.neq rfl rfl) rfl ?_;refine Cov.q .ro (.pick_f rfl rfl) rfl ?_
             refine Cov.prune _ ?_ (Cov.same rfl rfl rfl (hb3366 () trivial))
             exact ⟨dor_f c3365, rfl, rfl, rfl, rfl, rfl, rfl, rfl, rfl, rfl, rfl, rfl, rfl, rfl, rfl, rfl, trivial⟩
     ·intro hb75
      refine Cov.split_b 97 rfl (fun c74 => ?_) (fun c74 => ?_)
      ·have r3372 := ifT h77 c74
       refine Cov.dgq_off rfl rfl rfl ?_;refine Cov.dgq_off rfl rfl rfl ?_;refine Cov.dgq_off rfl rfl rfl ?_;refine Cov.dgq_off rfl rfl rfl ?_;refine Cov.dgq_off rfl rfl rfl ?_;refine Cov.dgq_off rfl rfl rfl ?_;refine Cov.dge_offL rfl rfl rfl (HpLe.refl _) (pick_mem [0, 1, 2, 3, 4, 5] rfl) ?_;refine Cov.dge_offL rfl rfl rfl (HpLe.refl _) (pick_mem [0, 1, 2, 3, 4, 5] rfl) ?_;refine Cov.dgq_off rfl rfl rfl ?_
       refine Cov.dq (.pick_t rfl rfl) rfl ?_
       refine Cov.prune _ ?_ (Cov.same rfl rfl rfl (hb75 () trivial))
       exact ⟨sval r3372, rfl, rfl, rfl, rfl, rfl, rfl, rfl, rfl, rfl, rfl, trivial⟩
      ·have r3373 := ifBF h77 c74
       refine Cov.dgq_on rfl ?_;refine Cov.dq (.load_own_a 0 [_, _, _, _] rfl rfl ty27 rfl) rfl ?_;refine Cov.dgq_on rfl ?_;refine Cov.dq (.move rfl) rfl ?_;refine Cov.dgq_on rfl ?_;refine Cov.dq (.move rfl) rfl ?_;refine Cov.dgq_on rfl ?_;refine Cov.dq (.load_own_a 0 [_, _, _, _] rfl rfl ty27 rfl) rfl ?_;refine Cov.dgq_on rfl ?_
       refine Cov.dq (.move rfl) rfl ?_;refine Cov.dgq_on rfl ?_;refine Cov.dq (.move rfl) rfl ?_;refine Cov.dge_on rfl ?_
       obtain ⟨u3374, hu3374, r3375⟩ := bind_some r3373; clear r3373
       refine Cov.callS (b1 := []) (b2 := [_, _, _, _, _, _]) (s1 := []) [_, _, _] [] .d1 rfl rfl Tryz.call14 rfl rfl (bounds_Steps_c (G := G) List.mem_cons_self  hu3374) rfl (fun v3377 bo so h3376 => ?_)
       obtain ⟨rfl, rfl, rfl⟩ := h3376
       refine Cov.same (bl' := [_, _, _, _, _, _]) (sl' := []) rfl rfl rfl ?_;refine Cov.clsL (HpLe.refl _) (pick_mem [0, 1, 2, 3, 4, 5] rfl) ?_;refine Cov.dge_on rfl ?_
       obtain ⟨u3378, hu3378, r3379⟩ := bind_some r3375; clear r3375
       refine Cov.callS (b1 := []) (b2 := [_, _, _, _, _, _]) (s1 := []) [_, _, _] [] .d1 rfl rfl Tryz.call20 rfl rfl (ref43_Steps_c (G := G) List.mem_cons_self  hu3378) rfl (fun v3381 bo so h3380 => ?_)
       obtain ⟨rfl, rfl, rfl⟩ := h3380
       refine Cov.same (bl' := [_, _, _, _, _, _]) (sl' := []) rfl rfl rfl ?_;refine Cov.clsL (HpLe.refl _) (pick_mem [0, 1, 2, 3, 4, 5] rfl) ?_;refine Cov.dgq_on rfl ?_;refine Cov.dq (.neq rfl rfl) rfl ?_;refine Cov.dq (.pick_f rfl rfl) rfl ?_
       refine Cov.prune _ ?_ (Cov.same rfl rfl rfl (hb75 () trivial))
       exact ⟨sval r3379, rfl, rfl, rfl, rfl, rfl, rfl, rfl, rfl, rfl, rfl, trivial⟩
    ·intro hb60
     refine Cov.split 86 rfl (fun c59 => ?_) (fun c59 => ?_)
     ·have r3382 := ifT h62 c59
      refine Cov.dgq_off rfl rfl rfl ?_;refine Cov.dgq_off rfl rfl rfl ?_;refine Cov.dgq_off rfl rfl rfl ?_;refine Cov.dgq_off rfl rfl rfl ?_;refine Cov.dgq_off rfl rfl rfl ?_;refine Cov.dgq_off rfl rfl rfl ?_;refine Cov.dge_offL rfl rfl rfl (HpLe.refl _) (pick_mem [0, 1, 2, 3, 4, 5] rfl) ?_;refine Cov.dge_offL rfl rfl rfl (HpLe.refl _) (pick_mem [0, 1, 2, 3, 4, 5] rfl) ?_;refine Cov.dgq_off rfl rfl rfl ?_
      refine Cov.dq (.pick_t rfl rfl) rfl ?_
      refine Cov.prune _ ?_ (Cov.same rfl rfl rfl (hb60 () trivial))
      exact ⟨sval r3382, rfl, rfl, rfl, rfl, rfl, rfl, rfl, rfl, rfl, rfl, rfl, rfl, trivial⟩
     ·have r3383 := ifF h62 c59
      refine Cov.dgq_on rfl ?_;refine Cov.dq (.load_own_a 0 [_, _, _, _] rfl rfl ty27 rfl) rfl ?_;refine Cov.dgq_on rfl ?_;refine Cov.dq (.move rfl) rfl ?_;refine Cov.dgq_on rfl ?_;refine Cov.dq (.move rfl) rfl ?_;refine Cov.dgq_on rfl ?_;refine Cov.dq (.load_own_a 0 [_, _, _, _] rfl rfl ty27 rfl) rfl ?_;refine Cov.dgq_on rfl ?_
      refine Cov.dq (.move rfl) rfl ?_;refine Cov.dgq_on rfl ?_;refine Cov.dq (.move rfl) rfl ?_;refine Cov.dge_on rfl ?_
      obtain ⟨u3384, hu3384, r3385⟩ := bind_some r3383; clear r3383
      refine Cov.callS (b1 := []) (b2 := [_, _, _, _, _, _]) (s1 := []) [_, _, _] [] .d1 rfl rfl Tryz.call18 rfl rfl (bounds_Words_c (G := G) List.mem_cons_self  hu3384) rfl (fun v3387 bo so h3386 => ?_)
      obtain ⟨rfl, rfl, rfl⟩ := h3386
      refine Cov.same (bl' := [_, _, _, _, _, _]) (sl' := []) rfl rfl rfl ?_;refine Cov.clsL (HpLe.refl _) (pick_mem [0, 1, 2, 3, 4, 5] rfl) ?_;refine Cov.dge_on rfl ?_
      obtain ⟨u3388, hu3388, r3389⟩ := bind_some r3385; clear r3385
      refine Cov.callS (b1 := []) (b2 := [_, _, _, _, _, _]) (s1 := []) [_, _, _] [] .d1 rfl rfl Tryz.call19 rfl rfl (ref43_Words_c (G := G) List.mem_cons_self  hu3388) rfl (fun v3391 bo so h3390 => ?_)
      obtain ⟨rfl, rfl, rfl⟩ := h3390
      refine Cov.same (bl' := [_, _, _, _, _, _]) (sl' := []) rfl rfl rfl ?_;refine Cov.clsL (HpLe.refl _) (pick_mem [0, 1, 2, 3, 4, 5] rfl) ?_;refine Cov.dgq_on rfl ?_;refine Cov.dq (.neq rfl rfl) rfl ?_;refine Cov.dq (.pick_f rfl rfl) rfl ?_
      refine Cov.prune _ ?_ (Cov.same rfl rfl rfl (hb60 () trivial))
      exact ⟨sval r3389, rfl, rfl, rfl, rfl, rfl, rfl, rfl, rfl, rfl, rfl, rfl, rfl, trivial⟩
  ·intro hb13
   refine Cov.split 63 rfl (fun c12 => ?_) (fun c12 => ?_)
   ·refine Cov.g_off rfl rfl rfl ?_
    refine Cov.g_off rfl rfl rfl ?_;refine Cov.g_off rfl rfl rfl ?_;refine Cov.g_off rfl rfl rfl ?_;refine Cov.q .ro (.pick_t rfl rfl) rfl ?_
    refine Cov.prune _ ?_ (Cov.same rfl rfl rfl (hb13 () trivial))
    exact ⟨dor_t c12, rfl, rfl, rfl, rfl, rfl, rfl, rfl, rfl, rfl, trivial⟩
   ·refine Cov.g_on rfl ?_
    refine Cov.q .ro (.fieldAddr 1 rfl fl76_1 ty74.sz rfl) rfl ?_;refine Cov.g_on rfl ?_;refine Cov.q .ro (.load_own 0 rfl rfl ty74 rfl) rfl ?_;refine Cov.g_on rfl ?_;refine Cov.q .ro (.len_sl rfl rfl sl74) rfl ?_;refine Cov.g_on rfl ?_;refine Cov.q .ro (.gtr rfl rfl) rfl ?_;refine Cov.q .ro (.pick_f rfl rfl) rfl ?_
    refine Cov.prune _ ?_ (Cov.same rfl rfl rfl (hb13 () trivial))
    exact ⟨dor_f c12, rfl, rfl, rfl, rfl, rfl, rfl, rfl, rfl, rfl, trivial⟩
end Go.Proofs.YtnfalgmfmiolbaaGreat
end
