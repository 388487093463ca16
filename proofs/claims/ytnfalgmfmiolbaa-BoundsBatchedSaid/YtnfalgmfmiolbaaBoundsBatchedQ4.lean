/- What the proof needs, gathered by wip/gen/shake.py. -/
import Derived.Calls
import Derived.Deep.Quiet
import Derived.Below
import Derived.Laws.AppendOwn
import Derived.WalkKit
import Derived.Laws.OwnMore
import Derived.Deep.Slices
import Derived.ChangeOld
import Derived.ArgAppend
import Derived.RangeFuncIn
import Derived.RangeFuncRecord
import Derived.RangeFuncLeaves
import Derived.Laws.MakeOwn
import Derived.IntWalk
import Derived.Laws.IdiomStrings
import Derived.Laws.Cover3
import Derived.Laws.CopyOwn
import Derived.MapKept
import Derived.RangeFuncNested
import Derived.Test.YtnfalgmfmiolbaaRows
import Derived.ProofKit
import Derived.OpenShut
import Derived.ShutString
import Derived.Test.YtnfalgmfmiolbaaBoundsBatchedQ3

section
namespace Go.Proofs.Ytnfalgmfmiolbaa
open Go.RowKit
set_option linter.unusedSimpArgs false
set_option linter.unusedVariables false
set_option synthInstance.maxSize 2000
set_option synthInstance.maxHeartbeats 400000
set_option maxHeartbeats 4000000 in
set_option maxRecDepth 100000 in
theorem cuckoo_Check_c {Fs : List Hp} {G : Hp} {x0_0 : Int} {a0_1 : Option Addr} {k0_1 : Nat} {x0_1 : List (Int × Int)} {r : Int} (hG : G ∈ Fs) (s0_1 : SlR (Rep.pair (Rep.int .i64) (Rep.int .i64)) G a0_1 k0_1 x0_1) (h : cuckoo_Check (x0_0, x0_1) = some r) : RetS Try.prog 30 #[.agg #[.int .i64 x0_0, .slice a0_1 x0_1.length k0_1]] Fs [] [] (fun v bo so => v = .int .i64 r ∧ bo = [] ∧ so = []) := by
  unfold cuckoo_Check at h
  try dsimp only at h
  refine RetS.of (vs := [_]) Try.func30 rfl Try.ntmps30 [(0, _)] ⟨rfl, trivial⟩ rfl hG fun w0 S0 hS0 B0 => ?_
  refine Cov.seq ?_
  refine Cov.region rfl ?_
  refine Cov.box [_, _] .ro rfl rfl rfl (fun b1 hb1 => ?_)
  refine Cov.q .ro (.assign rfl) rfl ?_
  refine Cov.region_end ?_
  refine Cov.seq ?_
  refine Cov.seq ?_
  refine Cov.region rfl ?_
  refine Cov.q .ro (.fieldAddr 0 rfl fl28_0 ty3.sz rfl) rfl ?_
  refine Cov.q .ro (.load_own 0 rfl rfl ty3 rfl) rfl ?_
  refine Cov.q .ro (.lss rfl rfl) rfl ?_
  refine Cov.q .ro (.move rfl) rfl ?_
  refine Cov.cutR 4 (β := Unit) (fun y => [(12, .bool (decide ((x0_0 < 1) ∨ (64 < x0_0))))]) [(1, _)] (fun y => G :: Fs) (fun y => []) [_] (fun y => []) [] (fun y => True) ⟨rfl, trivial⟩ [0] rfl [] rfl ?_ ?_
  · rintro _ _
    refine Cov.prune [(12, .bool (decide ((x0_0 < 1) ∨ (64 < x0_0)))), (1, _)] ⟨rfl, rfl, trivial⟩ ?_
    refine Cov.same (bl' := [_]) (sl' := []) (Fs' := G :: Fs) rfl rfl rfl ?_
    refine Cov.q .ro (.move rfl) rfl ?_
    refine Cov.cutR 5 (β := Unit) (fun y => [(18, .bool (decide (((x0_0 < 1) ∨ (64 < x0_0)) ∨ ((x0_1.length : Int) < 1))))]) [(1, _)] (fun y => G :: Fs) (fun y => []) [_] (fun y => []) [] (fun y => True) ⟨rfl, trivial⟩ [0] rfl [] rfl ?_ ?_
    · rintro _ _
      refine Cov.prune [(18, .bool (decide (((x0_0 < 1) ∨ (64 < x0_0)) ∨ ((x0_1.length : Int) < 1)))), (1, _)] ⟨rfl, rfl, trivial⟩ ?_
      refine Cov.same (bl' := [_]) (sl' := []) (Fs' := G :: Fs) rfl rfl rfl ?_
      refine Cov.q .ro (.move rfl) rfl ?_
      refine Cov.cutR 5 (β := Unit) (fun y => [(24, .bool (decide ((((x0_0 < 1) ∨ (64 < x0_0)) ∨ ((x0_1.length : Int) < 1)) ∨ (4 < (x0_1.length : Int)))))]) [(1, _)] (fun y => G :: Fs) (fun y => []) [_] (fun y => []) [] (fun y => True) ⟨rfl, trivial⟩ [0] rfl [] rfl ?_ ?_
      · rintro _ _
        refine Cov.prune [(24, .bool (decide ((((x0_0 < 1) ∨ (64 < x0_0)) ∨ ((x0_1.length : Int) < 1)) ∨ (4 < (x0_1.length : Int))))), (1, _)] ⟨rfl, rfl, trivial⟩ ?_
        refine Cov.same (bl' := [_]) (sl' := []) (Fs' := G :: Fs) rfl rfl rfl ?_
        refine Cov.region_end ?_
        refine Cov.cond_dec rfl (fun c14 => ?_) (fun c14 => ?_)
        · have r15 := ifT h c14; clear h
          refine Cov.seq ?_
          refine Cov.region rfl ?_
          refine Cov.q .ro (.assign rfl) rfl ?_
          refine Cov.region_end ?_
          cases r15
          refine Cov.drop 1 0 [] _ rfl rfl ?_
          refine Cov.retS (c := ⟨30, none⟩) (.inr ⟨_, rfl⟩) [.tmp 2] [_] rfl Try.func30 Try.results30 ⟨RV.tmp rfl, trivial⟩ (fun _ h => List.mem_cons_of_mem _ h) ⟨rfl, rfl, rfl⟩
        · have r16 := ifF h c14; clear h
          refine Cov.skip ?_
          refine Cov.seq ?_
          refine Cov.seq ?_
          refine Cov.region rfl ?_
          refine Cov.q .ro (.fieldAddr 1 rfl fl28_1 ty26.sz rfl) rfl ?_
          refine Cov.q .ro (.load_own 0 rfl rfl ty26 rfl) rfl ?_
          refine Cov.q .ro (.len_sl rfl rfl sl26) rfl ?_
          refine Cov.q .ro (.move rfl) rfl ?_
          refine Cov.region_end ?_
          refine Cov.block ?_
          refine Cov.loop2 (α := Nat × (List (Int × Int))) (fun y => [(28, .int .i64 (y.1 : Int))]) [(26, _), (27, _)] (fun y => []) (fun y => []) [_] (fun y => []) [] (fun y => List.drop y.1 x0_1 = y.2 ∧ cuckoo_Check_L1 y.2  = some r) (fun y => y.2.length) (0, x0_1) ⟨rfl, r16⟩ ⟨rfl, rfl, rfl, trivial⟩ rfl rfl rfl (fun y hI hb49 => ?_)
          obtain ⟨i45, w46⟩ := y
          obtain ⟨g47, r48⟩ := hI
          try dsimp only at g47 r48
          refine Cov.prune [(28, .int .i64 (i45 : Int)), (26, _), (27, _)] ⟨rfl, rfl, rfl, trivial⟩ ?_
          refine Cov.same (bl' := [_]) (sl' := []) (Fs' := G :: Fs) rfl rfl rfl ?_
          cases w46 with
          | nil =>
            rw [cuckoo_Check_L1] at r48; try dsimp only at r48
            refine Cov.seq ?_
            refine Cov.region rfl ?_
            refine Cov.q .ro (.lss rfl rfl) rfl ?_
            refine Cov.region_end ?_
            refine Cov.seq ?_
            refine Cov.cond_dec rfl (fun c => absurd c (drop_nil g47)) (fun _ => ?_)
            refine Cov.exit rfl ?_
            refine Cov.seq ?_
            refine Cov.region rfl ?_
            refine Cov.q .ro (.assign rfl) rfl ?_
            refine Cov.region_end ?_
            cases r48
            refine Cov.drop 1 0 [] _ rfl rfl ?_
            refine Cov.retS (c := ⟨30, none⟩) (.inr ⟨_, rfl⟩) [.tmp 2] [_] rfl Try.func30 Try.results30 ⟨RV.tmp rfl, trivial⟩ (fun _ h => List.mem_cons_of_mem _ h) ⟨rfl, rfl, rfl⟩
          | cons x54 xs55 =>
            have r53 : cuckoo_Check_B1 (cuckoo_Check_L1 xs55) x54  = some r := r48; clear r48; unfold cuckoo_Check_B1 at r53; try dsimp only at r53
            refine Cov.seq ?_
            refine Cov.region rfl ?_
            refine Cov.q .ro (.lss rfl rfl) rfl ?_
            refine Cov.region_end ?_
            refine Cov.seq ?_
            refine Cov.cond_dec rfl (fun _ => ?_) (fun c => absurd (drop_lt g47) c)
            refine Cov.skip ?_
            refine Cov.seq ?_
            refine Cov.block ?_
            refine Cov.seq ?_
            refine Cov.region rfl ?_
            obtain ⟨c56, p57, h58⟩ := SlR.get s0_1 (drop_idx g47)
            obtain ⟨_, _, rfl, rfl, rfl⟩ := h58
            refine Cov.q .ro (.idxR s0_1 rfl rfl (drop_idx g47) sl26 ty68.sz) rfl ?_
            refine Cov.q .ro (.load_rp_a [_, _] p57 List.mem_cons_self rfl ty68 rfl) rfl ?_
            refine Cov.alloc .ro ty68 rfl (fun b59 hb59 => ?_)
            refine Cov.store 0 [_, _] [_, _] .ro rfl rfl rfl ty68 rfl rfl rfl rfl ?_
            refine Cov.region_end ?_
            refine Cov.seq ?_
            refine Cov.region rfl ?_
            refine Cov.q .ro (.fieldAddr 0 rfl fl68_0 ty3.sz rfl) rfl ?_
            refine Cov.q .ro (.load_own 0 rfl rfl ty3 rfl) rfl ?_
            refine Cov.q .ro (.lss rfl rfl) rfl ?_
            refine Cov.q .ro (.move rfl) rfl ?_
            refine Cov.cutR 4 (β := Unit) (fun y => [(39, .bool (decide ((x54.1 < 0) ∨ (2147483647 ≤ x54.1))))]) [(28, _), (26, _), (27, _), (4, _)] (fun y => G :: Fs) (fun y => []) [_, _] (fun y => []) [] (fun y => True) ⟨rfl, rfl, rfl, rfl, trivial⟩ [0, 1] rfl [] rfl ?_ ?_
            · rintro _ _
              refine Cov.prune [(39, .bool (decide ((x54.1 < 0) ∨ (2147483647 ≤ x54.1)))), (28, _), (26, _), (27, _), (4, _)] ⟨rfl, rfl, rfl, rfl, rfl, trivial⟩ ?_
              refine Cov.same (bl' := [_, _]) (sl' := []) (Fs' := G :: Fs) rfl rfl rfl ?_
              refine Cov.q .ro (.move rfl) rfl ?_
              refine Cov.cutR 4 (β := Unit) (fun y => [(44, .bool (decide (((x54.1 < 0) ∨ (2147483647 ≤ x54.1)) ∨ (x54.2 < 0))))]) [(28, _), (26, _), (27, _), (4, _)] (fun y => G :: Fs) (fun y => []) [_, _] (fun y => []) [] (fun y => True) ⟨rfl, rfl, rfl, rfl, trivial⟩ [0, 1] rfl [] rfl ?_ ?_
              · rintro _ _
                refine Cov.prune [(44, .bool (decide (((x54.1 < 0) ∨ (2147483647 ≤ x54.1)) ∨ (x54.2 < 0)))), (28, _), (26, _), (27, _), (4, _)] ⟨rfl, rfl, rfl, rfl, rfl, trivial⟩ ?_
                refine Cov.same (bl' := [_, _]) (sl' := []) (Fs' := G :: Fs) rfl rfl rfl ?_
                refine Cov.q .ro (.move rfl) rfl ?_
                refine Cov.cutR 4 (β := Unit) (fun y => [(49, .bool (decide ((((x54.1 < 0) ∨ (2147483647 ≤ x54.1)) ∨ (x54.2 < 0)) ∨ (2147483647 ≤ x54.2))))]) [(28, _), (26, _), (27, _)] (fun y => G :: Fs) (fun y => []) [_, _] (fun y => []) [] (fun y => True) ⟨rfl, rfl, rfl, trivial⟩ [0, 1] rfl [] rfl ?_ ?_
                · rintro _ _
                  refine Cov.prune [(49, .bool (decide ((((x54.1 < 0) ∨ (2147483647 ≤ x54.1)) ∨ (x54.2 < 0)) ∨ (2147483647 ≤ x54.2)))), (28, _), (26, _), (27, _)] ⟨rfl, rfl, rfl, rfl, trivial⟩ ?_
                  refine Cov.same (bl' := [_, _]) (sl' := []) (Fs' := G :: Fs) rfl rfl rfl ?_
                  refine Cov.region_end ?_
                  refine Cov.cond_dec rfl (fun c72 => ?_) (fun c72 => ?_)
                  · have r73 := ifT r53 c72; clear r53
                    refine Cov.seq ?_
                    refine Cov.region rfl ?_
                    refine Cov.q .ro (.assign rfl) rfl ?_
                    refine Cov.region_end ?_
                    cases r73
                    refine Cov.drop 2 0 [] _ rfl rfl ?_
                    refine Cov.retS (c := ⟨30, none⟩) (.inr ⟨_, rfl⟩) [.tmp 2] [_] rfl Try.func30 Try.results30 ⟨RV.tmp rfl, trivial⟩ (fun _ h => List.mem_cons_of_mem _ h) ⟨rfl, rfl, rfl⟩
                  · have r74 := ifF r53 c72; clear r53
                    refine Cov.skip ?_
                    refine Cov.inBlock ?_
                    refine Cov.region rfl ?_
                    refine Cov.q .ro (.addw rfl rfl) rfl ?_
                    refine Cov.q .ro (.move rfl) rfl ?_
                    refine Cov.region_end ?_
                    refine Cov.drop 1 0 [_] _ rfl rfl ?_
                    refine Cov.prune _ ?_ (Cov.same rfl rfl rfl (hb49 ((i45 + 1), xs55) ⟨(drop_succ g47), r74⟩ (Nat.lt_succ_self _)))
                    exact ⟨(congrArg (fun z => some (Value.int .i64 z)) (idx_wrap (SlR.len s0_1) g47)), rfl, rfl, trivial⟩
                · intro hb69
                  refine Cov.split 45 rfl (fun c68 => ?_) (fun c68 => ?_)
                  · refine Cov.g_off rfl rfl rfl ?_
                    refine Cov.g_off rfl rfl rfl ?_
                    refine Cov.g_off rfl rfl rfl ?_
                    refine Cov.q .ro (.pick_t rfl rfl) rfl ?_
                    refine Cov.prune _ ?_ (Cov.same rfl rfl rfl (hb69 () trivial))
                    exact ⟨dor_t c68, rfl, rfl, rfl, trivial⟩
                  · refine Cov.g_on rfl ?_
                    refine Cov.q .ro (.fieldAddr 1 rfl fl68_1 ty3.sz rfl) rfl ?_
                    refine Cov.g_on rfl ?_
                    refine Cov.q .ro (.load_own 0 rfl rfl ty3 rfl) rfl ?_
                    refine Cov.g_on rfl ?_
                    refine Cov.q .ro (.geq rfl rfl) rfl ?_
                    refine Cov.q .ro (.pick_f rfl rfl) rfl ?_
                    refine Cov.prune _ ?_ (Cov.same rfl rfl rfl (hb69 () trivial))
                    exact ⟨dor_f c68, rfl, rfl, rfl, trivial⟩
              · intro hb65
                refine Cov.split 40 rfl (fun c64 => ?_) (fun c64 => ?_)
                · refine Cov.g_off rfl rfl rfl ?_
                  refine Cov.g_off rfl rfl rfl ?_
                  refine Cov.g_off rfl rfl rfl ?_
                  refine Cov.q .ro (.pick_t rfl rfl) rfl ?_
                  refine Cov.prune _ ?_ (Cov.same rfl rfl rfl (hb65 () trivial))
                  exact ⟨dor_t c64, rfl, rfl, rfl, rfl, trivial⟩
                · refine Cov.g_on rfl ?_
                  refine Cov.q .ro (.fieldAddr 1 rfl fl68_1 ty3.sz rfl) rfl ?_
                  refine Cov.g_on rfl ?_
                  refine Cov.q .ro (.load_own 0 rfl rfl ty3 rfl) rfl ?_
                  refine Cov.g_on rfl ?_
                  refine Cov.q .ro (.lss rfl rfl) rfl ?_
                  refine Cov.q .ro (.pick_f rfl rfl) rfl ?_
                  refine Cov.prune _ ?_ (Cov.same rfl rfl rfl (hb65 () trivial))
                  exact ⟨dor_f c64, rfl, rfl, rfl, rfl, trivial⟩
            · intro hb61
              refine Cov.split 35 rfl (fun c60 => ?_) (fun c60 => ?_)
              · refine Cov.g_off rfl rfl rfl ?_
                refine Cov.g_off rfl rfl rfl ?_
                refine Cov.g_off rfl rfl rfl ?_
                refine Cov.q .ro (.pick_t rfl rfl) rfl ?_
                refine Cov.prune _ ?_ (Cov.same rfl rfl rfl (hb61 () trivial))
                exact ⟨dor_t c60, rfl, rfl, rfl, rfl, trivial⟩
              · refine Cov.g_on rfl ?_
                refine Cov.q .ro (.fieldAddr 0 rfl fl68_0 ty3.sz rfl) rfl ?_
                refine Cov.g_on rfl ?_
                refine Cov.q .ro (.load_own 0 rfl rfl ty3 rfl) rfl ?_
                refine Cov.g_on rfl ?_
                refine Cov.q .ro (.geq rfl rfl) rfl ?_
                refine Cov.q .ro (.pick_f rfl rfl) rfl ?_
                refine Cov.prune _ ?_ (Cov.same rfl rfl rfl (hb61 () trivial))
                exact ⟨dor_f c60, rfl, rfl, rfl, rfl, trivial⟩
      · intro hb11
        refine Cov.split 19 rfl (fun c10 => ?_) (fun c10 => ?_)
        · refine Cov.g_off rfl rfl rfl ?_
          refine Cov.g_off rfl rfl rfl ?_
          refine Cov.g_off rfl rfl rfl ?_
          refine Cov.g_off rfl rfl rfl ?_
          refine Cov.q .ro (.pick_t rfl rfl) rfl ?_
          refine Cov.prune _ ?_ (Cov.same rfl rfl rfl (hb11 () trivial))
          exact ⟨dor_t c10, rfl, trivial⟩
        · refine Cov.g_on rfl ?_
          refine Cov.q .ro (.fieldAddr 1 rfl fl28_1 ty26.sz rfl) rfl ?_
          refine Cov.g_on rfl ?_
          refine Cov.q .ro (.load_own 0 rfl rfl ty26 rfl) rfl ?_
          refine Cov.g_on rfl ?_
          refine Cov.q .ro (.len_sl rfl rfl sl26) rfl ?_
          refine Cov.g_on rfl ?_
          refine Cov.q .ro (.gtr rfl rfl) rfl ?_
          refine Cov.q .ro (.pick_f rfl rfl) rfl ?_
          refine Cov.prune _ ?_ (Cov.same rfl rfl rfl (hb11 () trivial))
          exact ⟨dor_f c10, rfl, trivial⟩
    · intro hb7
      refine Cov.split 13 rfl (fun c6 => ?_) (fun c6 => ?_)
      · refine Cov.g_off rfl rfl rfl ?_
        refine Cov.g_off rfl rfl rfl ?_
        refine Cov.g_off rfl rfl rfl ?_
        refine Cov.g_off rfl rfl rfl ?_
        refine Cov.q .ro (.pick_t rfl rfl) rfl ?_
        refine Cov.prune _ ?_ (Cov.same rfl rfl rfl (hb7 () trivial))
        exact ⟨dor_t c6, rfl, trivial⟩
      · refine Cov.g_on rfl ?_
        refine Cov.q .ro (.fieldAddr 1 rfl fl28_1 ty26.sz rfl) rfl ?_
        refine Cov.g_on rfl ?_
        refine Cov.q .ro (.load_own 0 rfl rfl ty26 rfl) rfl ?_
        refine Cov.g_on rfl ?_
        refine Cov.q .ro (.len_sl rfl rfl sl26) rfl ?_
        refine Cov.g_on rfl ?_
        refine Cov.q .ro (.lss rfl rfl) rfl ?_
        refine Cov.q .ro (.pick_f rfl rfl) rfl ?_
        refine Cov.prune _ ?_ (Cov.same rfl rfl rfl (hb7 () trivial))
        exact ⟨dor_f c6, rfl, trivial⟩
  · intro hb3
    refine Cov.split 8 rfl (fun c2 => ?_) (fun c2 => ?_)
    · refine Cov.g_off rfl rfl rfl ?_
      refine Cov.g_off rfl rfl rfl ?_
      refine Cov.g_off rfl rfl rfl ?_
      refine Cov.q .ro (.pick_t rfl rfl) rfl ?_
      refine Cov.prune _ ?_ (Cov.same rfl rfl rfl (hb3 () trivial))
      exact ⟨dor_t c2, rfl, trivial⟩
    · refine Cov.g_on rfl ?_
      refine Cov.q .ro (.fieldAddr 0 rfl fl28_0 ty3.sz rfl) rfl ?_
      refine Cov.g_on rfl ?_
      refine Cov.q .ro (.load_own 0 rfl rfl ty3 rfl) rfl ?_
      refine Cov.g_on rfl ?_
      refine Cov.q .ro (.gtr rfl rfl) rfl ?_
      refine Cov.q .ro (.pick_f rfl rfl) rfl ?_
      refine Cov.prune _ ?_ (Cov.same rfl rfl rfl (hb3 () trivial))
      exact ⟨dor_f c2, rfl, trivial⟩
set_option maxHeartbeats 4000000 in
set_option maxRecDepth 100000 in
theorem cuckoo_homes_c {Fs : List Hp} {G : Hp} {x0_0 : Int} {a0_1 : Option Addr} {k0_1 : Nat} {x0_1 : List (Int × Int)} {x1 : Int} {r : (List Int)} (hG : G ∈ Fs) (s0_1 : SlR (Rep.pair (Rep.int .i64) (Rep.int .i64)) G a0_1 k0_1 x0_1) (h : cuckoo_homes (x0_0, x0_1) x1 = some r) : RetS Try.prog 43 #[.agg #[.int .i64 x0_0, .slice a0_1 x0_1.length k0_1], .int .i64 x1] Fs [] [] (fun v bo so => ∃ (oa0 : Option Addr) (ok0 : Nat) (oc0 : List Value), v = .slice oa0 r.length ok0 ∧ bo = [] ∧ so = [.s (.slice oa0 r.length ok0) 3 1 r.length oc0] ∧ OL (Rep.int .i64) G oc0 r) := by
  unfold cuckoo_homes at h
  try dsimp only at h
  refine RetS.of (vs := [_, _]) Try.func43 rfl Try.ntmps43 [(0, _), (1, _)] ⟨rfl, rfl, trivial⟩ rfl hG fun w0 S0 hS0 B0 => ?_
  refine Cov.seq ?_
  refine Cov.region rfl ?_
  refine Cov.box [_, _] .ro rfl rfl rfl (fun b1 hb1 => ?_)
  refine Cov.q .ro (.assign rfl) rfl ?_
  refine Cov.region_end ?_
  refine Cov.seq ?_
  refine Cov.region rfl ?_
  refine Cov.q .ro (.assign rfl) rfl ?_
  refine Cov.region_end ?_
  refine Cov.seq ?_
  refine Cov.seq ?_
  refine Cov.region rfl ?_
  refine Cov.q .ro (.fieldAddr 1 rfl fl28_1 ty26.sz rfl) rfl ?_
  refine Cov.q .ro (.load_own 0 rfl rfl ty26 rfl) rfl ?_
  refine Cov.q .ro (.len_sl rfl rfl sl26) rfl ?_
  refine Cov.q .ro (.move rfl) rfl ?_
  refine Cov.region_end ?_
  refine Cov.block ?_
  refine Cov.own_nil 3 1 ?_
  refine Cov.loop2 (α := Nat × (List (Int × Int)) × List Int × Option Addr × Nat × List Value) (fun y => [(5, .slice y.2.2.2.1 y.2.2.1.length y.2.2.2.2.1), (11, .int .i64 (y.1 : Int))]) [(1, _), (2, _), (9, _), (10, _)] (fun y => []) (fun y => []) [_] (fun y => [.s (.slice y.2.2.2.1 y.2.2.1.length y.2.2.2.2.1) 3 1 y.2.2.1.length y.2.2.2.2.2]) [] (fun y => OL (Rep.int .i64) G y.2.2.2.2.2 y.2.2.1 ∧ List.drop y.1 x0_1 = y.2.1 ∧ cuckoo_homes_L1 x1 x0_0 y.2.1 y.2.2.1 = some r) (fun y => y.2.1.length) (0, x0_1, ([] : List Int), none, 0, []) ⟨(OL.nil (Rp' := (Rep.int .i64))), rfl, h⟩ ⟨rfl, rfl, rfl, rfl, rfl, rfl, trivial⟩ rfl rfl rfl (fun y hI hb66 => ?_)
  obtain ⟨i56, w57, v59, a60, k61, cs62⟩ := y
  obtain ⟨o63, g58, r65⟩ := hI
  try dsimp only at o63 g58 r65
  refine Cov.prune [(5, .slice a60 v59.length k61), (11, .int .i64 (i56 : Int)), (1, _), (2, _), (9, _), (10, _)] ⟨rfl, rfl, rfl, rfl, rfl, rfl, trivial⟩ ?_
  refine Cov.same (bl' := [_]) (sl' := [.s (.slice a60 v59.length k61) 3 1 v59.length cs62]) (Fs' := G :: Fs) rfl rfl rfl ?_
  cases w57 with
  | nil =>
    rw [cuckoo_homes_L1] at r65; try dsimp only at r65
    refine Cov.seq ?_
    refine Cov.region rfl ?_
    refine Cov.q .ro (.lss rfl rfl) rfl ?_
    refine Cov.region_end ?_
    refine Cov.seq ?_
    refine Cov.cond_dec rfl (fun c => absurd c (drop_nil g58)) (fun _ => ?_)
    refine Cov.exit rfl ?_
    refine Cov.seq ?_
    refine Cov.region rfl ?_
    refine Cov.q .ro (.move rfl) rfl ?_
    refine Cov.q .ro (.assign rfl) rfl ?_
    refine Cov.region_end ?_
    cases r65
    refine Cov.drop 1 0 [] _ rfl rfl ?_
    refine Cov.retS (c := ⟨43, none⟩) (.inr ⟨_, rfl⟩) [.tmp 4] [_] rfl Try.func43 Try.results43 ⟨RV.tmp rfl, trivial⟩ (fun _ h => List.mem_cons_of_mem _ h) ⟨a60, k61, cs62, rfl, rfl, rfl, o63⟩
  | cons x72 xs73 =>
    have r71 : cuckoo_homes_B1 x1 x0_0 (cuckoo_homes_L1 x1 x0_0 xs73) x72 v59 = some r := r65; clear r65; unfold cuckoo_homes_B1 at r71; try dsimp only at r71
    refine Cov.seq ?_
    refine Cov.region rfl ?_
    refine Cov.q .ro (.lss rfl rfl) rfl ?_
    refine Cov.region_end ?_
    refine Cov.seq ?_
    refine Cov.cond_dec rfl (fun _ => ?_) (fun c => absurd (drop_lt g58) c)
    refine Cov.skip ?_
    refine Cov.seq ?_
    refine Cov.block ?_
    refine Cov.seq ?_
    refine Cov.region rfl ?_
    obtain ⟨c74, p75, h76⟩ := SlR.get s0_1 (drop_idx g58)
    obtain ⟨_, _, rfl, rfl, rfl⟩ := h76
    refine Cov.q .ro (.idxR s0_1 rfl rfl (drop_idx g58) sl26 ty68.sz) rfl ?_
    refine Cov.q .ro (.load_rp_a [_, _] p75 List.mem_cons_self rfl ty68 rfl) rfl ?_
    refine Cov.alloc .ro ty68 rfl (fun b77 hb77 => ?_)
    refine Cov.store 0 [_, _] [_, _] .ro rfl rfl rfl ty68 rfl rfl rfl rfl ?_
    refine Cov.region_end ?_
    refine Cov.region rfl ?_
    refine Cov.q .ro (.move rfl) rfl ?_
    refine Cov.q .ro (.fieldAddr 0 rfl fl68_0 ty3.sz rfl) rfl ?_
    refine Cov.q .ro (.load_own 0 rfl rfl ty3 rfl) rfl ?_
    refine Cov.q .ro (.move rfl) rfl ?_
    refine Cov.q .ro (.mulw rfl rfl) rfl ?_
    refine Cov.q .ro (.fieldAddr 1 rfl fl68_1 ty3.sz rfl) rfl ?_
    refine Cov.q .ro (.load_own 0 rfl rfl ty3 rfl) rfl ?_
    refine Cov.q .ro (.addw rfl rfl) rfl ?_
    refine Cov.q .ro (.remt rfl rfl (by decide)) rfl ?_
    refine Cov.q .ro (.fieldAddr 0 rfl fl28_0 ty3.sz rfl) rfl ?_
    refine Cov.q .ro (.load_own 1 rfl rfl ty3 rfl) rfl ?_
    obtain ⟨u78, hu78, r79⟩ := bind_some r71; clear r71
    refine Cov.q .ro (.remt rfl rfl (nz_some hu78)) rfl ?_
    refine Cov.lit [_] [(0, _)] .ro sl35 ty3 rfl rfl rfl rfl rfl rfl (fun b80 hb80 => ?_)
    have o81 : OL (Rep.int .i64) G [.int .i64 (Int.tmod (Int.tmod (w64 ((w64 (x72.1 * x1)) + x72.2)) 2147483647) x0_0)] ([(Int.tmod (Int.tmod (w64 ((w64 (x72.1 * x1)) + x72.2)) 2147483647) x0_0)] : List Int) := ((OL.cons rfl (Rep.intI .i64 (Int.tmod (Int.tmod (w64 ((w64 (x72.1 * x1)) + x72.2)) 2147483647) x0_0)) (OL.nil (Rp' := (Rep.int .i64)))) :)
    refine Cov.reval 27 (n' := ([(Int.tmod (Int.tmod (w64 ((w64 (x72.1 * x1)) + x72.2)) 2147483647) x0_0)] : List Int).length) rfl rfl ?_
    obtain ⟨u87, hu87, r88⟩ := bind_some r79; clear r79
    refine Cov.appO (Q := (Rep.int .i64)) 0 .ro sl35 ty3 rfl rfl rfl rfl rfl rfl o63 o81 rfl rfl rfl B0 hu87 rfl (fun a83 k84 cs85 o86 => ?_)
    refine Cov.q .ro (.assign rfl) rfl ?_
    refine Cov.region_end ?_
    refine Cov.prune [(5, _), (11, _), (1, _), (2, _), (9, _), (10, _)] ⟨rfl, rfl, rfl, rfl, rfl, rfl, trivial⟩ ?_
    refine Cov.inBlock ?_
    refine Cov.region rfl ?_
    refine Cov.q .ro (.addw rfl rfl) rfl ?_
    refine Cov.q .ro (.move rfl) rfl ?_
    refine Cov.region_end ?_
    refine Cov.drop 1 0 [_] _ rfl rfl ?_
    refine Cov.prune _ ?_ (Cov.same rfl rfl rfl (hb66 ((i56 + 1), xs73, u87, a83, k84, cs85) ⟨o86, (drop_succ g58), r88⟩ (Nat.lt_succ_self _)))
    exact ⟨rfl, (congrArg (fun z => some (Value.int .i64 z)) (idx_wrap (SlR.len s0_1) g58)), rfl, rfl, rfl, rfl, trivial⟩
set_option maxHeartbeats 4000000 in
set_option maxRecDepth 100000 in
theorem ref19_Check_c {Fs : List Hp} {G : Hp} {x0_0 : Int} {a0_1 : Option Addr} {k0_1 : Nat} {x0_1 : List (Int × Int)} {r : Int} (hG : G ∈ Fs) (s0_1 : SlR (Rep.pair (Rep.int .i64) (Rep.int .i64)) G a0_1 k0_1 x0_1) (h : ref19_Check (x0_0, x0_1) = some r) : RetS Try.prog 39 #[.agg #[.int .i64 x0_0, .slice a0_1 x0_1.length k0_1]] Fs [] [] (fun v bo so => v = .int .i64 r ∧ bo = [] ∧ so = []) := by
  unfold ref19_Check at h
  try dsimp only at h
  refine RetS.of (vs := [_]) Try.func39 rfl Try.ntmps39 [(0, _)] ⟨rfl, trivial⟩ rfl hG fun w0 S0 hS0 B0 => ?_
  refine Cov.seq ?_
  refine Cov.region rfl ?_
  refine Cov.box [_, _] .ro rfl rfl rfl (fun b1 hb1 => ?_)
  refine Cov.q .ro (.assign rfl) rfl ?_
  refine Cov.region_end ?_
  refine Cov.seq ?_
  refine Cov.seq ?_
  refine Cov.region rfl ?_
  refine Cov.q .ro (.fieldAddr 0 rfl fl28_0 ty3.sz rfl) rfl ?_
  refine Cov.q .ro (.load_own 0 rfl rfl ty3 rfl) rfl ?_
  refine Cov.q .ro (.lss rfl rfl) rfl ?_
  refine Cov.q .ro (.move rfl) rfl ?_
  refine Cov.cutR 4 (β := Unit) (fun y => [(12, .bool (decide ((x0_0 < 1) ∨ (64 < x0_0))))]) [(1, _)] (fun y => G :: Fs) (fun y => []) [_] (fun y => []) [] (fun y => True) ⟨rfl, trivial⟩ [0] rfl [] rfl ?_ ?_
  · rintro _ _
    refine Cov.prune [(12, .bool (decide ((x0_0 < 1) ∨ (64 < x0_0)))), (1, _)] ⟨rfl, rfl, trivial⟩ ?_
    refine Cov.same (bl' := [_]) (sl' := []) (Fs' := G :: Fs) rfl rfl rfl ?_
    refine Cov.q .ro (.move rfl) rfl ?_
    refine Cov.cutR 5 (β := Unit) (fun y => [(18, .bool (decide (((x0_0 < 1) ∨ (64 < x0_0)) ∨ ((x0_1.length : Int) < 1))))]) [(1, _)] (fun y => G :: Fs) (fun y => []) [_] (fun y => []) [] (fun y => True) ⟨rfl, trivial⟩ [0] rfl [] rfl ?_ ?_
    · rintro _ _
      refine Cov.prune [(18, .bool (decide (((x0_0 < 1) ∨ (64 < x0_0)) ∨ ((x0_1.length : Int) < 1)))), (1, _)] ⟨rfl, rfl, trivial⟩ ?_
      refine Cov.same (bl' := [_]) (sl' := []) (Fs' := G :: Fs) rfl rfl rfl ?_
      refine Cov.q .ro (.move rfl) rfl ?_
      refine Cov.cutR 5 (β := Unit) (fun y => [(24, .bool (decide ((((x0_0 < 1) ∨ (64 < x0_0)) ∨ ((x0_1.length : Int) < 1)) ∨ (4 < (x0_1.length : Int)))))]) [(1, _)] (fun y => G :: Fs) (fun y => []) [_] (fun y => []) [] (fun y => True) ⟨rfl, trivial⟩ [0] rfl [] rfl ?_ ?_
      · rintro _ _
        refine Cov.prune [(24, .bool (decide ((((x0_0 < 1) ∨ (64 < x0_0)) ∨ ((x0_1.length : Int) < 1)) ∨ (4 < (x0_1.length : Int))))), (1, _)] ⟨rfl, rfl, trivial⟩ ?_
        refine Cov.same (bl' := [_]) (sl' := []) (Fs' := G :: Fs) rfl rfl rfl ?_
        refine Cov.region_end ?_
        refine Cov.cond_dec rfl (fun c14 => ?_) (fun c14 => ?_)
        · have r15 := ifT h c14; clear h
          refine Cov.seq ?_
          refine Cov.region rfl ?_
          refine Cov.q .ro (.assign rfl) rfl ?_
          refine Cov.region_end ?_
          cases r15
          refine Cov.drop 1 0 [] _ rfl rfl ?_
          refine Cov.retS (c := ⟨39, none⟩) (.inr ⟨_, rfl⟩) [.tmp 2] [_] rfl Try.func39 Try.results39 ⟨RV.tmp rfl, trivial⟩ (fun _ h => List.mem_cons_of_mem _ h) ⟨rfl, rfl, rfl⟩
        · have r16 := ifF h c14; clear h
          refine Cov.skip ?_
          refine Cov.seq ?_
          refine Cov.seq ?_
          refine Cov.region rfl ?_
          refine Cov.q .ro (.fieldAddr 1 rfl fl28_1 ty26.sz rfl) rfl ?_
          refine Cov.q .ro (.load_own 0 rfl rfl ty26 rfl) rfl ?_
          refine Cov.q .ro (.len_sl rfl rfl sl26) rfl ?_
          refine Cov.q .ro (.move rfl) rfl ?_
          refine Cov.region_end ?_
          refine Cov.block ?_
          refine Cov.loop2 (α := Nat × (List (Int × Int))) (fun y => [(28, .int .i64 (y.1 : Int))]) [(26, _), (27, _)] (fun y => []) (fun y => []) [_] (fun y => []) [] (fun y => List.drop y.1 x0_1 = y.2 ∧ ref19_Check_L1 y.2  = some r) (fun y => y.2.length) (0, x0_1) ⟨rfl, r16⟩ ⟨rfl, rfl, rfl, trivial⟩ rfl rfl rfl (fun y hI hb49 => ?_)
          obtain ⟨i45, w46⟩ := y
          obtain ⟨g47, r48⟩ := hI
          try dsimp only at g47 r48
          refine Cov.prune [(28, .int .i64 (i45 : Int)), (26, _), (27, _)] ⟨rfl, rfl, rfl, trivial⟩ ?_
          refine Cov.same (bl' := [_]) (sl' := []) (Fs' := G :: Fs) rfl rfl rfl ?_
          cases w46 with
          | nil =>
            rw [ref19_Check_L1] at r48; try dsimp only at r48
            refine Cov.seq ?_
            refine Cov.region rfl ?_
            refine Cov.q .ro (.lss rfl rfl) rfl ?_
            refine Cov.region_end ?_
            refine Cov.seq ?_
            refine Cov.cond_dec rfl (fun c => absurd c (drop_nil g47)) (fun _ => ?_)
            refine Cov.exit rfl ?_
            refine Cov.seq ?_
            refine Cov.region rfl ?_
            refine Cov.q .ro (.assign rfl) rfl ?_
            refine Cov.region_end ?_
            cases r48
            refine Cov.drop 1 0 [] _ rfl rfl ?_
            refine Cov.retS (c := ⟨39, none⟩) (.inr ⟨_, rfl⟩) [.tmp 2] [_] rfl Try.func39 Try.results39 ⟨RV.tmp rfl, trivial⟩ (fun _ h => List.mem_cons_of_mem _ h) ⟨rfl, rfl, rfl⟩
          | cons x54 xs55 =>
            have r53 : ref19_Check_B1 (ref19_Check_L1 xs55) x54  = some r := r48; clear r48; unfold ref19_Check_B1 at r53; try dsimp only at r53
            refine Cov.seq ?_
            refine Cov.region rfl ?_
            refine Cov.q .ro (.lss rfl rfl) rfl ?_
            refine Cov.region_end ?_
            refine Cov.seq ?_
            refine Cov.cond_dec rfl (fun _ => ?_) (fun c => absurd (drop_lt g47) c)
            refine Cov.skip ?_
            refine Cov.seq ?_
            refine Cov.block ?_
            refine Cov.seq ?_
            refine Cov.region rfl ?_
            obtain ⟨c56, p57, h58⟩ := SlR.get s0_1 (drop_idx g47)
            obtain ⟨_, _, rfl, rfl, rfl⟩ := h58
            refine Cov.q .ro (.idxR s0_1 rfl rfl (drop_idx g47) sl26 ty68.sz) rfl ?_
            refine Cov.q .ro (.load_rp_a [_, _] p57 List.mem_cons_self rfl ty68 rfl) rfl ?_
            refine Cov.alloc .ro ty68 rfl (fun b59 hb59 => ?_)
            refine Cov.store 0 [_, _] [_, _] .ro rfl rfl rfl ty68 rfl rfl rfl rfl ?_
            refine Cov.region_end ?_
            refine Cov.seq ?_
            refine Cov.region rfl ?_
            refine Cov.q .ro (.fieldAddr 0 rfl fl68_0 ty3.sz rfl) rfl ?_
            refine Cov.q .ro (.load_own 0 rfl rfl ty3 rfl) rfl ?_
            refine Cov.q .ro (.lss rfl rfl) rfl ?_
            refine Cov.q .ro (.move rfl) rfl ?_
            refine Cov.cutR 4 (β := Unit) (fun y => [(39, .bool (decide ((x54.1 < 0) ∨ (2147483647 ≤ x54.1))))]) [(28, _), (26, _), (27, _), (4, _)] (fun y => G :: Fs) (fun y => []) [_, _] (fun y => []) [] (fun y => True) ⟨rfl, rfl, rfl, rfl, trivial⟩ [0, 1] rfl [] rfl ?_ ?_
            · rintro _ _
              refine Cov.prune [(39, .bool (decide ((x54.1 < 0) ∨ (2147483647 ≤ x54.1)))), (28, _), (26, _), (27, _), (4, _)] ⟨rfl, rfl, rfl, rfl, rfl, trivial⟩ ?_
              refine Cov.same (bl' := [_, _]) (sl' := []) (Fs' := G :: Fs) rfl rfl rfl ?_
              refine Cov.q .ro (.move rfl) rfl ?_
              refine Cov.cutR 4 (β := Unit) (fun y => [(44, .bool (decide (((x54.1 < 0) ∨ (2147483647 ≤ x54.1)) ∨ (x54.2 < 0))))]) [(28, _), (26, _), (27, _), (4, _)] (fun y => G :: Fs) (fun y => []) [_, _] (fun y => []) [] (fun y => True) ⟨rfl, rfl, rfl, rfl, trivial⟩ [0, 1] rfl [] rfl ?_ ?_
              · rintro _ _
                refine Cov.prune [(44, .bool (decide (((x54.1 < 0) ∨ (2147483647 ≤ x54.1)) ∨ (x54.2 < 0)))), (28, _), (26, _), (27, _), (4, _)] ⟨rfl, rfl, rfl, rfl, rfl, trivial⟩ ?_
                refine Cov.same (bl' := [_, _]) (sl' := []) (Fs' := G :: Fs) rfl rfl rfl ?_
                refine Cov.q .ro (.move rfl) rfl ?_
                refine Cov.cutR 4 (β := Unit) (fun y => [(49, .bool (decide ((((x54.1 < 0) ∨ (2147483647 ≤ x54.1)) ∨ (x54.2 < 0)) ∨ (2147483647 ≤ x54.2))))]) [(28, _), (26, _), (27, _)] (fun y => G :: Fs) (fun y => []) [_, _] (fun y => []) [] (fun y => True) ⟨rfl, rfl, rfl, trivial⟩ [0, 1] rfl [] rfl ?_ ?_
                · rintro _ _
                  refine Cov.prune [(49, .bool (decide ((((x54.1 < 0) ∨ (2147483647 ≤ x54.1)) ∨ (x54.2 < 0)) ∨ (2147483647 ≤ x54.2)))), (28, _), (26, _), (27, _)] ⟨rfl, rfl, rfl, rfl, trivial⟩ ?_
                  refine Cov.same (bl' := [_, _]) (sl' := []) (Fs' := G :: Fs) rfl rfl rfl ?_
                  refine Cov.region_end ?_
                  refine Cov.cond_dec rfl (fun c72 => ?_) (fun c72 => ?_)
                  · have r73 := ifT r53 c72; clear r53
                    refine Cov.seq ?_
                    refine Cov.region rfl ?_
                    refine Cov.q .ro (.assign rfl) rfl ?_
                    refine Cov.region_end ?_
                    cases r73
                    refine Cov.drop 2 0 [] _ rfl rfl ?_
                    refine Cov.retS (c := ⟨39, none⟩) (.inr ⟨_, rfl⟩) [.tmp 2] [_] rfl Try.func39 Try.results39 ⟨RV.tmp rfl, trivial⟩ (fun _ h => List.mem_cons_of_mem _ h) ⟨rfl, rfl, rfl⟩
                  · have r74 := ifF r53 c72; clear r53
                    refine Cov.skip ?_
                    refine Cov.inBlock ?_
                    refine Cov.region rfl ?_
                    refine Cov.q .ro (.addw rfl rfl) rfl ?_
                    refine Cov.q .ro (.move rfl) rfl ?_
                    refine Cov.region_end ?_
                    refine Cov.drop 1 0 [_] _ rfl rfl ?_
                    refine Cov.prune _ ?_ (Cov.same rfl rfl rfl (hb49 ((i45 + 1), xs55) ⟨(drop_succ g47), r74⟩ (Nat.lt_succ_self _)))
                    exact ⟨(congrArg (fun z => some (Value.int .i64 z)) (idx_wrap (SlR.len s0_1) g47)), rfl, rfl, trivial⟩
                · intro hb69
                  refine Cov.split 45 rfl (fun c68 => ?_) (fun c68 => ?_)
                  · refine Cov.g_off rfl rfl rfl ?_
                    refine Cov.g_off rfl rfl rfl ?_
                    refine Cov.g_off rfl rfl rfl ?_
                    refine Cov.q .ro (.pick_t rfl rfl) rfl ?_
                    refine Cov.prune _ ?_ (Cov.same rfl rfl rfl (hb69 () trivial))
                    exact ⟨dor_t c68, rfl, rfl, rfl, trivial⟩
                  · refine Cov.g_on rfl ?_
                    refine Cov.q .ro (.fieldAddr 1 rfl fl68_1 ty3.sz rfl) rfl ?_
                    refine Cov.g_on rfl ?_
                    refine Cov.q .ro (.load_own 0 rfl rfl ty3 rfl) rfl ?_
                    refine Cov.g_on rfl ?_
                    refine Cov.q .ro (.geq rfl rfl) rfl ?_
                    refine Cov.q .ro (.pick_f rfl rfl) rfl ?_
                    refine Cov.prune _ ?_ (Cov.same rfl rfl rfl (hb69 () trivial))
                    exact ⟨dor_f c68, rfl, rfl, rfl, trivial⟩
              · intro hb65
                refine Cov.split 40 rfl (fun c64 => ?_) (fun c64 => ?_)
                · refine Cov.g_off rfl rfl rfl ?_
                  refine Cov.g_off rfl rfl rfl ?_
                  refine Cov.g_off rfl rfl rfl ?_
                  refine Cov.q .ro (.pick_t rfl rfl) rfl ?_
                  refine Cov.prune _ ?_ (Cov.same rfl rfl rfl (hb65 () trivial))
                  exact ⟨dor_t c64, rfl, rfl, rfl, rfl, trivial⟩
                · refine Cov.g_on rfl ?_
                  refine Cov.q .ro (.fieldAddr 1 rfl fl68_1 ty3.sz rfl) rfl ?_
                  refine Cov.g_on rfl ?_
                  refine Cov.q .ro (.load_own 0 rfl rfl ty3 rfl) rfl ?_
                  refine Cov.g_on rfl ?_
                  refine Cov.q .ro (.lss rfl rfl) rfl ?_
                  refine Cov.q .ro (.pick_f rfl rfl) rfl ?_
                  refine Cov.prune _ ?_ (Cov.same rfl rfl rfl (hb65 () trivial))
                  exact ⟨dor_f c64, rfl, rfl, rfl, rfl, trivial⟩
            · intro hb61
              refine Cov.split 35 rfl (fun c60 => ?_) (fun c60 => ?_)
              · refine Cov.g_off rfl rfl rfl ?_
                refine Cov.g_off rfl rfl rfl ?_
                refine Cov.g_off rfl rfl rfl ?_
                refine Cov.q .ro (.pick_t rfl rfl) rfl ?_
                refine Cov.prune _ ?_ (Cov.same rfl rfl rfl (hb61 () trivial))
                exact ⟨dor_t c60, rfl, rfl, rfl, rfl, trivial⟩
              · refine Cov.g_on rfl ?_
                refine Cov.q .ro (.fieldAddr 0 rfl fl68_0 ty3.sz rfl) rfl ?_
                refine Cov.g_on rfl ?_
                refine Cov.q .ro (.load_own 0 rfl rfl ty3 rfl) rfl ?_
                refine Cov.g_on rfl ?_
                refine Cov.q .ro (.geq rfl rfl) rfl ?_
                refine Cov.q .ro (.pick_f rfl rfl) rfl ?_
                refine Cov.prune _ ?_ (Cov.same rfl rfl rfl (hb61 () trivial))
                exact ⟨dor_f c60, rfl, rfl, rfl, rfl, trivial⟩
      · intro hb11
        refine Cov.split 19 rfl (fun c10 => ?_) (fun c10 => ?_)
        · refine Cov.g_off rfl rfl rfl ?_
          refine Cov.g_off rfl rfl rfl ?_
          refine Cov.g_off rfl rfl rfl ?_
          refine Cov.g_off rfl rfl rfl ?_
          refine Cov.q .ro (.pick_t rfl rfl) rfl ?_
          refine Cov.prune _ ?_ (Cov.same rfl rfl rfl (hb11 () trivial))
          exact ⟨dor_t c10, rfl, trivial⟩
        · refine Cov.g_on rfl ?_
          refine Cov.q .ro (.fieldAddr 1 rfl fl28_1 ty26.sz rfl) rfl ?_
          refine Cov.g_on rfl ?_
          refine Cov.q .ro (.load_own 0 rfl rfl ty26 rfl) rfl ?_
          refine Cov.g_on rfl ?_
          refine Cov.q .ro (.len_sl rfl rfl sl26) rfl ?_
          refine Cov.g_on rfl ?_
          refine Cov.q .ro (.gtr rfl rfl) rfl ?_
          refine Cov.q .ro (.pick_f rfl rfl) rfl ?_
          refine Cov.prune _ ?_ (Cov.same rfl rfl rfl (hb11 () trivial))
          exact ⟨dor_f c10, rfl, trivial⟩
    · intro hb7
      refine Cov.split 13 rfl (fun c6 => ?_) (fun c6 => ?_)
      · refine Cov.g_off rfl rfl rfl ?_
        refine Cov.g_off rfl rfl rfl ?_
        refine Cov.g_off rfl rfl rfl ?_
        refine Cov.g_off rfl rfl rfl ?_
        refine Cov.q .ro (.pick_t rfl rfl) rfl ?_
        refine Cov.prune _ ?_ (Cov.same rfl rfl rfl (hb7 () trivial))
        exact ⟨dor_t c6, rfl, trivial⟩
      · refine Cov.g_on rfl ?_
        refine Cov.q .ro (.fieldAddr 1 rfl fl28_1 ty26.sz rfl) rfl ?_
        refine Cov.g_on rfl ?_
        refine Cov.q .ro (.load_own 0 rfl rfl ty26 rfl) rfl ?_
        refine Cov.g_on rfl ?_
        refine Cov.q .ro (.len_sl rfl rfl sl26) rfl ?_
        refine Cov.g_on rfl ?_
        refine Cov.q .ro (.lss rfl rfl) rfl ?_
        refine Cov.q .ro (.pick_f rfl rfl) rfl ?_
        refine Cov.prune _ ?_ (Cov.same rfl rfl rfl (hb7 () trivial))
        exact ⟨dor_f c6, rfl, trivial⟩
  · intro hb3
    refine Cov.split 8 rfl (fun c2 => ?_) (fun c2 => ?_)
    · refine Cov.g_off rfl rfl rfl ?_
      refine Cov.g_off rfl rfl rfl ?_
      refine Cov.g_off rfl rfl rfl ?_
      refine Cov.q .ro (.pick_t rfl rfl) rfl ?_
      refine Cov.prune _ ?_ (Cov.same rfl rfl rfl (hb3 () trivial))
      exact ⟨dor_t c2, rfl, trivial⟩
    · refine Cov.g_on rfl ?_
      refine Cov.q .ro (.fieldAddr 0 rfl fl28_0 ty3.sz rfl) rfl ?_
      refine Cov.g_on rfl ?_
      refine Cov.q .ro (.load_own 0 rfl rfl ty3 rfl) rfl ?_
      refine Cov.g_on rfl ?_
      refine Cov.q .ro (.gtr rfl rfl) rfl ?_
      refine Cov.q .ro (.pick_f rfl rfl) rfl ?_
      refine Cov.prune _ ?_ (Cov.same rfl rfl rfl (hb3 () trivial))
      exact ⟨dor_f c2, rfl, trivial⟩
set_option maxHeartbeats 4000000 in
set_option maxRecDepth 100000 in
theorem ref19_Homes_c {Fs : List Hp} {G : Hp} {x0_0 : Int} {a0_1 : Option Addr} {k0_1 : Nat} {x0_1 : List (Int × Int)} {x1 : Int} {r : ((List Int) × Int)} (hG : G ∈ Fs) (s0_1 : SlR (Rep.pair (Rep.int .i64) (Rep.int .i64)) G a0_1 k0_1 x0_1) (h : ref19_Homes (x0_0, x0_1) x1 = some r) : RetS Try.prog 40 #[.agg #[.int .i64 x0_0, .slice a0_1 x0_1.length k0_1], .int .i64 x1] Fs [] [] (fun v bo so => ∃ (oa0 : Option Addr) (ok0 : Nat) (oc0 : List Value), v = .tuple #[.slice oa0 r.1.length ok0, .int .i64 r.2] ∧ bo = [] ∧ so = [.s (.slice oa0 r.1.length ok0) 3 1 r.1.length oc0] ∧ OL (Rep.int .i64) G oc0 r.1) := by
  unfold ref19_Homes at h
  try dsimp only at h
  refine RetS.of (vs := [_, _]) Try.func40 rfl Try.ntmps40 [(0, _), (1, _)] ⟨rfl, rfl, trivial⟩ rfl hG fun w0 S0 hS0 B0 => ?_
  refine Cov.seq ?_
  refine Cov.region rfl ?_
  refine Cov.box [_, _] .ro rfl rfl rfl (fun b1 hb1 => ?_)
  refine Cov.q .ro (.assign rfl) rfl ?_
  refine Cov.q .ro (.assign rfl) rfl ?_
  refine Cov.region_end ?_
  refine Cov.seq ?_
  refine Cov.seq ?_
  refine Cov.region rfl ?_
  refine Cov.q .ro (.load_own_a 0 [_, _] rfl rfl ty28 rfl) rfl ?_
  obtain ⟨u2, hu2, r3⟩ := bind_some h; clear h
  refine Cov.callS (b1 := []) (b2 := [_]) (s1 := []) [_] [] .ro rfl rfl Try.call39 rfl rfl (ref19_Check_c (G := G) List.mem_cons_self s0_1 hu2) rfl (fun v5 bo so h4 => ?_)
  obtain ⟨rfl, rfl, rfl⟩ := h4
  refine Cov.same (bl' := [_]) (sl' := []) rfl rfl rfl ?_
  refine Cov.q .ro (.assign rfl) rfl ?_
  refine Cov.region_end ?_
  refine Cov.seq ?_
  refine Cov.region rfl ?_
  refine Cov.q .ro (.move rfl) rfl ?_
  refine Cov.q .ro (.neq rfl rfl) rfl ?_
  refine Cov.region_end ?_
  refine Cov.cond_dec rfl (fun c6 => ?_) (fun c6 => ?_)
  · have r7 := ifT r3 c6; clear r3
    refine Cov.seq ?_
    refine Cov.region rfl ?_
    refine Cov.q .ro (.move rfl) rfl ?_
    refine Cov.q .ro (.assign rfl) rfl ?_
    refine Cov.q .ro (.assign rfl) rfl ?_
    refine Cov.region_end ?_
    refine Cov.own_nil 3 1 ?_
    cases r7
    refine Cov.drop 1 0 [] _ rfl rfl ?_
    refine Cov.retS (c := ⟨40, none⟩) (.inr ⟨_, rfl⟩) [.tmp 4, .tmp 5] [_, _] rfl Try.func40 Try.results40 ⟨RV.tmp rfl, RV.tmp rfl, trivial⟩ (fun _ h => List.mem_cons_of_mem _ h) ⟨none, 0, [], rfl, rfl, rfl, (OL.nil (Rp' := (Rep.int .i64)))⟩
  · have r9 := ifF r3 c6; clear r3
    refine Cov.skip ?_
    refine Cov.seq ?_
    refine Cov.seq ?_
    refine Cov.region rfl ?_
    refine Cov.q .ro (.move rfl) rfl ?_
    refine Cov.q .ro (.lss rfl rfl) rfl ?_
    refine Cov.q .ro (.move rfl) rfl ?_
    refine Cov.cutR 3 (β := Unit) (fun y => [(20, .bool (decide ((x1 < 0) ∨ (2147483647 ≤ x1))))]) [(1, _), (2, _)] (fun y => G :: Fs) (fun y => []) [_] (fun y => []) [] (fun y => True) ⟨rfl, rfl, trivial⟩ [0] rfl [] rfl ?_ ?_
    · rintro _ _
      refine Cov.prune [(20, .bool (decide ((x1 < 0) ∨ (2147483647 ≤ x1)))), (1, _), (2, _)] ⟨rfl, rfl, rfl, trivial⟩ ?_
      refine Cov.same (bl' := [_]) (sl' := []) (Fs' := G :: Fs) rfl rfl rfl ?_
      refine Cov.region_end ?_
      refine Cov.cond_dec rfl (fun c14 => ?_) (fun c14 => ?_)
      · have r15 := ifT r9 c14; clear r9
        refine Cov.seq ?_
        refine Cov.region rfl ?_
        refine Cov.q .ro (.assign rfl) rfl ?_
        refine Cov.q .ro (.assign rfl) rfl ?_
        refine Cov.region_end ?_
        refine Cov.own_nil 3 1 ?_
        cases r15
        refine Cov.drop 1 0 [] _ rfl rfl ?_
        refine Cov.retS (c := ⟨40, none⟩) (.inr ⟨_, rfl⟩) [.tmp 4, .tmp 5] [_, _] rfl Try.func40 Try.results40 ⟨RV.tmp rfl, RV.tmp rfl, trivial⟩ (fun _ h => List.mem_cons_of_mem _ h) ⟨none, 0, [], rfl, rfl, rfl, (OL.nil (Rp' := (Rep.int .i64)))⟩
      · have r17 := ifF r9 c14; clear r9
        refine Cov.skip ?_
        refine Cov.seq ?_
        refine Cov.region rfl ?_
        refine Cov.q .ro (.assign rfl) rfl ?_
        refine Cov.region_end ?_
        refine Cov.seq ?_
        refine Cov.seq ?_
        refine Cov.region rfl ?_
        refine Cov.q .ro (.fieldAddr 1 rfl fl28_1 ty26.sz rfl) rfl ?_
        refine Cov.q .ro (.load_own 0 rfl rfl ty26 rfl) rfl ?_
        refine Cov.q .ro (.len_sl rfl rfl sl26) rfl ?_
        refine Cov.q .ro (.move rfl) rfl ?_
        refine Cov.region_end ?_
        refine Cov.block ?_
        refine Cov.own_nil 3 1 ?_
        refine Cov.loop2 (α := Nat × (List (Int × Int)) × List Int × Option Addr × Nat × List Value) (fun y => [(7, .slice y.2.2.2.1 y.2.2.1.length y.2.2.2.2.1), (24, .int .i64 (y.1 : Int))]) [(1, _), (2, _), (22, _), (23, _)] (fun y => []) (fun y => []) [_] (fun y => [.s (.slice y.2.2.2.1 y.2.2.1.length y.2.2.2.2.1) 3 1 y.2.2.1.length y.2.2.2.2.2]) [] (fun y => OL (Rep.int .i64) G y.2.2.2.2.2 y.2.2.1 ∧ List.drop y.1 x0_1 = y.2.1 ∧ ref19_Homes_L1 x1 x0_0 y.2.1 y.2.2.1 = some r) (fun y => y.2.1.length) (0, x0_1, ([] : List Int), none, 0, []) ⟨(OL.nil (Rp' := (Rep.int .i64))), rfl, r17⟩ ⟨rfl, rfl, rfl, rfl, rfl, rfl, trivial⟩ rfl rfl rfl (fun y hI hb82 => ?_)
        obtain ⟨i72, w73, v75, a76, k77, cs78⟩ := y
        obtain ⟨o79, g74, r81⟩ := hI
        try dsimp only at o79 g74 r81
        refine Cov.prune [(7, .slice a76 v75.length k77), (24, .int .i64 (i72 : Int)), (1, _), (2, _), (22, _), (23, _)] ⟨rfl, rfl, rfl, rfl, rfl, rfl, trivial⟩ ?_
        refine Cov.same (bl' := [_]) (sl' := [.s (.slice a76 v75.length k77) 3 1 v75.length cs78]) (Fs' := G :: Fs) rfl rfl rfl ?_
        cases w73 with
        | nil =>
          rw [ref19_Homes_L1] at r81; try dsimp only at r81
          refine Cov.seq ?_
          refine Cov.region rfl ?_
          refine Cov.q .ro (.lss rfl rfl) rfl ?_
          refine Cov.region_end ?_
          refine Cov.seq ?_
          refine Cov.cond_dec rfl (fun c => absurd c (drop_nil g74)) (fun _ => ?_)
          refine Cov.exit rfl ?_
          refine Cov.seq ?_
          refine Cov.region rfl ?_
          refine Cov.q .ro (.move rfl) rfl ?_
          refine Cov.q .ro (.assign rfl) rfl ?_
          refine Cov.q .ro (.assign rfl) rfl ?_
          refine Cov.region_end ?_
          cases r81
          refine Cov.drop 1 0 [] _ rfl rfl ?_
          refine Cov.retS (c := ⟨40, none⟩) (.inr ⟨_, rfl⟩) [.tmp 4, .tmp 5] [_, _] rfl Try.func40 Try.results40 ⟨RV.tmp rfl, RV.tmp rfl, trivial⟩ (fun _ h => List.mem_cons_of_mem _ h) ⟨a76, k77, cs78, rfl, rfl, rfl, o79⟩
        | cons x88 xs89 =>
          have r87 : ref19_Homes_B1 x1 x0_0 (ref19_Homes_L1 x1 x0_0 xs89) x88 v75 = some r := r81; clear r81; unfold ref19_Homes_B1 at r87; try dsimp only at r87
          refine Cov.seq ?_
          refine Cov.region rfl ?_
          refine Cov.q .ro (.lss rfl rfl) rfl ?_
          refine Cov.region_end ?_
          refine Cov.seq ?_
          refine Cov.cond_dec rfl (fun _ => ?_) (fun c => absurd (drop_lt g74) c)
          refine Cov.skip ?_
          refine Cov.seq ?_
          refine Cov.block ?_
          refine Cov.seq ?_
          refine Cov.region rfl ?_
          obtain ⟨c90, p91, h92⟩ := SlR.get s0_1 (drop_idx g74)
          obtain ⟨_, _, rfl, rfl, rfl⟩ := h92
          refine Cov.q .ro (.idxR s0_1 rfl rfl (drop_idx g74) sl26 ty68.sz) rfl ?_
          refine Cov.q .ro (.load_rp_a [_, _] p91 List.mem_cons_self rfl ty68 rfl) rfl ?_
          refine Cov.alloc .ro ty68 rfl (fun b93 hb93 => ?_)
          refine Cov.store 0 [_, _] [_, _] .ro rfl rfl rfl ty68 rfl rfl rfl rfl ?_
          refine Cov.region_end ?_
          refine Cov.region rfl ?_
          refine Cov.q .ro (.move rfl) rfl ?_
          refine Cov.q .ro (.fieldAddr 0 rfl fl68_0 ty3.sz rfl) rfl ?_
          refine Cov.q .ro (.load_own 0 rfl rfl ty3 rfl) rfl ?_
          refine Cov.q .ro (.move rfl) rfl ?_
          refine Cov.q .ro (.mulw rfl rfl) rfl ?_
          refine Cov.q .ro (.fieldAddr 1 rfl fl68_1 ty3.sz rfl) rfl ?_
          refine Cov.q .ro (.load_own 0 rfl rfl ty3 rfl) rfl ?_
          refine Cov.q .ro (.addw rfl rfl) rfl ?_
          refine Cov.q .ro (.remt rfl rfl (by decide)) rfl ?_
          refine Cov.q .ro (.fieldAddr 0 rfl fl28_0 ty3.sz rfl) rfl ?_
          refine Cov.q .ro (.load_own 1 rfl rfl ty3 rfl) rfl ?_
          obtain ⟨u94, hu94, r95⟩ := bind_some r87; clear r87
          refine Cov.q .ro (.remt rfl rfl (nz_some hu94)) rfl ?_
          refine Cov.lit [_] [(0, _)] .ro sl35 ty3 rfl rfl rfl rfl rfl rfl (fun b96 hb96 => ?_)
          have o97 : OL (Rep.int .i64) G [.int .i64 (Int.tmod (Int.tmod (w64 ((w64 (x88.1 * x1)) + x88.2)) 2147483647) x0_0)] ([(Int.tmod (Int.tmod (w64 ((w64 (x88.1 * x1)) + x88.2)) 2147483647) x0_0)] : List Int) := ((OL.cons rfl (Rep.intI .i64 (Int.tmod (Int.tmod (w64 ((w64 (x88.1 * x1)) + x88.2)) 2147483647) x0_0)) (OL.nil (Rp' := (Rep.int .i64)))) :)
          refine Cov.reval 40 (n' := ([(Int.tmod (Int.tmod (w64 ((w64 (x88.1 * x1)) + x88.2)) 2147483647) x0_0)] : List Int).length) rfl rfl ?_
          obtain ⟨u103, hu103, r104⟩ := bind_some r95; clear r95
          refine Cov.appO (Q := (Rep.int .i64)) 0 .ro sl35 ty3 rfl rfl rfl rfl rfl rfl o79 o97 rfl rfl rfl B0 hu103 rfl (fun a99 k100 cs101 o102 => ?_)
          refine Cov.q .ro (.assign rfl) rfl ?_
          refine Cov.region_end ?_
          refine Cov.prune [(7, _), (24, _), (1, _), (2, _), (22, _), (23, _)] ⟨rfl, rfl, rfl, rfl, rfl, rfl, trivial⟩ ?_
          refine Cov.inBlock ?_
          refine Cov.region rfl ?_
          refine Cov.q .ro (.addw rfl rfl) rfl ?_
          refine Cov.q .ro (.move rfl) rfl ?_
          refine Cov.region_end ?_
          refine Cov.drop 1 0 [_] _ rfl rfl ?_
          refine Cov.prune _ ?_ (Cov.same rfl rfl rfl (hb82 ((i72 + 1), xs89, u103, a99, k100, cs101) ⟨o102, (drop_succ g74), r104⟩ (Nat.lt_succ_self _)))
          exact ⟨rfl, (congrArg (fun z => some (Value.int .i64 z)) (idx_wrap (SlR.len s0_1) g74)), rfl, rfl, rfl, rfl, trivial⟩
    · intro hb11
      refine Cov.split 17 rfl (fun c10 => ?_) (fun c10 => ?_)
      · refine Cov.g_off rfl rfl rfl ?_
        refine Cov.g_off rfl rfl rfl ?_
        refine Cov.q .ro (.pick_t rfl rfl) rfl ?_
        refine Cov.prune _ ?_ (Cov.same rfl rfl rfl (hb11 () trivial))
        exact ⟨dor_t c10, rfl, rfl, trivial⟩
      · refine Cov.g_on rfl ?_
        refine Cov.q .ro (.move rfl) rfl ?_
        refine Cov.g_on rfl ?_
        refine Cov.q .ro (.geq rfl rfl) rfl ?_
        refine Cov.q .ro (.pick_f rfl rfl) rfl ?_
        refine Cov.prune _ ?_ (Cov.same rfl rfl rfl (hb11 () trivial))
        exact ⟨dor_f c10, rfl, rfl, trivial⟩
set_option maxHeartbeats 4000000 in
set_option maxRecDepth 100000 in
theorem ref19_all_c {Fs : List Hp} {G : Hp} {x0_0 : Int} {a0_1 : Option Addr} {k0_1 : Nat} {x0_1 : List (Int × Int)} {a1 : Option Addr} {k1 : Nat} {x1 : List Int} {r : ((List (List Int)) × Int)} (hG : G ∈ Fs) (s0_1 : SlR (Rep.pair (Rep.int .i64) (Rep.int .i64)) G a0_1 k0_1 x0_1) (s1 : SlR (Rep.int .i64) G a1 k1 x1) (h : ref19_all (x0_0, x0_1) x1 = some r) : RetW Try.prog 24 #[.agg #[.int .i64 x0_0, .slice a0_1 x0_1.length k0_1], .slice a1 x1.length k1] Fs [] [] (fun v bo so G => ∃ (oa0 : Option Addr) (ok0 : Nat) (oc0 : List Value), v = .tuple #[.slice oa0 r.1.length ok0, .int .i64 r.2] ∧ bo = [] ∧ so = [.s (.slice oa0 r.1.length ok0) 35 1 r.1.length oc0] ∧ OL (Rep.sl (Rep.int .i64)) G oc0 r.1) := by
  unfold ref19_all at h
  try dsimp only at h
  refine RetW.of (vs := [_, _]) Try.func24 rfl Try.ntmps24 [(0, _), (1, _)] ⟨rfl, rfl, trivial⟩ rfl hG fun w0 S0 hS0 B0 => ?_
  refine Cov.seq ?_
  refine Cov.region rfl ?_
  refine Cov.box [_, _] .ro rfl rfl rfl (fun b1 hb1 => ?_)
  refine Cov.q .ro (.assign rfl) rfl ?_
  refine Cov.q .ro (.assign rfl) rfl ?_
  refine Cov.region_end ?_
  refine Cov.seq ?_
  refine Cov.seq ?_
  refine Cov.region rfl ?_
  refine Cov.q .ro (.load_own_a 0 [_, _] rfl rfl ty28 rfl) rfl ?_
  obtain ⟨u2, hu2, r3⟩ := bind_some h; clear h
  refine Cov.callS (b1 := []) (b2 := [_]) (s1 := []) [_] [] .ro rfl rfl Try.call39 rfl rfl (ref19_Check_c (G := G) List.mem_cons_self s0_1 hu2) rfl (fun v5 bo so h4 => ?_)
  obtain ⟨rfl, rfl, rfl⟩ := h4
  refine Cov.same (bl' := [_]) (sl' := []) rfl rfl rfl ?_
  refine Cov.q .ro (.assign rfl) rfl ?_
  refine Cov.region_end ?_
  refine Cov.seq ?_
  refine Cov.region rfl ?_
  refine Cov.q .ro (.move rfl) rfl ?_
  refine Cov.q .ro (.neq rfl rfl) rfl ?_
  refine Cov.region_end ?_
  refine Cov.cond_dec rfl (fun c6 => ?_) (fun c6 => ?_)
  · have r7 := ifT r3 c6; clear r3
    refine Cov.seq ?_
    refine Cov.region rfl ?_
    refine Cov.q .ro (.move rfl) rfl ?_
    refine Cov.q .ro (.assign rfl) rfl ?_
    refine Cov.q .ro (.assign rfl) rfl ?_
    refine Cov.region_end ?_
    refine Cov.own_nil 35 1 ?_
    cases r7
    refine Cov.drop 1 0 [] _ rfl rfl ?_
    refine Cov.retW (c := ⟨24, none⟩) (.inr ⟨_, rfl⟩) [.tmp 4, .tmp 5] [_, _] rfl Try.func24 Try.results24 ⟨RV.tmp rfl, RV.tmp rfl, trivial⟩ (fun _ h => List.mem_cons_of_mem _ h) List.mem_cons_self B0 (by subst hS0; simp [blks]) (fun G' hg => ⟨none, 0, [], rfl, rfl, rfl, (OL.mono hg (OL.nil (Rp' := (Rep.sl (Rep.int .i64)))))⟩)
  · have r9 := ifF r3 c6; clear r3
    refine Cov.skip ?_
    refine Cov.seq ?_
    refine Cov.region rfl ?_
    refine Cov.q .ro (.assign rfl) rfl ?_
    refine Cov.region_end ?_
    refine Cov.seq ?_
    refine Cov.seq ?_
    refine Cov.region rfl ?_
    refine Cov.q .ro (.move rfl) rfl ?_
    refine Cov.q .ro (.len_sl rfl rfl sl35) rfl ?_
    refine Cov.q .ro (.move rfl) rfl ?_
    refine Cov.region_end ?_
    refine Cov.block ?_
    refine Cov.own_nil 35 1 ?_
    refine Cov.loop2 (α := Nat × List Int × Hp × List (List Int) × Option Addr × Nat × List Value) (fun y => [(7, .slice y.2.2.2.2.1 y.2.2.2.1.length y.2.2.2.2.2.1), (19, .int .i64 (y.1 : Int))]) [(2, _), (17, _), (18, _)] (fun y => [y.2.2.1]) (fun y => []) [_] (fun y => [.s (.slice y.2.2.2.2.1 y.2.2.2.1.length y.2.2.2.2.2.1) 35 1 y.2.2.2.1.length y.2.2.2.2.2.2]) [] (fun y => HpLe G y.2.2.1 ∧ Bd w0 S0 Fs y.2.2.1 ∧ OL (Rep.sl (Rep.int .i64)) y.2.2.1 y.2.2.2.2.2.2 y.2.2.2.1 ∧ List.drop y.1 x1 = y.2.1 ∧ ref19_all_L1 x0_0 x0_1 y.2.1 y.2.2.2.1 = some r) (fun y => y.2.1.length) (0, x1, G, ([] : List (List Int)), none, 0, []) ⟨(HpLe.refl _), B0, (OL.nil (Rp' := (Rep.sl (Rep.int .i64)))), rfl, r9⟩ ⟨rfl, rfl, rfl, rfl, rfl, trivial⟩ rfl rfl rfl (fun y hI hb108 => ?_)
    obtain ⟨i94, w95, G97, v101, a102, k103, cs104⟩ := y
    obtain ⟨e98, B99, o105, g96, r107⟩ := hI
    try dsimp only at e98 B99 o105 g96 r107
    refine Cov.prune [(7, .slice a102 v101.length k103), (19, .int .i64 (i94 : Int)), (2, _), (17, _), (18, _)] ⟨rfl, rfl, rfl, rfl, rfl, trivial⟩ ?_
    refine Cov.same (bl' := [_]) (sl' := [.s (.slice a102 v101.length k103) 35 1 v101.length cs104]) (Fs' := G97 :: Fs) rfl rfl rfl ?_
    cases w95 with
    | nil =>
      rw [ref19_all_L1] at r107; try dsimp only at r107
      refine Cov.seq ?_
      refine Cov.region rfl ?_
      refine Cov.q .ro (.lss rfl rfl) rfl ?_
      refine Cov.region_end ?_
      refine Cov.seq ?_
      refine Cov.cond_dec rfl (fun c => absurd c (drop_nil g96)) (fun _ => ?_)
      refine Cov.exit rfl ?_
      refine Cov.seq ?_
      refine Cov.region rfl ?_
      refine Cov.q .ro (.move rfl) rfl ?_
      refine Cov.q .ro (.assign rfl) rfl ?_
      refine Cov.q .ro (.assign rfl) rfl ?_
      refine Cov.region_end ?_
      cases r107
      refine Cov.drop 1 0 [] _ rfl rfl ?_
      refine Cov.retW (c := ⟨24, none⟩) (.inr ⟨_, rfl⟩) [.tmp 4, .tmp 5] [_, _] rfl Try.func24 Try.results24 ⟨RV.tmp rfl, RV.tmp rfl, trivial⟩ (fun _ h => List.mem_cons_of_mem _ h) List.mem_cons_self B99 (by subst hS0; simp [blks]) (fun G' hg => ⟨a102, k103, cs104, rfl, rfl, rfl, (OL.mono hg o105)⟩)
    | cons x114 xs115 =>
      have r113 : ref19_all_B1 x0_0 x0_1 (ref19_all_L1 x0_0 x0_1 xs115) x114 v101 = some r := r107; clear r107; unfold ref19_all_B1 at r113; try dsimp only at r113
      refine Cov.seq ?_
      refine Cov.region rfl ?_
      refine Cov.q .ro (.lss rfl rfl) rfl ?_
      refine Cov.region_end ?_
      refine Cov.seq ?_
      refine Cov.cond_dec rfl (fun _ => ?_) (fun c => absurd (drop_lt g96) c)
      refine Cov.skip ?_
      refine Cov.seq ?_
      refine Cov.block ?_
      refine Cov.seq ?_
      refine Cov.region rfl ?_
      obtain ⟨c116, p117, h118⟩ := SlR.get (SlR.mono e98 s1) (drop_idx g96)
      obtain rfl := h118
      refine Cov.q .ro (.idxR (SlR.mono e98 s1) rfl rfl (drop_idx g96) sl35 ty3.sz) rfl ?_
      refine Cov.q .ro (.load_rp p117 List.mem_cons_self rfl ty3 rfl) rfl ?_
      refine Cov.q .ro (.assign rfl) rfl ?_
      refine Cov.region_end ?_
      refine Cov.seq ?_
      refine Cov.region rfl ?_
      refine Cov.q .ro (.load_own_a 0 [_, _] rfl rfl ty28 rfl) rfl ?_
      refine Cov.q .ro (.move rfl) rfl ?_
      obtain ⟨u119, hu119, r120⟩ := bind_some r113; clear r113
      refine Cov.callS (b1 := []) (b2 := [_]) (s1 := []) [_, _] [] .ro rfl rfl Try.call40 rfl rfl (ref19_Homes_c (G := G97) List.mem_cons_self (SlR.mono e98 s0_1) hu119) rfl (fun v122 bo so h121 => ?_)
      obtain ⟨a124, k125, cs126, rfl, rfl, rfl, o127⟩ := h121
      refine Cov.same (bl' := [_]) (sl' := [_, _]) rfl rfl rfl ?_
      refine Cov.q .ro (.move rfl) rfl ?_
      refine Cov.q .ro (.extract rfl rfl) rfl ?_
      refine Cov.q .ro (.extract rfl rfl) rfl ?_
      refine Cov.q .ro (.assign rfl) rfl ?_
      refine Cov.q .ro (.assign rfl) rfl ?_
      refine Cov.region_end ?_
      refine Cov.seq ?_
      refine Cov.seq ?_
      refine Cov.region rfl ?_
      refine Cov.q .ro (.move rfl) rfl ?_
      refine Cov.q .ro (.neq rfl rfl) rfl ?_
      refine Cov.region_end ?_
      refine Cov.cond_dec rfl (fun c128 => ?_) (fun c128 => ?_)
      · have r129 := ifT r120 c128; clear r120
        refine Cov.seq ?_
        refine Cov.region rfl ?_
        refine Cov.q .ro (.move rfl) rfl ?_
        refine Cov.q .ro (.assign rfl) rfl ?_
        refine Cov.q .ro (.assign rfl) rfl ?_
        refine Cov.region_end ?_
        refine Cov.prune [(4, _), (5, _)] ⟨rfl, rfl, trivial⟩ ?_
        refine Cov.own_nil 35 1 ?_
        cases r129
        refine Cov.drop 1 0 [] _ rfl rfl ?_
        refine Cov.pullS 2 rfl [_, _, _] rfl ?_
        refine Cov.pullS 2 rfl [_, _, _] rfl ?_
        refine Cov.drop 0 2 _ [_] rfl rfl ?_
        refine Cov.retW (c := ⟨24, none⟩) (.inr ⟨_, rfl⟩) [.tmp 4, .tmp 5] [_, _] rfl Try.func24 Try.results24 ⟨RV.tmp rfl, RV.tmp rfl, trivial⟩ (fun _ h => List.mem_cons_of_mem _ h) List.mem_cons_self B99 (by subst hS0; simp [blks]) (fun G' hg => ⟨none, 0, [], rfl, rfl, rfl, (OL.mono hg (OL.nil (Rp' := (Rep.sl (Rep.int .i64)))))⟩)
      · have r131 := ifF r120 c128; clear r120
        refine Cov.skip ?_
        refine Cov.region rfl ?_
        refine Cov.q .ro (.move rfl) rfl ?_
        refine Cov.q .ro (.move rfl) rfl ?_
        refine Cov.freezeR 0 rfl rfl o127 [_] rfl B99 (fun G132 e133 B134 s135 => ?_)
        refine Cov.lit [_] [(0, _)] .ro sl34 ty35 rfl rfl rfl rfl rfl rfl (fun b137 hb137 => ?_)
        have o138 : OL (Rep.sl (Rep.int .i64)) G132 [.slice a124 u119.1.length k125] ([u119.1] : List (List Int)) := ((OL.cons rfl (Rep.slI s135) (OL.nil (Rp' := (Rep.sl (Rep.int .i64))))) :)
        refine Cov.reval 34 (n' := ([u119.1] : List (List Int)).length) rfl rfl ?_
        obtain ⟨u144, hu144, r145⟩ := bind_some r131; clear r131
        refine Cov.appO (Q := (Rep.sl (Rep.int .i64))) 0 .ro sl34 ty35 rfl rfl rfl rfl rfl rfl (OL.mono e133 o105) o138 rfl rfl rfl B134 hu144 rfl (fun a140 k141 cs142 o143 => ?_)
        refine Cov.q .ro (.assign rfl) rfl ?_
        refine Cov.region_end ?_
        refine Cov.prune [(7, _), (19, _), (2, _), (17, _), (18, _)] ⟨rfl, rfl, rfl, rfl, rfl, trivial⟩ ?_
        refine Cov.inBlock ?_
        refine Cov.region rfl ?_
        refine Cov.q .ro (.addw rfl rfl) rfl ?_
        refine Cov.q .ro (.move rfl) rfl ?_
        refine Cov.region_end ?_
        refine Cov.prune _ ?_ (Cov.same rfl rfl rfl (hb108 ((i94 + 1), xs115, G132, u144, a140, k141, cs142) ⟨(HpLe.trans e98 e133), B134, o143, (drop_succ g96), r145⟩ (Nat.lt_succ_self _)))
        exact ⟨rfl, (congrArg (fun z => some (Value.int .i64 z)) (idx_wrap (SlR.len s1) g96)), rfl, rfl, rfl, trivial⟩
set_option maxHeartbeats 4000000 in
set_option maxRecDepth 100000 in
theorem ref19_place_R_c (n : Nat) : ∀ {Fs : List Hp} {G : Hp} {a0 : Option Addr} {k0 : Nat} {x0 : List (List Int)} {a1 : Option Addr} {k1 : Nat} {x1 : List (List Int)} {cc1 : List Value} {ee1 : List NE} {a2 : Option Addr} {k2 : Nat} {x2 : List Int} {x3 : Int} {x4 : Int} {a5 : Option Addr} {k5 : Nat} {x5 : List Bool} {cc5 : List Value} {bb5 : Option Nat} {pre5 post5 : List Value} {r : (Bool × (List (List Int)) × (List Bool))} (hG : G ∈ Fs) (s0 : SlR (Rep.sl (Rep.int .i64)) G a0 k0 x0) (oo1 : NL (Rep.int .i64) G ee1 cc1 x1) (s2 : SlR (Rep.int .i64) G a2 k2 x2) (vva5 : VA a5 bb5 x5.length k5 pre5 cc5) (oo5 : OL Rep.bool G cc5 x5) (h : ref19_place_R n x0 x1 x2 x3 x4 x5 = some r), RetS Try.prog 56 #[.slice a0 x0.length k0, .slice a1 x1.length k1, .slice a2 x2.length k2, .int .i64 x3, .int .i64 x4, .slice a5 x5.length k5] Fs [] [.s (.slice a1 x1.length k1) 35 1 x1.length cc1, .g (packG 3 1 ee1), .g (viewG bb5 4 pre5 cc5 post5)] (fun v bo so => (r.1 = false ∧ ∃ lc0 : List Value, v = .bool false ∧ bo = [] ∧ so = [.s (.slice a1 x1.length k1) 35 1 x1.length cc1, .g (packG 3 1 ee1), .g (viewG bb5 4 pre5 lc0 post5)] ∧ OL Rep.bool G lc0 r.2.2 ∧ r.2.2.length = x5.length) ∨ (r.1 = true ∧ ∃ le0 : List NE, ∃ lc0 : List Value, ∃ lc1 : List Value, v = .bool true ∧ bo = [] ∧ so = [.s (.slice a1 r.2.1.length k1) 35 1 r.2.1.length lc0, .g (packG 3 1 le0), .g (viewG bb5 4 pre5 lc1 post5)] ∧ NL (Rep.int .i64) G le0 lc0 r.2.1 ∧ r.2.1.length = x1.length ∧ OL Rep.bool G lc1 r.2.2 ∧ r.2.2.length = x5.length)) := by
  induction n with
  | zero => intro Fs G a0 k0 x0 a1 k1 x1 cc1 ee1 a2 k2 x2 x3 x4 a5 k5 x5 cc5 bb5 pre5 post5 r hG s0 oo1 s2 vva5 oo5 h; exact absurd h (by unfold ref19_place_R; simp)
  | succ n ih =>
    intro Fs G a0 k0 x0 a1 k1 x1 cc1 ee1 a2 k2 x2 x3 x4 a5 k5 x5 cc5 bb5 pre5 post5 r hG s0 oo1 s2 vva5 oo5 h
    unfold ref19_place_R at h
    unfold ref19_place_B3 at h
    try dsimp only at h
    refine RetS.of (vs := [_, _, _, _, _, _]) Try.func56 rfl Try.ntmps56 [(0, _), (1, _), (2, _), (3, _), (4, _), (5, _)] ⟨rfl, rfl, rfl, rfl, rfl, rfl, trivial⟩ rfl hG fun w0 S0 hS0 B0 => ?_
    refine Cov.seq ?_
    refine Cov.region rfl ?_
    refine Cov.q .ro (.assign rfl) rfl ?_
    refine Cov.region_end ?_
    refine Cov.seq ?_
    refine Cov.seq ?_
    refine Cov.region rfl ?_
    refine Cov.q .ro (.move rfl) rfl ?_
    refine Cov.q .ro (.move rfl) rfl ?_
    obtain ⟨u4, hu4, r5⟩ := bind_some h; clear h
    obtain ⟨c6, p7, h8⟩ := SlR.get s0 hu4
    obtain ⟨a9, k10, rfl, s11⟩ := h8
    refine Cov.q .ro (.idxR s0 rfl rfl hu4 sl34 ty35.sz) rfl ?_
    refine Cov.q .ro (.load_rp p7 List.mem_cons_self rfl ty35 rfl) rfl ?_
    refine Cov.q .ro (.len_sl rfl rfl sl35) rfl ?_
    refine Cov.q .ro (.move rfl) rfl ?_
    refine Cov.region_end ?_
    refine Cov.block ?_
    refine Cov.pullS 2 rfl [_, _, _] rfl ?_
    refine Cov.loop2 (α := Nat × List Int × List Bool × List Value) (fun y => [(5, .slice a5 y.2.2.1.length k5), (22, .int .i64 (y.1 : Int))]) [(0, _), (1, _), (2, _), (3, _), (4, _), (20, _), (21, _)] (fun y => []) (fun y => []) [] (fun y => [.g (viewG bb5 4 pre5 y.2.2.2 post5)]) [_, _] (fun y => OL Rep.bool G y.2.2.2 y.2.2.1 ∧ VA a5 bb5 y.2.2.1.length k5 pre5 y.2.2.2 ∧ y.2.2.1.length = x5.length ∧ List.drop y.1 u4 = y.2.1 ∧ ref19_place_L2 (ref19_place_R n) x0 x2 x3 x4 x1 y.2.1 y.2.2.1 = some r) (fun y => y.2.1.length) (0, u4, x5, cc5) ⟨oo5, vva5, rfl, rfl, r5⟩ ⟨rfl, rfl, rfl, rfl, rfl, rfl, rfl, rfl, rfl, trivial⟩ rfl rfl rfl (fun y hI hb238 => ?_)
    obtain ⟨i228, w229, v231, cs232⟩ := y
    obtain ⟨o233, va234, hl235, g230, r237⟩ := hI
    try dsimp only at o233 va234 hl235 g230 r237
    refine Cov.prune [(5, .slice a5 v231.length k5), (22, .int .i64 (i228 : Int)), (0, _), (1, _), (2, _), (3, _), (4, _), (20, _), (21, _)] ⟨rfl, rfl, rfl, rfl, rfl, rfl, rfl, rfl, rfl, trivial⟩ ?_
    refine Cov.same (bl' := []) (sl' := [.g (viewG bb5 4 pre5 cs232 post5), _, _]) (Fs' := G :: Fs) rfl rfl rfl ?_
    cases w229 with
    | nil =>
      rw [ref19_place_L2] at r237; try dsimp only at r237
      refine Cov.seq ?_
      refine Cov.region rfl ?_
      refine Cov.q .ro (.lss rfl rfl) rfl ?_
      refine Cov.region_end ?_
      refine Cov.seq ?_
      refine Cov.cond_dec rfl (fun c => absurd c (drop_nil g230)) (fun _ => ?_)
      refine Cov.exit rfl ?_
      refine Cov.seq ?_
      refine Cov.region rfl ?_
      refine Cov.q .ro (.assign rfl) rfl ?_
      refine Cov.region_end ?_
      cases r237
      refine Cov.pullS 2 rfl [_, _, _] rfl ?_
      refine Cov.pullS 2 rfl [_, _, _] rfl ?_
      refine Cov.retS (c := ⟨56, none⟩) (.inr ⟨_, rfl⟩) [.tmp 12] [_] rfl Try.func56 Try.results56 ⟨RV.tmp rfl, trivial⟩ (fun _ h => List.mem_cons_of_mem _ h) (.inl ⟨rfl, ⟨cs232, rfl, rfl, rfl, o233, hl235⟩⟩)
    | cons x247 xs248 =>
      have r246 : ref19_place_B2 (ref19_place_R n) x0 x2 x3 x4 x1 (ref19_place_L2 (ref19_place_R n) x0 x2 x3 x4 x1 xs248) x247 v231 = some r := r237; clear r237; unfold ref19_place_B2 at r246; try dsimp only at r246
      refine Cov.seq ?_
      refine Cov.region rfl ?_
      refine Cov.q .ro (.lss rfl rfl) rfl ?_
      refine Cov.region_end ?_
      refine Cov.seq ?_
      refine Cov.cond_dec rfl (fun _ => ?_) (fun c => absurd (drop_lt g230) c)
      refine Cov.skip ?_
      refine Cov.seq ?_
      refine Cov.block ?_
      refine Cov.seq ?_
      refine Cov.region rfl ?_
      obtain ⟨c249, p250, h251⟩ := SlR.get s11 (drop_idx g230)
      obtain rfl := h251
      refine Cov.q .ro (.idxR s11 rfl rfl (drop_idx g230) sl35 ty3.sz) rfl ?_
      refine Cov.q .ro (.load_rp p250 List.mem_cons_self rfl ty3 rfl) rfl ?_
      refine Cov.q .ro (.assign rfl) rfl ?_
      refine Cov.region_end ?_
      refine Cov.seq ?_
      refine Cov.seq ?_
      refine Cov.region rfl ?_
      refine Cov.q .ro (.move rfl) rfl ?_
      refine Cov.q .ro (.move rfl) rfl ?_
      obtain ⟨u252, hu252, r253⟩ := bind_some r246; clear r246
      obtain ⟨c254, p255, h256⟩ := OL.get o233 hu252
      obtain rfl := h256
      refine Cov.q .ro (.idxV 0 rfl va234 o233 rfl rfl hu252 sl95 ty4.sz rfl rfl) rfl ?_
      refine Cov.q .ro (.loadV 0 0 rfl va234 o233 rfl rfl hu252 p255 rfl (.inl ⟨rfl, rfl⟩) ty4 rfl) rfl ?_
      refine Cov.region_end ?_
      refine Cov.cond rfl (fun c257 => ?_) (fun c257 => ?_)
      · have r258 := ifT r253 c257; clear r253
        refine Cov.exit rfl ?_
        refine Cov.region rfl ?_
        refine Cov.q .ro (.addw rfl rfl) rfl ?_
        refine Cov.q .ro (.move rfl) rfl ?_
        refine Cov.region_end ?_
        refine Cov.prune _ ?_ (Cov.same rfl rfl rfl (hb238 ((i228 + 1), xs248, v231, cs232) ⟨o233, va234, hl235, (drop_succ g230), r258⟩ (Nat.lt_succ_self _)))
        exact ⟨rfl, (congrArg (fun z => some (Value.int .i64 z)) (idx_wrap (SlR.len s11) g230)), rfl, rfl, rfl, rfl, rfl, rfl, rfl, trivial⟩
      · have r259 := ifBF r253 c257; clear r253
        refine Cov.skip ?_
        refine Cov.seq ?_
        refine Cov.region rfl ?_
        refine Cov.q .ro (.move rfl) rfl ?_
        refine Cov.q .ro (.move rfl) rfl ?_
        obtain ⟨u260, hu260, r261⟩ := bind_some r259; clear r259
        obtain ⟨c262, p263, h264⟩ := OL.get o233 hu260
        obtain rfl := h264
        refine Cov.q .ro (.idxV 0 rfl va234 o233 rfl rfl hu260 sl95 ty4.sz rfl rfl) rfl ?_
        obtain ⟨u265, hu265, r266⟩ := bind_some r261; clear r261
        refine Cov.storeV 0 0 (Q := Rep.bool) .ro rfl va234 rfl rfl o233 hu265 rfl (.inl ⟨rfl, rfl⟩) rfl ty4 p263 ((Rep.boolI true) :) rfl rfl (fun cs267 hlcs267 o268 va269 => ?_)
        refine Cov.reval 5 hlcs267 rfl ?_
        refine Cov.reval 26 hlcs267 rfl ?_
        refine Cov.reval 30 hlcs267 rfl ?_
        refine Cov.region_end ?_
        refine Cov.seq ?_
        refine Cov.seq ?_
        refine Cov.drawL (.q 0 (.q 1 (.q 5 (.q 6 (.q 7 (.q 8 (.q 10 (.e 2 1 (.e 3 1 (.q 4 (.q 9 (.q 11 .nil)))))))))))) [] (by kernel_rfl) (by kernel_rfl) (pick_mem [] rfl) ?_
        refine Cov.dq (.move rfl) rfl ?_
        refine Cov.dq (.move rfl) rfl ?_
        refine Cov.dq (.move rfl) rfl ?_
        refine Cov.dq (.move rfl) rfl ?_
        obtain ⟨u271, hu271, r272⟩ := bind_some r266; clear r266
        obtain ⟨c273, p274, h275⟩ := SlR.get s2 hu271
        obtain rfl := h275
        refine Cov.dq (.idxR s2 rfl rfl hu271 sl35 ty3.sz) rfl ?_
        refine Cov.dq (.load_rp p274 List.mem_cons_self rfl ty3 rfl) rfl ?_
        refine Cov.dq (.move rfl) rfl ?_
        obtain ⟨u276, hu276, r277⟩ := bind_some r272; clear r272
        obtain ⟨e278, he279, hn280, ho281, p282⟩ := NL.get oo1 hu276
        refine Cov.q .d1 (.idxO 1 rfl rfl rfl hu276 sl34 ty35.sz) rfl ?_
        refine Cov.clsL (HpLe.refl _) (pick_mem [] rfl) ?_
        refine Cov.q .d1 (.loadO 1 0 rfl hu276 p282 rfl (.inl ⟨rfl, rfl⟩) ty35 rfl) rfl ?_
        refine Cov.clsL (HpLe.refl _) (pick_mem [] rfl) ?_
        refine Cov.dq (.len_sl rfl rfl sl35) rfl ?_
        refine Cov.dq (.addw rfl rfl) rfl ?_
        refine Cov.dq (.lss rfl rfl) rfl ?_
        refine Cov.draw_end ?_
        refine Cov.prune [(5, _), (22, _), (0, _), (1, _), (2, _), (3, _), (4, _), (20, _), (21, _), (14, _), (44, _)] ⟨rfl, rfl, rfl, rfl, rfl, rfl, rfl, rfl, rfl, rfl, rfl, trivial⟩ ?_
        refine Cov.cond_dec rfl (fun c283 => ?_) (fun c283 => ?_)
        · have r284 := ifT r277 c283; clear r277
          refine Cov.seq ?_
          refine Cov.region rfl ?_
          refine Cov.q .ro (.move rfl) rfl ?_
          refine Cov.q .ro (.move rfl) rfl ?_
          refine Cov.q .ro (.move rfl) rfl ?_
          refine Cov.q .ro (.move rfl) rfl ?_
          obtain ⟨u285, hu285, r286⟩ := bind_some r284; clear r284
          obtain ⟨e287, he288, hn289, ho290, p291⟩ := NL.get oo1 hu285
          refine Cov.q .ro (.idxO 1 rfl rfl rfl hu285 sl34 ty35.sz) rfl ?_
          refine Cov.q .ro (.loadO 1 0 rfl hu285 p291 rfl (.inl ⟨rfl, rfl⟩) ty35 rfl) rfl ?_
          refine Cov.q .ro (.move rfl) rfl ?_
          refine Cov.lit [_] [(0, _)] .ro sl35 ty3 rfl rfl rfl rfl rfl rfl (fun b292 hb292 => ?_)
          have o293 : OL (Rep.int .i64) G [.int .i64 x4] ([x4] : List Int) := ((OL.cons rfl (Rep.intI .i64 x4) (OL.nil (Rp' := (Rep.int .i64)))) :)
          refine Cov.reval 52 (n' := ([x4] : List Int).length) rfl rfl ?_
          refine Cov.freezeR 0 rfl rfl o293 [_, _, _] rfl B0 (fun G295 e296 B297 s298 => ?_)
          refine Cov.takeN 2 rfl he288 hn289 ?_
          obtain ⟨u305, hu305, r306⟩ := bind_some r286; clear r286
          refine Cov.appR (Q := (Rep.int .i64)) 0 .ro sl35 ty3 rfl rfl rfl rfl rfl (OL.mono e296 ho290) rfl rfl s298 rfl List.mem_cons_self hu305 rfl (fun a301 k302 cs303 o304 => ?_)
          obtain ⟨u308, hu308, r309⟩ := bind_some r306; clear r306
          obtain ⟨e310, he311, hn312, ho313, p314⟩ := NL.get (NL.mono e296 oo1) hu308
          refine Cov.q .ro (.idxO 2 rfl rfl rfl hu308 sl34 ty35.sz) rfl ?_
          obtain ⟨u315, hu315, r316⟩ := bind_some r309; clear r309
          refine Cov.storeN 1 2 (Q := (Rep.int .i64)) .ro rfl rfl rfl (NL.mono e296 oo1) he288 o304 hu315 rfl (.inl ⟨rfl, rfl⟩) rfl ty35 rfl (fun es317 cs318 hlcs318 o319 => ?_)
          refine Cov.reval 1 hlcs318 rfl ?_
          refine Cov.reval 45 hlcs318 rfl ?_
          refine Cov.reval 47 hlcs318 rfl ?_
          refine Cov.region_end ?_
          refine Cov.prune [] trivial ?_
          refine Cov.seq ?_
          refine Cov.region rfl ?_
          refine Cov.q .ro (.assign rfl) rfl ?_
          refine Cov.region_end ?_
          cases r316
          refine Cov.pullS 2 rfl [_, _, _] rfl ?_
          refine Cov.pullS 2 rfl [_, _, _] rfl ?_
          refine Cov.retS (c := ⟨56, none⟩) (.inr ⟨_, rfl⟩) [.tmp 12] [_] rfl Try.func56 Try.results56 ⟨RV.tmp rfl, trivial⟩ (fun _ h => List.mem_cons_of_mem _ h) (.inr ⟨rfl, ⟨es317, cs318, cs267, rfl, rfl, rfl, (NL.flat (Rep.flat_int _) o319), hlcs318, (OL.flat Rep.flat_bool (OL.mono e296 o268)), (hlcs267.trans hl235)⟩⟩)
        · have r321 := ifF r277 c283; clear r277
          refine Cov.skip ?_
          refine Cov.seq ?_
          refine Cov.region rfl ?_
          refine Cov.q .ro (.move rfl) rfl ?_
          refine Cov.q .ro (.move rfl) rfl ?_
          obtain ⟨u322, hu322, r323⟩ := bind_some r321; clear r321
          obtain ⟨e324, he325, hn326, ho327, p328⟩ := NL.get oo1 hu322
          refine Cov.q .ro (.idxO 1 rfl rfl rfl hu322 sl34 ty35.sz) rfl ?_
          refine Cov.q .ro (.loadO 1 0 rfl hu322 p328 rfl (.inl ⟨rfl, rfl⟩) ty35 rfl) rfl ?_
          refine Cov.q .ro (.len_sl rfl rfl sl35) rfl ?_
          refine Cov.q .ro (.move rfl) rfl ?_
          refine Cov.region_end ?_
          refine Cov.block ?_
          refine Cov.loop2 (α := Nat × List Int × List Bool × List Value) (fun y => [(5, .slice a5 y.2.2.1.length k5), (60, .int .i64 (y.1 : Int))]) [(22, _), (0, _), (1, _), (2, _), (3, _), (4, _), (20, _), (21, _), (14, _), (58, _), (59, _)] (fun y => []) (fun y => []) [] (fun y => [.g (viewG bb5 4 pre5 y.2.2.2 post5)]) [_, _] (fun y => OL Rep.bool G y.2.2.2 y.2.2.1 ∧ VA a5 bb5 y.2.2.1.length k5 pre5 y.2.2.2 ∧ y.2.2.1.length = x5.length ∧ List.drop y.1 u322 = y.2.1 ∧ ref19_place_L1 (ref19_place_L2 (ref19_place_R n) x0 x2 x3 x4 x1 xs248) (ref19_place_R n) x0 x2 x3 x4 x247 x1 y.2.1 y.1 y.2.2.1 = some r) (fun y => y.2.1.length) (0, u322, u265, cs267) ⟨o268, va269, (hlcs267.trans hl235), rfl, r323⟩ ⟨rfl, rfl, rfl, rfl, rfl, rfl, rfl, rfl, rfl, rfl, rfl, rfl, rfl, trivial⟩ rfl rfl rfl (fun y hI hb395 => ?_)
          obtain ⟨i385, w386, v388, cs389⟩ := y
          obtain ⟨o390, va391, hl392, g387, r394⟩ := hI
          try dsimp only at o390 va391 hl392 g387 r394
          refine Cov.prune [(5, .slice a5 v388.length k5), (60, .int .i64 (i385 : Int)), (22, _), (0, _), (1, _), (2, _), (3, _), (4, _), (20, _), (21, _), (14, _), (58, _), (59, _)] ⟨rfl, rfl, rfl, rfl, rfl, rfl, rfl, rfl, rfl, rfl, rfl, rfl, rfl, trivial⟩ ?_
          refine Cov.same (bl' := []) (sl' := [.g (viewG bb5 4 pre5 cs389 post5), _, _]) (Fs' := G :: Fs) rfl rfl rfl ?_
          cases w386 with
          | nil =>
            rw [ref19_place_L1] at r394; try dsimp only at r394
            refine Cov.seq ?_
            refine Cov.region rfl ?_
            refine Cov.q .ro (.lss rfl rfl) rfl ?_
            refine Cov.region_end ?_
            refine Cov.seq ?_
            refine Cov.cond_dec rfl (fun c => absurd c (drop_nil g387)) (fun _ => ?_)
            refine Cov.exit rfl ?_
            refine Cov.inBlock ?_
            refine Cov.region rfl ?_
            refine Cov.q .ro (.addw rfl rfl) rfl ?_
            refine Cov.q .ro (.move rfl) rfl ?_
            refine Cov.region_end ?_
            refine Cov.prune _ ?_ (Cov.same rfl rfl rfl (hb238 ((i228 + 1), xs248, v388, cs389) ⟨o390, va391, hl392, (drop_succ g230), r394⟩ (Nat.lt_succ_self _)))
            exact ⟨rfl, (congrArg (fun z => some (Value.int .i64 z)) (idx_wrap (SlR.len s11) g230)), rfl, rfl, rfl, rfl, rfl, rfl, rfl, trivial⟩
          | cons x408 xs409 =>
            have r407 : ref19_place_B1 (ref19_place_L2 (ref19_place_R n) x0 x2 x3 x4 x1 xs248) (ref19_place_R n) x0 x2 x3 x4 x247 x1 (ref19_place_L1 (ref19_place_L2 (ref19_place_R n) x0 x2 x3 x4 x1 xs248) (ref19_place_R n) x0 x2 x3 x4 x247 x1 xs409 (i385 + 1)) x408 i385 v388 = some r := r394; clear r394; unfold ref19_place_B1 at r407; try dsimp only at r407
            refine Cov.seq ?_
            refine Cov.region rfl ?_
            refine Cov.q .ro (.lss rfl rfl) rfl ?_
            refine Cov.region_end ?_
            refine Cov.seq ?_
            refine Cov.cond_dec rfl (fun _ => ?_) (fun c => absurd (drop_lt g387) c)
            refine Cov.skip ?_
            refine Cov.seq ?_
            refine Cov.block ?_
            refine Cov.seq ?_
            refine Cov.region rfl ?_
            refine Cov.q .ro (.move rfl) rfl ?_
            obtain ⟨c410, p411, h412⟩ := OL.get ho327 (drop_idx g387)
            obtain rfl := h412
            refine Cov.q .ro (.inN 2 rfl he325 hn326 (.idxO (l := u322) 0 rfl rfl rfl (drop_idx g387) sl35 ty3.sz)) rfl ?_
            refine Cov.q .ro (.inN 2 rfl he325 hn326 (.loadO (l := u322) 0 0 rfl (drop_idx g387) p411 rfl (.inl ⟨rfl, rfl⟩) ty3 rfl)) rfl ?_
            refine Cov.q .ro (.assign rfl) rfl ?_
            refine Cov.q .ro (.assign rfl) rfl ?_
            refine Cov.region_end ?_
            refine Cov.seq ?_
            refine Cov.region rfl ?_
            refine Cov.q .ro (.move rfl) rfl ?_
            refine Cov.q .ro (.move rfl) rfl ?_
            refine Cov.q .ro (.move rfl) rfl ?_
            refine Cov.q .ro (.move rfl) rfl ?_
            refine Cov.q .ro (.move rfl) rfl ?_
            refine Cov.q .ro (.move rfl) rfl ?_
            obtain ⟨u413, hu413, r414⟩ := bind_some r407; clear r407
            refine Cov.pullS 2 rfl [_, _, _] rfl ?_
            refine Cov.pullS 2 rfl [_, _, _] rfl ?_
            refine Cov.callS (b1 := []) (b2 := []) (s1 := [_, _, _]) [_, _, _, _, _, _] [] .ro rfl rfl Try.call56 rfl rfl (ih (G := G) List.mem_cons_self s0 oo1 s2 va391 o390 hu413) rfl (fun v416 bo so h415 => ?_)
            rcases h415 with ⟨hb417, h415⟩ | ⟨hb417, h415⟩
            · have r418 := ifBF r414 hb417
              obtain ⟨cs419, rfl, rfl, rfl, o420, hl421⟩ := h415
              refine Cov.same (bl' := []) (sl' := [_, _, _]) rfl rfl rfl ?_
              have va423 := VA.call va391 o390 o420 hl421
              refine Cov.reval 5 hl421 rfl ?_
              refine Cov.reval 70 hl421 rfl ?_
              refine Cov.region_end ?_
              refine Cov.cond_false rfl ?_
              refine Cov.skip ?_
              refine Cov.inBlock ?_
              refine Cov.region rfl ?_
              refine Cov.q .ro (.addw rfl rfl) rfl ?_
              refine Cov.q .ro (.move rfl) rfl ?_
              refine Cov.region_end ?_
              refine Cov.prune [(5, _), (60, _), (22, _), (0, _), (1, _), (2, _), (3, _), (4, _), (20, _), (21, _), (14, _), (58, _), (59, _)] ⟨rfl, rfl, rfl, rfl, rfl, rfl, rfl, rfl, rfl, rfl, rfl, rfl, rfl, trivial⟩ ?_
              refine Cov.pullS 1 rfl [_, _, _] rfl ?_
              refine Cov.pullS 1 rfl [_, _, _] rfl ?_
              refine Cov.pullS 2 rfl [_, _, _] rfl ?_
              refine Cov.prune _ ?_ (Cov.same rfl rfl rfl (hb395 ((i385 + 1), xs409, u413.2.2, cs419) ⟨o420, va423, (hl421.trans hl392), (drop_succ g387), r418⟩ (Nat.lt_succ_self _)))
              exact ⟨rfl, (congrArg (fun z => some (Value.int .i64 z)) (idx_wrap (OL.len' ho327) g387)), rfl, rfl, rfl, rfl, rfl, rfl, rfl, rfl, rfl, rfl, rfl, trivial⟩
            · have r424 := ifT r414 hb417
              obtain ⟨es428, cs425, cs429, rfl, rfl, rfl, o426, hl427, o430, hl431⟩ := h415
              refine Cov.same (bl' := []) (sl' := [_, _, _]) rfl rfl rfl ?_
              have va434 := VA.call va391 o390 o430 hl431
              refine Cov.reval 1 hl427 rfl ?_
              refine Cov.reval 66 hl427 rfl ?_
              refine Cov.reval 5 hl431 rfl ?_
              refine Cov.reval 70 hl431 rfl ?_
              refine Cov.region_end ?_
              refine Cov.cond_true rfl ?_
              refine Cov.seq ?_
              refine Cov.region rfl ?_
              refine Cov.q .ro (.move rfl) rfl ?_
              refine Cov.q .ro (.move rfl) rfl ?_
              obtain ⟨u435, hu435, r436⟩ := bind_some r424; clear r424
              obtain ⟨e437, he438, hn439, ho440, p441⟩ := NL.get o426 hu435
              refine Cov.q .ro (.idxO 0 rfl rfl rfl hu435 sl34 ty35.sz) rfl ?_
              refine Cov.q .ro (.loadO 0 0 rfl hu435 p441 rfl (.inl ⟨rfl, rfl⟩) ty35 rfl) rfl ?_
              refine Cov.q .ro (.move rfl) rfl ?_
              refine Cov.q .ro (.move rfl) rfl ?_
              obtain ⟨u442, hu442, r443⟩ := bind_some r436; clear r436
              obtain ⟨c444, p445, h446⟩ := OL.get ho440 hu442
              obtain rfl := h446
              refine Cov.q .ro (.inN 1 rfl he438 hn439 (.idxO (l := u435) 0 rfl rfl rfl hu442 sl35 ty3.sz)) rfl ?_
              refine Cov.takeN 1 rfl he438 hn439 ?_
              obtain ⟨u448, hu448, r449⟩ := bind_some r443; clear r443
              refine Cov.storeR 0 0 (Q := (Rep.int .i64)) .ro rfl rfl ho440 hu448 rfl (.inl ⟨rfl, rfl⟩) rfl ty3 p445 ((Rep.intI .i64 x4) :) rfl rfl (fun cs450 hlcs450 o451 => ?_)
              obtain ⟨u453, hu453, r454⟩ := bind_some r449; clear r449
              refine Cov.backN 0 1 rfl rfl rfl o426 he438 (Eq.trans hlcs450 hn439.symm) o451 hu453 (fun es455 hles455 o456 => ?_)
              refine Cov.reval 1 hles455 rfl ?_
              refine Cov.reval 66 hles455 rfl ?_
              refine Cov.reval 72 hles455 rfl ?_
              refine Cov.region_end ?_
              refine Cov.prune [] trivial ?_
              refine Cov.seq ?_
              refine Cov.region rfl ?_
              refine Cov.q .ro (.assign rfl) rfl ?_
              refine Cov.region_end ?_
              cases r454
              refine Cov.retS (c := ⟨56, none⟩) (.inr ⟨_, rfl⟩) [.tmp 12] [_] rfl Try.func56 Try.results56 ⟨RV.tmp rfl, trivial⟩ (fun _ h => List.mem_cons_of_mem _ h) (.inr ⟨rfl, ⟨es455, cs425, cs429, rfl, rfl, rfl, o456, (hles455.trans hl427), o430, (hl431.trans hl392)⟩⟩)
theorem ref19_place_c {Fs : List Hp} {G : Hp} {a0 : Option Addr} {k0 : Nat} {x0 : List (List Int)} {a1 : Option Addr} {k1 : Nat} {x1 : List (List Int)} {cc1 : List Value} {ee1 : List NE} {a2 : Option Addr} {k2 : Nat} {x2 : List Int} {x3 : Int} {x4 : Int} {a5 : Option Addr} {k5 : Nat} {x5 : List Bool} {cc5 : List Value} {bb5 : Option Nat} {pre5 post5 : List Value} {r : (Bool × (List (List Int)) × (List Bool))} (hG : G ∈ Fs) (s0 : SlR (Rep.sl (Rep.int .i64)) G a0 k0 x0) (oo1 : NL (Rep.int .i64) G ee1 cc1 x1) (s2 : SlR (Rep.int .i64) G a2 k2 x2) (vva5 : VA a5 bb5 x5.length k5 pre5 cc5) (oo5 : OL Rep.bool G cc5 x5) (h : ref19_place x0 x1 x2 x3 x4 x5 = some r) : RetS Try.prog 56 #[.slice a0 x0.length k0, .slice a1 x1.length k1, .slice a2 x2.length k2, .int .i64 x3, .int .i64 x4, .slice a5 x5.length k5] Fs [] [.s (.slice a1 x1.length k1) 35 1 x1.length cc1, .g (packG 3 1 ee1), .g (viewG bb5 4 pre5 cc5 post5)] (fun v bo so => (r.1 = false ∧ ∃ lc0 : List Value, v = .bool false ∧ bo = [] ∧ so = [.s (.slice a1 x1.length k1) 35 1 x1.length cc1, .g (packG 3 1 ee1), .g (viewG bb5 4 pre5 lc0 post5)] ∧ OL Rep.bool G lc0 r.2.2 ∧ r.2.2.length = x5.length) ∨ (r.1 = true ∧ ∃ le0 : List NE, ∃ lc0 : List Value, ∃ lc1 : List Value, v = .bool true ∧ bo = [] ∧ so = [.s (.slice a1 r.2.1.length k1) 35 1 r.2.1.length lc0, .g (packG 3 1 le0), .g (viewG bb5 4 pre5 lc1 post5)] ∧ NL (Rep.int .i64) G le0 lc0 r.2.1 ∧ r.2.1.length = x1.length ∧ OL Rep.bool G lc1 r.2.2 ∧ r.2.2.length = x5.length)) := by
  unfold ref19_place at h
  exact ref19_place_R_c big hG s0 oo1 s2 vva5 oo5 h
set_option maxHeartbeats 4000000 in
set_option maxRecDepth 100000 in
theorem ref19_Possible_c {Fs : List Hp} {G : Hp} {a0 : Option Addr} {k0 : Nat} {x0 : List (List Int)} {x1 : Int} {x2 : Int} {a3 : Option Addr} {k3 : Nat} {x3 : List Int} {r : Bool} (hG : G ∈ Fs) (s0 : SlR (Rep.sl (Rep.int .i64)) G a0 k0 x0) (s3 : SlR (Rep.int .i64) G a3 k3 x3) (h : ref19_Possible x0 x1 x2 x3 = some r) : RetS Try.prog 42 #[.slice a0 x0.length k0, .int .i64 x1, .int .i64 x2, .slice a3 x3.length k3] Fs [] [] (fun v bo so => v = .bool r ∧ bo = [] ∧ so = []) := by
  unfold ref19_Possible at h
  try dsimp only at h
  refine RetS.of (vs := [_, _, _, _]) Try.func42 rfl Try.ntmps42 [(0, _), (1, _), (2, _), (3, _)] ⟨rfl, rfl, rfl, rfl, trivial⟩ rfl hG fun w0 S0 hS0 B0 => ?_
  refine Cov.seq ?_
  refine Cov.region rfl ?_
  refine Cov.q .ro (.assign rfl) rfl ?_
  refine Cov.region_end ?_
  refine Cov.seq ?_
  refine Cov.region rfl ?_
  refine Cov.q .ro (.move rfl) rfl ?_
  obtain ⟨u1, hu1, r2⟩ := bind_some h; clear h
  refine Cov.makeN (G := G) (Q := (Rep.int .i64)) 3 1 .ro sl34 ty35 rfl rfl hu1 rfl rfl (fun b3 es4 cs5 hb3 o6 => ?_)
  refine Cov.q .ro (.assign rfl) rfl ?_
  refine Cov.region_end ?_
  refine Cov.seq ?_
  refine Cov.seq ?_
  refine Cov.region rfl ?_
  refine Cov.q .ro (.move rfl) rfl ?_
  refine Cov.q .ro (.len_sl rfl rfl sl34) rfl ?_
  refine Cov.q .ro (.move rfl) rfl ?_
  refine Cov.region_end ?_
  refine Cov.block ?_
  refine Cov.pullS 1 rfl [_, _] rfl ?_
  refine Cov.pullS 1 rfl [_, _] rfl ?_
  refine Cov.loop2 (α := Nat × List (List Int) × List (List Int) × List NE × List Value) (fun y => [(9, .slice (some ⟨b3, 0, none⟩) y.2.2.1.length u1.length), (16, .int .i64 (y.1 : Int))]) [(0, _), (1, _), (2, _), (3, _), (15, _)] (fun y => []) (fun y => []) [] (fun y => [.s (.slice (some ⟨b3, 0, none⟩) y.2.2.1.length u1.length) 35 1 y.2.2.1.length y.2.2.2.2, .g (packG 3 1 y.2.2.2.1)]) [] (fun y => NL (Rep.int .i64) G y.2.2.2.1 y.2.2.2.2 y.2.2.1 ∧ y.2.2.1.length = u1.length ∧ List.drop y.1 x0 = y.2.1 ∧ ref19_Possible_L1 x0 x1 x2 x3 y.2.1 y.1 y.2.2.1 = some r) (fun y => y.2.1.length) (0, x0, u1, es4, cs5) ⟨o6, rfl, rfl, r2⟩ ⟨rfl, rfl, rfl, rfl, rfl, rfl, rfl, trivial⟩ rfl rfl rfl (fun y hI hb56 => ?_)
  obtain ⟨i45, w46, v48, es49, cs50⟩ := y
  obtain ⟨o51, hl52, g47, r55⟩ := hI
  try dsimp only at o51 hl52 g47 r55
  refine Cov.prune [(9, .slice (some ⟨b3, 0, none⟩) v48.length u1.length), (16, .int .i64 (i45 : Int)), (0, _), (1, _), (2, _), (3, _), (15, _)] ⟨rfl, rfl, rfl, rfl, rfl, rfl, rfl, trivial⟩ ?_
  refine Cov.same (bl' := []) (sl' := [.s (.slice (some ⟨b3, 0, none⟩) v48.length u1.length) 35 1 v48.length cs50, .g (packG 3 1 es49)]) (Fs' := G :: Fs) rfl rfl rfl ?_
  cases w46 with
  | nil =>
    rw [ref19_Possible_L1] at r55; try dsimp only at r55
    refine Cov.seq ?_
    refine Cov.region rfl ?_
    refine Cov.q .ro (.lss rfl rfl) rfl ?_
    refine Cov.region_end ?_
    refine Cov.seq ?_
    refine Cov.cond_dec rfl (fun c => absurd c (drop_nil g47)) (fun _ => ?_)
    refine Cov.exit rfl ?_
    refine Cov.seq ?_
    refine Cov.region rfl ?_
    refine Cov.q .ro (.assign rfl) rfl ?_
    refine Cov.region_end ?_
    cases r55
    refine Cov.drop 0 2 _ [] rfl rfl ?_
    refine Cov.retS (c := ⟨42, none⟩) (.inr ⟨_, rfl⟩) [.tmp 8] [_] rfl Try.func42 Try.results42 ⟨RV.tmp rfl, trivial⟩ (fun _ h => List.mem_cons_of_mem _ h) ⟨rfl, rfl, rfl⟩
  | cons x63 xs64 =>
    have r62 : ref19_Possible_B1 x0 x1 x2 x3 (ref19_Possible_L1 x0 x1 x2 x3 xs64 (i45 + 1)) x63 i45 v48 = some r := r55; clear r55; unfold ref19_Possible_B1 at r62; try dsimp only at r62
    refine Cov.seq ?_
    refine Cov.region rfl ?_
    refine Cov.q .ro (.lss rfl rfl) rfl ?_
    refine Cov.region_end ?_
    refine Cov.seq ?_
    refine Cov.cond_dec rfl (fun _ => ?_) (fun c => absurd (drop_lt g47) c)
    refine Cov.skip ?_
    refine Cov.seq ?_
    refine Cov.block ?_
    refine Cov.seq ?_
    refine Cov.region rfl ?_
    refine Cov.q .ro (.move rfl) rfl ?_
    refine Cov.q .ro (.assign rfl) rfl ?_
    refine Cov.region_end ?_
    refine Cov.seq ?_
    refine Cov.region rfl ?_
    refine Cov.q .ro (.move rfl) rfl ?_
    obtain ⟨u65, hu65, r66⟩ := bind_some r62; clear r62
    refine Cov.makeR (G := G) (Q := Rep.bool) .ro sl95 ty4 rfl rfl rfl ((Rep.boolI false) :) rfl rfl hu65 rfl rfl (fun b67 cs68 hb67 o69 => ?_)
    refine Cov.q .ro (.assign rfl) rfl ?_
    refine Cov.region_end ?_
    refine Cov.seq ?_
    refine Cov.region rfl ?_
    refine Cov.q .ro (.move rfl) rfl ?_
    refine Cov.q .ro (.move rfl) rfl ?_
    refine Cov.q .ro (.move rfl) rfl ?_
    refine Cov.q .ro (.move rfl) rfl ?_
    refine Cov.q .ro (.move rfl) rfl ?_
    refine Cov.q .ro (.move rfl) rfl ?_
    refine Cov.toV 0 rfl (fun vb71 po72 va73 vb74 => ?_)
    obtain ⟨u75, hu75, r76⟩ := bind_some r66; clear r66
    refine Cov.pullS 2 rfl [_, _, _] rfl ?_
    refine Cov.pullS 2 rfl [_, _, _] rfl ?_
    refine Cov.callS (b1 := []) (b2 := []) (s1 := [_, _, _]) [_, _, _, _, _, _] [] .ro rfl rfl Try.call56 rfl rfl (ref19_place_c (G := G) List.mem_cons_self s0 o51 s3 va73 o69 hu75) rfl (fun v78 bo so h77 => ?_)
    rcases h77 with ⟨hb79, h77⟩ | ⟨hb79, h77⟩
    · have r80 := ifBF r76 hb79
      obtain ⟨cs81, rfl, rfl, rfl, o82, hl83⟩ := h77
      refine Cov.same (bl' := []) (sl' := [_, _, _]) rfl rfl rfl ?_
      refine Cov.ofV 2 rfl vb74 hl83 o82 rfl ?_
      refine Cov.reval 20 hl83 rfl ?_
      refine Cov.reval 11 hl83 rfl ?_
      refine Cov.reval 26 hl83 rfl ?_
      refine Cov.q .ro (.not_f rfl) rfl ?_
      refine Cov.region_end ?_
      refine Cov.prune [(9, _), (16, _), (0, _), (1, _), (2, _), (3, _), (15, _), (28, _)] ⟨rfl, rfl, rfl, rfl, rfl, rfl, rfl, rfl, trivial⟩ ?_
      refine Cov.cond_true rfl ?_
      refine Cov.seq ?_
      refine Cov.region rfl ?_
      refine Cov.q .ro (.assign rfl) rfl ?_
      refine Cov.region_end ?_
      cases r80
      refine Cov.drop 0 3 _ [] rfl rfl ?_
      refine Cov.retS (c := ⟨42, none⟩) (.inr ⟨_, rfl⟩) [.tmp 8] [_] rfl Try.func42 Try.results42 ⟨RV.tmp rfl, trivial⟩ (fun _ h => List.mem_cons_of_mem _ h) ⟨rfl, rfl, rfl⟩
    · have r85 := ifT r76 hb79
      obtain ⟨es89, cs86, cs90, rfl, rfl, rfl, o87, hl88, o91, hl92⟩ := h77
      refine Cov.same (bl' := []) (sl' := [_, _, _]) rfl rfl rfl ?_
      refine Cov.ofV 2 rfl vb74 hl92 o91 rfl ?_
      refine Cov.reval 9 hl88 rfl ?_
      refine Cov.reval 22 hl88 rfl ?_
      refine Cov.reval 20 hl92 rfl ?_
      refine Cov.reval 11 hl92 rfl ?_
      refine Cov.reval 26 hl92 rfl ?_
      refine Cov.q .ro (.not_t rfl) rfl ?_
      refine Cov.region_end ?_
      refine Cov.prune [(9, _), (16, _), (0, _), (1, _), (2, _), (3, _), (15, _), (28, _)] ⟨rfl, rfl, rfl, rfl, rfl, rfl, rfl, rfl, trivial⟩ ?_
      refine Cov.cond_false rfl ?_
      refine Cov.skip ?_
      refine Cov.inBlock ?_
      refine Cov.region rfl ?_
      refine Cov.q .ro (.addw rfl rfl) rfl ?_
      refine Cov.q .ro (.move rfl) rfl ?_
      refine Cov.region_end ?_
      refine Cov.pullS 1 rfl [_, _, _] rfl ?_
      refine Cov.pullS 1 rfl [_, _, _] rfl ?_
      refine Cov.pullS 2 rfl [_, _, _] rfl ?_
      refine Cov.drop 0 1 _ [_, _] rfl rfl ?_
      refine Cov.prune _ ?_ (Cov.same rfl rfl rfl (hb56 ((i45 + 1), xs64, u75.2.1, es89, cs86) ⟨o87, (hl88.trans hl52), (drop_succ g47), r85⟩ (Nat.lt_succ_self _)))
      exact ⟨rfl, (congrArg (fun z => some (Value.int .i64 z)) (idx_wrap (SlR.len s0) g47)), rfl, rfl, rfl, rfl, rfl, trivial⟩
set_option maxHeartbeats 4000000 in
set_option maxRecDepth 100000 in
theorem ref19_First_c {Fs : List Hp} {G : Hp} {a0 : Option Addr} {k0 : Nat} {x0 : List (List Int)} {x1 : Int} {x2 : Int} {r : ((List Int) × Bool)} (hG : G ∈ Fs) (s0 : SlR (Rep.sl (Rep.int .i64)) G a0 k0 x0) (h : ref19_First x0 x1 x2 = some r) : RetS Try.prog 25 #[.slice a0 x0.length k0, .int .i64 x1, .int .i64 x2] Fs [] [] (fun v bo so => ∃ (oa0 : Option Addr) (ok0 : Nat) (oc0 : List Value), v = .tuple #[.slice oa0 r.1.length ok0, .bool r.2] ∧ bo = [] ∧ so = [.s (.slice oa0 r.1.length ok0) 3 1 r.1.length oc0] ∧ OL (Rep.int .i64) G oc0 r.1) := by
  unfold ref19_First at h
  try dsimp only at h
  refine RetS.of (vs := [_, _, _]) Try.func25 rfl Try.ntmps25 [(0, _), (1, _), (2, _)] ⟨rfl, rfl, rfl, trivial⟩ rfl hG fun w0 S0 hS0 B0 => ?_
  refine Cov.seq ?_
  refine Cov.region rfl ?_
  refine Cov.q .ro (.assign rfl) rfl ?_
  refine Cov.q .ro (.assign rfl) rfl ?_
  refine Cov.region_end ?_
  refine Cov.seq ?_
  refine Cov.region rfl ?_
  refine Cov.q .ro (.move rfl) rfl ?_
  obtain ⟨u1, hu1, r2⟩ := bind_some h; clear h
  refine Cov.makeR (G := G) (Q := (Rep.int .i64)) .ro sl35 ty3 rfl rfl rfl ((Rep.intI .i64 0) :) rfl rfl hu1 rfl rfl (fun b3 cs4 hb3 o5 => ?_)
  refine Cov.q .ro (.assign rfl) rfl ?_
  refine Cov.region_end ?_
  refine Cov.seq ?_
  refine Cov.seq ?_
  refine Cov.region rfl ?_
  refine Cov.q .ro (.move rfl) rfl ?_
  refine Cov.q .ro (.move rfl) rfl ?_
  refine Cov.q .ro (.move rfl) rfl ?_
  refine Cov.q .ro (.move rfl) rfl ?_
  obtain ⟨u7, hu7, r8⟩ := bind_some r2; clear r2
  refine Cov.callB (Q := fun v bo so => v = .bool u7 ∧ bo = [] ∧ so = []) (b1 := []) (b2 := []) (s1 := []) (sB := [_]) (s2 := []) [_, _, _, _] [] .ro rfl rfl Try.call42 rfl rfl (fun Fs' G' hle hB hm => (ref19_Possible_c (G := G') hm (SlR.mono hle s0) (SlR.rd o5 rfl hle (hB _ (List.mem_of_getElem? (i := 0) rfl))) hu7)) rfl (fun v10 bo so h9 => ?_)
  obtain ⟨rfl, rfl, rfl⟩ := h9
  refine Cov.same (bl' := []) (sl' := [_]) rfl rfl rfl ?_
  refine Cov.q .ro (.not rfl) rfl ?_
  refine Cov.region_end ?_
  refine Cov.cond rfl (fun c11 => ?_) (fun c11 => ?_)
  · have r12 := ifT r8 c11; clear r8
    refine Cov.seq ?_
    refine Cov.region rfl ?_
    refine Cov.q .ro (.assign rfl) rfl ?_
    refine Cov.q .ro (.assign rfl) rfl ?_
    refine Cov.region_end ?_
    refine Cov.own_nil 3 1 ?_
    cases r12
    refine Cov.pullS 1 rfl [_, _] rfl ?_
    refine Cov.drop 0 1 _ [_] rfl rfl ?_
    refine Cov.retS (c := ⟨25, none⟩) (.inr ⟨_, rfl⟩) [.tmp 6, .tmp 7] [_, _] rfl Try.func25 Try.results25 ⟨RV.tmp rfl, RV.tmp rfl, trivial⟩ (fun _ h => List.mem_cons_of_mem _ h) ⟨none, 0, [], rfl, rfl, rfl, (OL.nil (Rp' := (Rep.int .i64)))⟩
  · have r14 := ifBF r8 c11; clear r8
    refine Cov.skip ?_
    refine Cov.seq ?_
    refine Cov.region rfl ?_
    refine Cov.q .ro (.assign rfl) rfl ?_
    refine Cov.region_end ?_
    refine Cov.seq ?_
    refine Cov.seq ?_
    refine Cov.region rfl ?_
    refine Cov.q .ro (.move rfl) rfl ?_
    refine Cov.q .ro (.len_sl rfl rfl sl34) rfl ?_
    refine Cov.q .ro (.move rfl) rfl ?_
    refine Cov.region_end ?_
    refine Cov.block ?_
    refine Cov.own_nil 3 1 ?_
    refine Cov.pullS 1 rfl [_, _] rfl ?_
    refine Cov.pullS 1 rfl [_, _] rfl ?_
    refine Cov.loop2 (α := Nat × List (List Int) × List Int × Option Addr × Nat × List Value × List Int × Option Addr × Nat × List Value) (fun y => [(9, .slice y.2.2.2.1 y.2.2.1.length y.2.2.2.2.1), (8, .slice y.2.2.2.2.2.2.2.1 y.2.2.2.2.2.2.1.length y.2.2.2.2.2.2.2.2.1), (24, .int .i64 (y.1 : Int))]) [(0, _), (1, _), (2, _), (22, _), (23, _)] (fun y => []) (fun y => []) [] (fun y => [.s (.slice y.2.2.2.1 y.2.2.1.length y.2.2.2.2.1) 3 1 y.2.2.1.length y.2.2.2.2.2.1, .s (.slice y.2.2.2.2.2.2.2.1 y.2.2.2.2.2.2.1.length y.2.2.2.2.2.2.2.2.1) 3 1 y.2.2.2.2.2.2.1.length y.2.2.2.2.2.2.2.2.2]) [] (fun y => OL (Rep.int .i64) G y.2.2.2.2.2.1 y.2.2.1 ∧ OL (Rep.int .i64) G y.2.2.2.2.2.2.2.2.2 y.2.2.2.2.2.2.1 ∧ List.drop y.1 x0 = y.2.1 ∧ ref19_First_L2 x0 x1 x2 y.2.1 y.1 y.2.2.1 y.2.2.2.2.2.2.1 = some r) (fun y => y.2.1.length) (0, x0, ([] : List Int), none, 0, [], u1, (some ⟨b3, 0, none⟩), u1.length, cs4) ⟨(OL.nil (Rp' := (Rep.int .i64))), o5, rfl, r14⟩ ⟨rfl, rfl, rfl, rfl, rfl, rfl, rfl, rfl, trivial⟩ rfl rfl rfl (fun y hI hb381 => ?_)
    obtain ⟨i365, w366, v368, a369, k370, cs371, v374, a375, k376, cs377⟩ := y
    obtain ⟨o372, o378, g367, r380⟩ := hI
    try dsimp only at o372 o378 g367 r380
    refine Cov.prune [(9, .slice a369 v368.length k370), (8, .slice a375 v374.length k376), (24, .int .i64 (i365 : Int)), (0, _), (1, _), (2, _), (22, _), (23, _)] ⟨rfl, rfl, rfl, rfl, rfl, rfl, rfl, rfl, trivial⟩ ?_
    refine Cov.same (bl' := []) (sl' := [.s (.slice a369 v368.length k370) 3 1 v368.length cs371, .s (.slice a375 v374.length k376) 3 1 v374.length cs377]) (Fs' := G :: Fs) rfl rfl rfl ?_
    cases w366 with
    | nil =>
      rw [ref19_First_L2] at r380; try dsimp only at r380
      refine Cov.seq ?_
      refine Cov.region rfl ?_
      refine Cov.q .ro (.lss rfl rfl) rfl ?_
      refine Cov.region_end ?_
      refine Cov.seq ?_
      refine Cov.cond_dec rfl (fun c => absurd c (drop_nil g367)) (fun _ => ?_)
      refine Cov.exit rfl ?_
      refine Cov.seq ?_
      refine Cov.region rfl ?_
      refine Cov.q .ro (.move rfl) rfl ?_
      refine Cov.q .ro (.assign rfl) rfl ?_
      refine Cov.q .ro (.assign rfl) rfl ?_
      refine Cov.region_end ?_
      cases r380
      refine Cov.pullS 1 rfl [_, _] rfl ?_
      refine Cov.drop 0 1 _ [_] rfl rfl ?_
      refine Cov.retS (c := ⟨25, none⟩) (.inr ⟨_, rfl⟩) [.tmp 6, .tmp 7] [_, _] rfl Try.func25 Try.results25 ⟨RV.tmp rfl, RV.tmp rfl, trivial⟩ (fun _ h => List.mem_cons_of_mem _ h) ⟨a369, k370, cs371, rfl, rfl, rfl, o372⟩
    | cons x387 xs388 =>
      have r386 : ref19_First_B2 x0 x1 x2 (ref19_First_L2 x0 x1 x2 xs388 (i365 + 1)) x387 i365 v368 v374 = some r := r380; clear r380; unfold ref19_First_B2 at r386; try dsimp only at r386
      refine Cov.seq ?_
      refine Cov.region rfl ?_
      refine Cov.q .ro (.lss rfl rfl) rfl ?_
      refine Cov.region_end ?_
      refine Cov.seq ?_
      refine Cov.cond_dec rfl (fun _ => ?_) (fun c => absurd (drop_lt g367) c)
      refine Cov.skip ?_
      refine Cov.seq ?_
      refine Cov.block ?_
      refine Cov.seq ?_
      refine Cov.region rfl ?_
      refine Cov.q .ro (.move rfl) rfl ?_
      obtain ⟨c389, p390, h391⟩ := SlR.get s0 (drop_idx g367)
      obtain ⟨a392, k393, rfl, s394⟩ := h391
      refine Cov.q .ro (.idxR s0 rfl rfl (drop_idx g367) sl34 ty35.sz) rfl ?_
      refine Cov.q .ro (.load_rp p390 List.mem_cons_self rfl ty35 rfl) rfl ?_
      refine Cov.q .ro (.assign rfl) rfl ?_
      refine Cov.q .ro (.assign rfl) rfl ?_
      refine Cov.region_end ?_
      refine Cov.seq ?_
      refine Cov.region rfl ?_
      refine Cov.q .ro (.move rfl) rfl ?_
      refine Cov.q .ro (.len_sl rfl rfl sl35) rfl ?_
      refine Cov.q .ro (.move rfl) rfl ?_
      refine Cov.region_end ?_
      refine Cov.block ?_
      refine Cov.pullS 1 rfl [_, _] rfl ?_
      refine Cov.loop2 (α := Nat × List Int × List Int × Option Addr × Nat × List Value) (fun y => [(8, .slice y.2.2.2.1 y.2.2.1.length y.2.2.2.2.1), (31, .int .i64 (y.1 : Int))]) [(9, _), (24, _), (0, _), (1, _), (2, _), (22, _), (23, _), (10, _), (29, _), (30, _)] (fun y => []) (fun y => []) [] (fun y => [.s (.slice y.2.2.2.1 y.2.2.1.length y.2.2.2.2.1) 3 1 y.2.2.1.length y.2.2.2.2.2]) [_] (fun y => OL (Rep.int .i64) G y.2.2.2.2.2 y.2.2.1 ∧ List.drop y.1 x387 = y.2.1 ∧ ref19_First_L1 (ref19_First_L2 x0 x1 x2 xs388 (i365 + 1)) (i365 : Int) x0 x1 x2 v368 y.2.1 y.2.2.1 = some r) (fun y => y.2.1.length) (0, x387, v374, a375, k376, cs377) ⟨o378, rfl, r386⟩ ⟨rfl, rfl, rfl, rfl, rfl, rfl, rfl, rfl, rfl, rfl, rfl, rfl, trivial⟩ rfl rfl rfl (fun y hI hb481 => ?_)
      obtain ⟨i471, w472, v474, a475, k476, cs477⟩ := y
      obtain ⟨o478, g473, r480⟩ := hI
      try dsimp only at o478 g473 r480
      refine Cov.prune [(8, .slice a475 v474.length k476), (31, .int .i64 (i471 : Int)), (9, _), (24, _), (0, _), (1, _), (2, _), (22, _), (23, _), (10, _), (29, _), (30, _)] ⟨rfl, rfl, rfl, rfl, rfl, rfl, rfl, rfl, rfl, rfl, rfl, rfl, trivial⟩ ?_
      refine Cov.same (bl' := []) (sl' := [.s (.slice a475 v474.length k476) 3 1 v474.length cs477, _]) (Fs' := G :: Fs) rfl rfl rfl ?_
      cases w472 with
      | nil =>
        rw [ref19_First_L1] at r480; try dsimp only at r480
        refine Cov.seq ?_
        refine Cov.region rfl ?_
        refine Cov.q .ro (.lss rfl rfl) rfl ?_
        refine Cov.region_end ?_
        refine Cov.seq ?_
        refine Cov.cond_dec rfl (fun c => absurd c (drop_nil g473)) (fun _ => ?_)
        refine Cov.exit rfl ?_
        refine Cov.inBlock ?_
        refine Cov.region rfl ?_
        refine Cov.q .ro (.addw rfl rfl) rfl ?_
        refine Cov.q .ro (.move rfl) rfl ?_
        refine Cov.region_end ?_
        refine Cov.pullS 1 rfl [_, _] rfl ?_
        refine Cov.prune _ ?_ (Cov.same rfl rfl rfl (hb381 ((i365 + 1), xs388, v368, a369, k370, cs371, v474, a475, k476, cs477) ⟨o372, o478, (drop_succ g367), r480⟩ (Nat.lt_succ_self _)))
        exact ⟨rfl, rfl, (congrArg (fun z => some (Value.int .i64 z)) (idx_wrap (SlR.len s0) g367)), rfl, rfl, rfl, rfl, rfl, trivial⟩
      | cons x491 xs492 =>
        have r490 : ref19_First_B1 (ref19_First_L2 x0 x1 x2 xs388 (i365 + 1)) (i365 : Int) x0 x1 x2 v368 (ref19_First_L1 (ref19_First_L2 x0 x1 x2 xs388 (i365 + 1)) (i365 : Int) x0 x1 x2 v368 xs492) x491 v474 = some r := r480; clear r480; unfold ref19_First_B1 at r490; try dsimp only at r490
        refine Cov.seq ?_
        refine Cov.region rfl ?_
        refine Cov.q .ro (.lss rfl rfl) rfl ?_
        refine Cov.region_end ?_
        refine Cov.seq ?_
        refine Cov.cond_dec rfl (fun _ => ?_) (fun c => absurd (drop_lt g473) c)
        refine Cov.skip ?_
        refine Cov.seq ?_
        refine Cov.block ?_
        refine Cov.seq ?_
        refine Cov.region rfl ?_
        obtain ⟨c493, p494, h495⟩ := SlR.get s394 (drop_idx g473)
        obtain rfl := h495
        refine Cov.q .ro (.idxR s394 rfl rfl (drop_idx g473) sl35 ty3.sz) rfl ?_
        refine Cov.q .ro (.load_rp p494 List.mem_cons_self rfl ty3 rfl) rfl ?_
        refine Cov.q .ro (.assign rfl) rfl ?_
        refine Cov.region_end ?_
        refine Cov.seq ?_
        refine Cov.seq ?_
        refine Cov.region rfl ?_
        refine Cov.q .ro (.move rfl) rfl ?_
        refine Cov.q .ro (.move rfl) rfl ?_
        obtain ⟨u496, hu496, r497⟩ := bind_some r490; clear r490
        obtain ⟨c498, p499, h500⟩ := OL.get o478 hu496
        obtain rfl := h500
        refine Cov.q .ro (.idxO 0 rfl rfl rfl hu496 sl35 ty3.sz) rfl ?_
        refine Cov.q .ro (.loadO 0 0 rfl hu496 p499 rfl (.inl ⟨rfl, rfl⟩) ty3 rfl) rfl ?_
        refine Cov.q .ro (.move rfl) rfl ?_
        refine Cov.q .ro (.eql rfl rfl) rfl ?_
        refine Cov.region_end ?_
        refine Cov.cond_dec rfl (fun c501 => ?_) (fun c501 => ?_)
        · have r502 := ifT r497 c501; clear r497
          refine Cov.exit rfl ?_
          refine Cov.region rfl ?_
          refine Cov.q .ro (.addw rfl rfl) rfl ?_
          refine Cov.q .ro (.move rfl) rfl ?_
          refine Cov.region_end ?_
          refine Cov.prune _ ?_ (Cov.same rfl rfl rfl (hb481 ((i471 + 1), xs492, v474, a475, k476, cs477) ⟨o478, (drop_succ g473), r502⟩ (Nat.lt_succ_self _)))
          exact ⟨rfl, (congrArg (fun z => some (Value.int .i64 z)) (idx_wrap (SlR.len s394) g473)), rfl, rfl, rfl, rfl, rfl, rfl, rfl, rfl, rfl, rfl, trivial⟩
        · have r503 := ifF r497 c501; clear r497
          refine Cov.skip ?_
          refine Cov.seq ?_
          refine Cov.region rfl ?_
          refine Cov.q .ro (.move rfl) rfl ?_
          refine Cov.q .ro (.move rfl) rfl ?_
          obtain ⟨u504, hu504, r505⟩ := bind_some r503; clear r503
          obtain ⟨c506, p507, h508⟩ := OL.get o478 hu504
          obtain rfl := h508
          refine Cov.q .ro (.idxO 0 rfl rfl rfl hu504 sl35 ty3.sz) rfl ?_
          refine Cov.q .ro (.loadO 0 0 rfl hu504 p507 rfl (.inl ⟨rfl, rfl⟩) ty3 rfl) rfl ?_
          refine Cov.q .ro (.addw rfl rfl) rfl ?_
          obtain ⟨u509, hu509, r510⟩ := bind_some r505; clear r505
          obtain ⟨c511, p512, h513⟩ := OL.get o478 hu509
          obtain rfl := h513
          refine Cov.q .ro (.idxO 0 rfl rfl rfl hu509 sl35 ty3.sz) rfl ?_
          obtain ⟨u514, hu514, r515⟩ := bind_some r510; clear r510
          refine Cov.storeR 0 0 (Q := (Rep.int .i64)) .ro rfl rfl o478 hu514 rfl (.inl ⟨rfl, rfl⟩) rfl ty3 p512 ((Rep.intI .i64 (w64 (u504 + 1))) :) rfl rfl (fun cs516 hlcs516 o517 => ?_)
          refine Cov.reval 8 hlcs516 rfl ?_
          refine Cov.reval 35 hlcs516 rfl ?_
          refine Cov.reval 41 hlcs516 rfl ?_
          refine Cov.region_end ?_
          refine Cov.prune [(8, _), (31, _), (9, _), (24, _), (0, _), (1, _), (2, _), (22, _), (23, _), (10, _), (29, _), (30, _), (13, _)] ⟨rfl, rfl, rfl, rfl, rfl, rfl, rfl, rfl, rfl, rfl, rfl, rfl, rfl, trivial⟩ ?_
          refine Cov.seq ?_
          refine Cov.seq ?_
          refine Cov.region rfl ?_
          refine Cov.q .ro (.move rfl) rfl ?_
          refine Cov.q .ro (.move rfl) rfl ?_
          refine Cov.q .ro (.addw rfl rfl) rfl ?_
          obtain ⟨u519, hu519, r520⟩ := bind_some r515; clear r515
          obtain ⟨a521, k522, h523, s524⟩ := SlR.sub s0 hu519
          refine Cov.q .ro (.sliceR s0 rfl hu519 sl34 ty35.sz (fun h => .yes' rfl h) (fun _ => .no) h523) rfl ?_
          refine Cov.q .ro (.move rfl) rfl ?_
          refine Cov.q .ro (.move rfl) rfl ?_
          refine Cov.q .ro (.move rfl) rfl ?_
          obtain ⟨u525, hu525, r526⟩ := bind_some r520; clear r520
          refine Cov.callB (Q := fun v bo so => v = .bool u525 ∧ bo = [] ∧ so = []) (b1 := []) (b2 := []) (s1 := []) (sB := [_]) (s2 := [_]) [_, _, _, _] [] .ro rfl rfl Try.call42 rfl rfl (fun Fs' G' hle hB hm => (ref19_Possible_c (G := G') hm (SlR.mono hle s524) (SlR.rd o517 rfl hle (hB _ (List.mem_of_getElem? (i := 0) rfl))) hu525)) rfl (fun v528 bo so h527 => ?_)
          obtain ⟨rfl, rfl, rfl⟩ := h527
          refine Cov.same (bl' := []) (sl' := [_, _]) rfl rfl rfl ?_
          refine Cov.region_end ?_
          refine Cov.cond rfl (fun c529 => ?_) (fun c529 => ?_)
          · have r530 := ifT r526 c529; clear r526
            refine Cov.seq ?_
            refine Cov.region rfl ?_
            refine Cov.q .ro (.move rfl) rfl ?_
            refine Cov.q .ro (.move rfl) rfl ?_
            refine Cov.lit [_] [(0, _)] .ro sl35 ty3 rfl rfl rfl rfl rfl rfl (fun b531 hb531 => ?_)
            have o532 : OL (Rep.int .i64) G [.int .i64 x491] ([x491] : List Int) := ((OL.cons rfl (Rep.intI .i64 x491) (OL.nil (Rp' := (Rep.int .i64)))) :)
            refine Cov.reval 57 (n' := ([x491] : List Int).length) rfl rfl ?_
            obtain ⟨u538, hu538, r539⟩ := bind_some r530; clear r530
            refine Cov.appO (Q := (Rep.int .i64)) 1 .ro sl35 ty3 rfl rfl rfl rfl rfl rfl o372 o532 rfl rfl rfl B0 hu538 rfl (fun a534 k535 cs536 o537 => ?_)
            refine Cov.q .ro (.assign rfl) rfl ?_
            refine Cov.region_end ?_
            refine Cov.prune [(8, _), (9, _), (24, _), (0, _), (1, _), (2, _), (22, _), (23, _)] ⟨rfl, rfl, rfl, rfl, rfl, rfl, rfl, rfl, trivial⟩ ?_
            refine Cov.exit rfl ?_
            refine Cov.inBlock ?_
            refine Cov.region rfl ?_
            refine Cov.q .ro (.addw rfl rfl) rfl ?_
            refine Cov.q .ro (.move rfl) rfl ?_
            refine Cov.region_end ?_
            refine Cov.pullS 1 rfl [_, _] rfl ?_
            refine Cov.prune _ ?_ (Cov.same rfl rfl rfl (hb381 ((i365 + 1), xs388, u538, a534, k535, cs536, u514, a475, k476, cs516) ⟨o537, o517, (drop_succ g367), r539⟩ (Nat.lt_succ_self _)))
            exact ⟨rfl, rfl, (congrArg (fun z => some (Value.int .i64 z)) (idx_wrap (SlR.len s0) g367)), rfl, rfl, rfl, rfl, rfl, trivial⟩
          · have r541 := ifBF r526 c529; clear r526
            refine Cov.skip ?_
            refine Cov.region rfl ?_
            refine Cov.q .ro (.move rfl) rfl ?_
            refine Cov.q .ro (.move rfl) rfl ?_
            obtain ⟨u542, hu542, r543⟩ := bind_some r541; clear r541
            obtain ⟨c544, p545, h546⟩ := OL.get o517 hu542
            obtain rfl := h546
            refine Cov.q .ro (.idxO 0 rfl rfl rfl hu542 sl35 ty3.sz) rfl ?_
            refine Cov.q .ro (.loadO 0 0 rfl hu542 p545 rfl (.inl ⟨rfl, rfl⟩) ty3 rfl) rfl ?_
            refine Cov.q .ro (.subw rfl rfl) rfl ?_
            obtain ⟨u547, hu547, r548⟩ := bind_some r543; clear r543
            obtain ⟨c549, p550, h551⟩ := OL.get o517 hu547
            obtain rfl := h551
            refine Cov.q .ro (.idxO 0 rfl rfl rfl hu547 sl35 ty3.sz) rfl ?_
            obtain ⟨u552, hu552, r553⟩ := bind_some r548; clear r548
            refine Cov.storeR 0 0 (Q := (Rep.int .i64)) .ro rfl rfl o517 hu552 rfl (.inl ⟨rfl, rfl⟩) rfl ty3 p550 ((Rep.intI .i64 (w64 (u542 - 1))) :) rfl rfl (fun cs554 hlcs554 o555 => ?_)
            refine Cov.reval 8 hlcs554 rfl ?_
            refine Cov.reval 53 hlcs554 rfl ?_
            refine Cov.reval 59 hlcs554 rfl ?_
            refine Cov.region_end ?_
            refine Cov.prune [(8, _), (31, _), (9, _), (24, _), (0, _), (1, _), (2, _), (22, _), (23, _), (10, _), (29, _), (30, _)] ⟨rfl, rfl, rfl, rfl, rfl, rfl, rfl, rfl, rfl, rfl, rfl, rfl, trivial⟩ ?_
            refine Cov.inBlock ?_
            refine Cov.region rfl ?_
            refine Cov.q .ro (.addw rfl rfl) rfl ?_
            refine Cov.q .ro (.move rfl) rfl ?_
            refine Cov.region_end ?_
            refine Cov.prune _ ?_ (Cov.same rfl rfl rfl (hb481 ((i471 + 1), xs492, u552, a475, k476, cs554) ⟨o555, (drop_succ g473), r553⟩ (Nat.lt_succ_self _)))
            exact ⟨rfl, (congrArg (fun z => some (Value.int .i64 z)) (idx_wrap (SlR.len s394) g473)), rfl, rfl, rfl, rfl, rfl, rfl, rfl, rfl, rfl, rfl, trivial⟩
end Go.Proofs.Ytnfalgmfmiolbaa
end
