/- What the proof needs, gathered by wip/gen/shake.py. -/
import Derived.Calls
import Derived.Deep.Quiet
import Derived.Below
import Derived.Laws.AppendOwn
import Derived.WalkKit
import Derived.Laws.OwnMore
import Derived.Deep.Slices
import Derived.ChangeOld
import Derived.ArgAppend
import Derived.RangeFuncIn
import Derived.RangeFuncRecord
import Derived.RangeFuncLeaves
import Derived.Laws.MakeOwn
import Derived.IntWalk
import Derived.Laws.IdiomStrings
import Derived.Laws.Cover3
import Derived.Laws.CopyOwn
import Derived.MapKept
import Derived.RangeFuncNested
import Derived.Test.YtmfppphlhgneeaaRows
import Derived.ProofKit
import Derived.OpenShut
import Derived.ShutString
import Derived.Test.YtmfppphlhgneeaaLookupTablesQ2

section
namespace Go.Proofs.Ytmfppphlhgneeaa
open Go.RowKit
set_option linter.unusedSimpArgs false
set_option linter.unusedVariables false
set_option synthInstance.maxSize 2000
set_option synthInstance.maxHeartbeats 400000
theorem ty3 : TyI Try.prog 3 false 1 8 [.int .i64 0] := ⟨by kernel_rfl, by kernel_rfl, by kernel_rfl, by kernel_rfl⟩
theorem ty4 : TyI Try.prog 4 false 1 1 [.bool false] := ⟨by kernel_rfl, by kernel_rfl, by kernel_rfl, by kernel_rfl⟩
theorem ty5 : TyI Try.prog 5 false 1 1 [.int .u8 0] := ⟨by kernel_rfl, by kernel_rfl, by kernel_rfl, by kernel_rfl⟩
theorem ty9 : TyI Try.prog 9 false 1 16 [.string ⟨#[]⟩] := ⟨by kernel_rfl, by kernel_rfl, by kernel_rfl, by kernel_rfl⟩
theorem ty22 : TyI Try.prog 22 false 1 24 [.slice none 0 0] := ⟨by kernel_rfl, by kernel_rfl, by kernel_rfl, by kernel_rfl⟩
theorem ty26 : TyI Try.prog 26 false 1 24 [.slice none 0 0] := ⟨by kernel_rfl, by kernel_rfl, by kernel_rfl, by kernel_rfl⟩
theorem ty28 : TyI Try.prog 28 true 2 32 [.int .i64 0, .slice none 0 0] := ⟨by kernel_rfl, by kernel_rfl, by kernel_rfl, by kernel_rfl⟩
theorem ty29 : TyI Try.prog 29 false 1 24 [.slice none 0 0] := ⟨by kernel_rfl, by kernel_rfl, by kernel_rfl, by kernel_rfl⟩
theorem ty31 : TyI Try.prog 31 true 4 64 [.int .i64 0, .slice none 0 0, .int .i64 0, .slice none 0 0] := ⟨by kernel_rfl, by kernel_rfl, by kernel_rfl, by kernel_rfl⟩
theorem ty32 : TyI Try.prog 32 false 1 24 [.slice none 0 0] := ⟨by kernel_rfl, by kernel_rfl, by kernel_rfl, by kernel_rfl⟩
theorem ty35 : TyI Try.prog 35 false 1 24 [.slice none 0 0] := ⟨by kernel_rfl, by kernel_rfl, by kernel_rfl, by kernel_rfl⟩
theorem ty37 : TyI Try.prog 37 true 2 32 [.int .i64 0, .slice none 0 0] := ⟨by kernel_rfl, by kernel_rfl, by kernel_rfl, by kernel_rfl⟩
theorem ty39 : TyI Try.prog 39 false 1 24 [.slice none 0 0] := ⟨by kernel_rfl, by kernel_rfl, by kernel_rfl, by kernel_rfl⟩
theorem ty40 : TyI Try.prog 40 false 1 8 [.int .i64 0] := ⟨by kernel_rfl, by kernel_rfl, by kernel_rfl, by kernel_rfl⟩
theorem ty54 : TyI Try.prog 54 true 1 8 [.int .i64 0] := ⟨by kernel_rfl, by kernel_rfl, by kernel_rfl, by kernel_rfl⟩
theorem ty55 : TyI Try.prog 55 false 1 24 [.slice none 0 0] := ⟨by kernel_rfl, by kernel_rfl, by kernel_rfl, by kernel_rfl⟩
theorem ty57 : TyI Try.prog 57 true 4 48 [.int .i64 0, .int .i64 0, .int .i64 0, .slice none 0 0] := ⟨by kernel_rfl, by kernel_rfl, by kernel_rfl, by kernel_rfl⟩
theorem ty63 : TyI Try.prog 63 true 2 24 [.string ⟨#[]⟩, .int .i64 0] := ⟨by kernel_rfl, by kernel_rfl, by kernel_rfl, by kernel_rfl⟩
theorem ty67 : TyI Try.prog 67 true 3 56 [.int .i64 0, .slice none 0 0, .slice none 0 0] := ⟨by kernel_rfl, by kernel_rfl, by kernel_rfl, by kernel_rfl⟩
theorem ty70 : TyI Try.prog 70 true 2 16 [.int .i64 0, .int .i64 0] := ⟨by kernel_rfl, by kernel_rfl, by kernel_rfl, by kernel_rfl⟩
theorem ty74 : TyI Try.prog 74 true 2 32 [.slice none 0 0, .int .i64 0] := ⟨by kernel_rfl, by kernel_rfl, by kernel_rfl, by kernel_rfl⟩
theorem ty107 : TyI Try.prog 107 false 1 8 [.int .i64 0] := ⟨by kernel_rfl, by kernel_rfl, by kernel_rfl, by kernel_rfl⟩
theorem ty130 : TyI Try.prog 130 false 1 8 [.nilFunc] := ⟨by kernel_rfl, by kernel_rfl, by kernel_rfl, by kernel_rfl⟩
theorem fl28_0 : fldOf Try.prog 28 0 = some (0, 3) := by kernel_rfl
theorem fl28_1 : fldOf Try.prog 28 1 = some (1, 26) := by kernel_rfl
theorem fl31_0 : fldOf Try.prog 31 0 = some (0, 28) := by kernel_rfl
theorem fl31_1 : fldOf Try.prog 31 1 = some (2, 3) := by kernel_rfl
theorem fl31_2 : fldOf Try.prog 31 2 = some (3, 29) := by kernel_rfl
theorem fl37_0 : fldOf Try.prog 37 0 = some (0, 3) := by kernel_rfl
theorem fl37_1 : fldOf Try.prog 37 1 = some (1, 35) := by kernel_rfl
theorem fl54_0 : fldOf Try.prog 54 0 = some (0, 3) := by kernel_rfl
theorem fl57_0 : fldOf Try.prog 57 0 = some (0, 3) := by kernel_rfl
theorem fl57_1 : fldOf Try.prog 57 1 = some (1, 54) := by kernel_rfl
theorem fl57_2 : fldOf Try.prog 57 2 = some (2, 3) := by kernel_rfl
theorem fl57_3 : fldOf Try.prog 57 3 = some (3, 55) := by kernel_rfl
theorem fl63_0 : fldOf Try.prog 63 0 = some (0, 9) := by kernel_rfl
theorem fl63_1 : fldOf Try.prog 63 1 = some (1, 3) := by kernel_rfl
theorem fl67_0 : fldOf Try.prog 67 0 = some (0, 40) := by kernel_rfl
theorem fl67_1 : fldOf Try.prog 67 1 = some (1, 39) := by kernel_rfl
theorem fl70_0 : fldOf Try.prog 70 0 = some (0, 3) := by kernel_rfl
theorem fl70_1 : fldOf Try.prog 70 1 = some (1, 3) := by kernel_rfl
theorem fl74_0 : fldOf Try.prog 74 0 = some (0, 22) := by kernel_rfl
theorem fl74_1 : fldOf Try.prog 74 1 = some (1, 3) := by kernel_rfl
theorem pl28 : plOf Try.prog 28 = some [(0, 1), (1, 1)] := by kernel_rfl
theorem pl31 : plOf Try.prog 31 = some [(0, 2), (2, 1), (3, 1)] := by kernel_rfl
theorem pl37 : plOf Try.prog 37 = some [(0, 1), (1, 1)] := by kernel_rfl
theorem pl54 : plOf Try.prog 54 = some [(0, 1)] := by kernel_rfl
theorem pl57 : plOf Try.prog 57 = some [(0, 1), (1, 1), (2, 1), (3, 1)] := by kernel_rfl
theorem pl63 : plOf Try.prog 63 = some [(0, 1), (1, 1)] := by kernel_rfl
theorem pl67 : plOf Try.prog 67 = some [(0, 1), (1, 1), (2, 1)] := by kernel_rfl
theorem pl70 : plOf Try.prog 70 = some [(0, 1), (1, 1)] := by kernel_rfl
theorem pl74 : plOf Try.prog 74 = some [(0, 1), (1, 1)] := by kernel_rfl
theorem sl22 : slOf Try.prog 22 = some 5 := by kernel_rfl
theorem sl26 : slOf Try.prog 26 = some 70 := by kernel_rfl
theorem sl29 : slOf Try.prog 29 = some 32 := by kernel_rfl
theorem sl32 : slOf Try.prog 32 = some 63 := by kernel_rfl
theorem sl35 : slOf Try.prog 35 = some 9 := by kernel_rfl
theorem sl39 : slOf Try.prog 39 = some 3 := by kernel_rfl
theorem sl49 : slOf Try.prog 49 = some 35 := by kernel_rfl
theorem sl55 : slOf Try.prog 55 = some 39 := by kernel_rfl
theorem sl68 : slOf Try.prog 68 = some 67 := by kernel_rfl
theorem sl124 : slOf Try.prog 124 = some 4 := by kernel_rfl
set_option maxHeartbeats 4000000 in
set_option maxRecDepth 100000 in
theorem cuckoo_Check_c {Fs : List Hp} {G : Hp} {x0_0 : Int} {a0_1 : Option Addr} {k0_1 : Nat} {x0_1 : List (Int × Int)} {r : Int} (hG : G ∈ Fs) (s0_1 : SlR (Rep.pair (Rep.int .i64) (Rep.int .i64)) G a0_1 k0_1 x0_1) (h : cuckoo_Check (x0_0, x0_1) = some r) : RetS Try.prog 41 #[.agg #[.int .i64 x0_0, .slice a0_1 x0_1.length k0_1]] Fs [] [] (fun v bo so => v = .int .i64 r ∧ bo = [] ∧ so = []) := by
 unfold cuckoo_Check at h
 try dsimp only at h
 refine RetS.of (vs := [_]) Try.func41 rfl Try.ntmps41 [(0, _)] ⟨rfl, trivial⟩ rfl hG fun w0 S0 hS0 B0 => ?_
 refine Cov.seq ?_;refine Cov.region rfl ?_
 refine Cov.box [_, _] .ro rfl rfl rfl (fun b1 hb1 => ?_)
 refine Cov.q .ro (.assign rfl) rfl ?_;refine Cov.region_end ?_;refine Cov.seq ?_;refine Cov.seq ?_;refine Cov.region rfl ?_;refine Cov.q .ro (.fieldAddr 0 rfl fl28_0 ty3.sz rfl) rfl ?_;refine Cov.q .ro (.load_own 0 rfl rfl ty3 rfl) rfl ?_;refine Cov.q .ro (.lss rfl rfl) rfl ?_;refine Cov.q .ro (.move rfl) rfl ?_
 refine Cov.cutR 4 (β := Unit) (fun y => [(12, .bool (decide ((x0_0 < 1) ∨ (64 < x0_0))))]) [(1, _)] (fun y => G :: Fs) (fun y => []) [_] (fun y => []) [] (fun y => True) ⟨rfl, trivial⟩ [0] rfl [] rfl ?_ ?_
 ·rintro _ _
  refine Cov.prune [(12, .bool (decide ((x0_0 < 1) ∨ (64 < x0_0)))), (1, _)] ⟨rfl, rfl, trivial⟩ ?_;refine Cov.same (bl' := [_]) (sl' := []) (Fs' := G :: Fs) rfl rfl rfl ?_;refine Cov.q .ro (.move rfl) rfl ?_;refine Cov.cutR 5 (β := Unit) (fun y => [(18, .bool (decide (((x0_0 < 1) ∨ (64 < x0_0)) ∨ ((x0_1.length : Int) < 1))))]) [(1, _)] (fun y => G :: Fs) (fun y => []) [_] (fun y => []) [] (fun y => True) ⟨rfl, trivial⟩ [0] rfl [] rfl ?_ ?_
  ·rintro _ _
   refine Cov.prune [(18, .bool (decide (((x0_0 < 1) ∨ (64 < x0_0)) ∨ ((x0_1.length : Int) < 1)))), (1, _)] ⟨rfl, rfl, trivial⟩ ?_;refine Cov.same (bl' := [_]) (sl' := []) (Fs' := G :: Fs) rfl rfl rfl ?_;refine Cov.q .ro (.move rfl) rfl ?_;refine Cov.cutR 5 (β := Unit) (fun y => [(24, .bool (decide ((((x0_0 < 1) ∨ (64 < x0_0)) ∨ ((x0_1.length : Int) < 1)) ∨ (4 < (x0_1.length : Int)))))]) [(1, _)] (fun y => G :: Fs) (fun y => []) [_] (fun y => []) [] (fun y => True) ⟨rfl, trivial⟩ [0] rfl [] rfl ?_ ?_
   ·rintro _ _
    refine Cov.prune [(24, .bool (decide ((((x0_0 < 1) ∨ (64 < x0_0)) ∨ ((x0_1.length : Int) < 1)) ∨ (4 < (x0_1.length : Int))))), (1, _)] ⟨rfl, rfl, trivial⟩ ?_;refine Cov.same (bl' := [_]) (sl' := []) (Fs' := G :: Fs) rfl rfl rfl ?_;refine Cov.region_end ?_
    refine Cov.cond_dec rfl (fun c14 => ?_) (fun c14 => ?_)
    ·have r15 := ifT h c14; clear h
     refine Cov.seq ?_;refine Cov.region rfl ?_;refine Cov.q .ro (.assign rfl) rfl ?_;refine Cov.region_end ?_
     cases r15
     refine Cov.drop 1 0 [] _ rfl rfl ?_
     refine Cov.retS (c := ⟨41, none⟩) (.inr ⟨_, rfl⟩) [.tmp 2] [_] rfl Try.func41 Try.results41 ⟨RV.tmp rfl, trivial⟩ (fun _ h => List.mem_cons_of_mem _ h) ⟨rfl, rfl, rfl⟩
    ·have r16 := ifF h c14; clear h
     refine Cov.skip ?_;refine Cov.seq ?_;refine Cov.seq ?_;refine Cov.region rfl ?_;refine Cov.q .ro (.fieldAddr 1 rfl fl28_1 ty26.sz rfl) rfl ?_;refine Cov.q .ro (.load_own 0 rfl rfl ty26 rfl) rfl ?_;refine Cov.q .ro (.len_sl rfl rfl sl26) rfl ?_;refine Cov.q .ro (.move rfl) rfl ?_;refine Cov.region_end ?_
     refine Cov.block ?_
     refine Cov.loop2 (α := Nat × (List (Int × Int))) (fun y => [(28, .int .i64 (y.1 : Int))]) [(26, _), (27, _)] (fun y => []) (fun y => []) [_] (fun y => []) [] (fun y => List.drop y.1 x0_1 = y.2 ∧ cuckoo_Check_L1 y.2  = some r) (fun y => y.2.length) (0, x0_1) ⟨rfl, r16⟩ ⟨rfl, rfl, rfl, trivial⟩ rfl rfl rfl (fun y hI hb49 => ?_)
     obtain ⟨i45, w46⟩ := y
     obtain ⟨g47, r48⟩ := hI
     try dsimp only at g47 r48
     refine Cov.prune [(28, .int .i64 (i45 : Int)), (26, _), (27, _)] ⟨rfl, rfl, rfl, trivial⟩ ?_;refine Cov.same (bl' := [_]) (sl' := []) (Fs' := G :: Fs) rfl rfl rfl ?_
     cases w46 with
     | nil =>
      rw [cuckoo_Check_L1] at r48; try dsimp only at r48
      refine Cov.seq ?_;refine Cov.region rfl ?_;refine Cov.q .ro (.lss rfl rfl) rfl ?_;refine Cov.region_end ?_;refine Cov.seq ?_
      refine Cov.cond_dec rfl (fun c => absurd c (drop_nil g47)) (fun _ => ?_)
      refine Cov.exit rfl ?_;refine Cov.seq ?_;refine Cov.region rfl ?_;refine Cov.q .ro (.assign rfl) rfl ?_;refine Cov.region_end ?_
      cases r48
      refine Cov.drop 1 0 [] _ rfl rfl ?_
      refine Cov.retS (c := ⟨41, none⟩) (.inr ⟨_, rfl⟩) [.tmp 2] [_] rfl Try.func41 Try.results41 ⟨RV.tmp rfl, trivial⟩ (fun _ h => List.mem_cons_of_mem _ h) ⟨rfl, rfl, rfl⟩
     | cons x54 xs55 =>
      have r53 : cuckoo_Check_B1 (cuckoo_Check_L1 xs55) x54  = some r := r48; clear r48; unfold cuckoo_Check_B1 at r53; try dsimp only at r53
      refine Cov.seq ?_;refine Cov.region rfl ?_;refine Cov.q .ro (.lss rfl rfl) rfl ?_;refine Cov.region_end ?_;refine Cov.seq ?_
      refine Cov.cond_dec rfl (fun _ => ?_) (fun c => absurd (drop_lt g47) c)
      refine Cov.skip ?_;refine Cov.seq ?_;refine Cov.block ?_;refine Cov.seq ?_;refine Cov.region rfl ?_
      obtain ⟨c56, p57, h58⟩ := SlR.get s0_1 (drop_idx g47)
      obtain ⟨_, _, rfl, rfl, rfl⟩ := h58
      refine Cov.q .ro (.idxR s0_1 rfl rfl (drop_idx g47) sl26 ty70.sz) rfl ?_;refine Cov.q .ro (.load_rp_a [_, _] p57 List.mem_cons_self rfl ty70 rfl) rfl ?_
      refine Cov.alloc .ro ty70 rfl (fun b59 hb59 => ?_)
      refine Cov.store 0 [_, _] [_, _] .ro rfl rfl rfl ty70 rfl rfl rfl rfl ?_;refine Cov.region_end ?_;refine Cov.seq ?_;refine Cov.region rfl ?_;refine Cov.q .ro (.fieldAddr 0 rfl fl70_0 ty3.sz rfl) rfl ?_;refine Cov.q .ro (.load_own 0 rfl rfl ty3 rfl) rfl ?_;refine Cov.q .ro (.lss rfl rfl) rfl ?_;refine Cov.q .ro (.move rfl) rfl ?_;refine Cov.cutR 4 (β := Unit) (fun y => [(39, .bool (decide ((x54.1 < 0) ∨ (2147483647 ≤ x54.1))))]) [(28, _), (26, _), (27, _), (4, _)] (fun y => G :: Fs) (fun y => []) [_, _] (fun y => []) [] (fun y => True) ⟨rfl, rfl, rfl, rfl, trivial⟩ [0, 1] rfl [] rfl ?_ ?_
      ·rintro _ _
       refine Cov.prune [(39, .bool (decide ((x54.1 < 0) ∨ (2147483647 ≤ x54.1)))), (28, _), (26, _), (27, _), (4, _)] ⟨rfl, rfl, rfl, rfl, rfl, trivial⟩ ?_;refine Cov.same (bl' := [_, _]) (sl' := []) (Fs' := G :: Fs) rfl rfl rfl ?_;refine Cov.q .ro (.move rfl) rfl ?_;refine Cov.cutR 4 (β := Unit) (fun y => [(44, .bool (decide (((x54.1 < 0) ∨ (2147483647 ≤ x54.1)) ∨ (x54.2 < 0))))]) [(28, _), (26, _), (27, _), (4, _)] (fun y => G :: Fs) (fun y => []) [_, _] (fun y => []) [] (fun y => True) ⟨rfl, rfl, rfl, rfl, trivial⟩ [0, 1] rfl [] rfl ?_ ?_
       ·rintro _ _
        refine Cov.prune [(44, .bool (decide (((x54.1 < 0) ∨ (2147483647 ≤ x54.1)) ∨ (x54.2 < 0)))), (28, _), (26, _), (27, _), (4, _)] ⟨rfl, rfl, rfl, rfl, rfl, trivial⟩ ?_;refine Cov.same (bl' := [_, _]) (sl' := []) (Fs' := G :: Fs) rfl rfl rfl ?_;refine Cov.q .ro (.move rfl) rfl ?_;refine Cov.cutR 4 (β := Unit) (fun y => [(49, .bool (decide ((((x54.1 < 0) ∨ (2147483647 ≤ x54.1)) ∨ (x54.2 < 0)) ∨ (2147483647 ≤ x54.2))))]) [(28, _), (26, _), (27, _)] (fun y => G :: Fs) (fun y => []) [_, _] (fun y => []) [] (fun y => True) ⟨rfl, rfl, rfl, trivial⟩ [0, 1] rfl [] rfl ?_ ?_
        ·rintro _ _
         refine Cov.prune [(49, .bool (decide ((((x54.1 < 0) ∨ (2147483647 ≤ x54.1)) ∨ (x54.2 < 0)) ∨ (2147483647 ≤ x54.2)))), (28, _), (26, _), (27, _)] ⟨rfl, rfl, rfl, rfl, trivial⟩ ?_;refine Cov.same (bl' := [_, _]) (sl' := []) (Fs' := G :: Fs) rfl rfl rfl ?_;refine Cov.region_end ?_
         refine Cov.cond_dec rfl (fun c72 => ?_) (fun c72 => ?_)
         ·have r73 := ifT r53 c72; clear r53
          refine Cov.seq ?_;refine Cov.region rfl ?_;refine Cov.q .ro (.assign rfl) rfl ?_;refine Cov.region_end ?_
          cases r73
          refine Cov.drop 2 0 [] _ rfl rfl ?_
          refine Cov.retS (c := ⟨41, none⟩) (.inr ⟨_, rfl⟩) [.tmp 2] [_] rfl Try.func41 Try.results41 ⟨RV.tmp rfl, trivial⟩ (fun _ h => List.mem_cons_of_mem _ h) ⟨rfl, rfl, rfl⟩
         ·have r74 := ifF r53 c72; clear r53
          refine Cov.skip ?_;refine Cov.inBlock ?_;refine Cov.region rfl ?_;refine Cov.q .ro (.addw rfl rfl) rfl ?_;refine Cov.q .ro (.move rfl) rfl ?_;refine Cov.region_end ?_;refine Cov.drop 1 0 [_] _ rfl rfl ?_
          refine Cov.prune _ ?_ (Cov.same rfl rfl rfl (hb49 ((i45 + 1), xs55) ⟨(drop_succ g47), r74⟩ (Nat.lt_succ_self _)))
          exact ⟨(congrArg (fun z => some (Value.int .i64 z)) (idx_wrap (SlR.len s0_1) g47)), rfl, rfl, trivial⟩
        ·intro hb69
         refine Cov.split 45 rfl (fun c68 => ?_) (fun c68 => ?_)
         ·refine Cov.g_off rfl rfl rfl ?_
          refine Cov.g_off rfl rfl rfl ?_;refine Cov.g_off rfl rfl rfl ?_;refine Cov.q .ro (.pick_t rfl rfl) rfl ?_
          refine Cov.prune _ ?_ (Cov.same rfl rfl rfl (hb69 () trivial))
          exact ⟨dor_t c68, rfl, rfl, rfl, trivial⟩
         ·refine Cov.g_on rfl ?_
          refine Cov.q .ro (.fieldAddr 1 rfl fl70_1 ty3.sz rfl) rfl ?_;refine Cov.g_on rfl ?_;refine Cov.q .ro (.load_own 0 rfl rfl ty3 rfl) rfl ?_;refine Cov.g_on rfl ?_;refine Cov.q .ro (.geq rfl rfl) rfl ?_;refine Cov.q .ro (.pick_f rfl rfl) rfl ?_
          refine Cov.prune _ ?_ (Cov.same rfl rfl rfl (hb69 () trivial))
          exact ⟨dor_f c68, rfl, rfl, rfl, trivial⟩
       ·intro hb65
        refine Cov.split 40 rfl (fun c64 => ?_) (fun c64 => ?_)
        ·refine Cov.g_off rfl rfl rfl ?_
         refine Cov.g_off rfl rfl rfl ?_;refine Cov.g_off rfl rfl rfl ?_;refine Cov.q .ro (.pick_t rfl rfl) rfl ?_
         refine Cov.prune _ ?_ (Cov.same rfl rfl rfl (hb65 () trivial))
         exact ⟨dor_t c64, rfl, rfl, rfl, rfl, trivial⟩
        ·refine Cov.g_on rfl ?_
         refine Cov.q .ro (.fieldAddr 1 rfl fl70_1 ty3.sz rfl) rfl ?_;refine Cov.g_on rfl ?_;refine Cov.q .ro (.load_own 0 rfl rfl ty3 rfl) rfl ?_;refine Cov.g_on rfl ?_;refine Cov.q .ro (.lss rfl rfl) rfl ?_;refine Cov.q .ro (.pick_f rfl rfl) rfl ?_
         refine Cov.prune _ ?_ (Cov.same rfl rfl rfl (hb65 () trivial))
         exact ⟨dor_f c64, rfl, rfl, rfl, rfl, trivial⟩
      ·intro hb61
       refine Cov.split 35 rfl (fun c60 => ?_) (fun c60 => ?_)
       ·refine Cov.g_off rfl rfl rfl ?_
        refine Cov.g_off rfl rfl rfl ?_;refine Cov.g_off rfl rfl rfl ?_;refine Cov.q .ro (.pick_t rfl rfl) rfl ?_
        refine Cov.prune _ ?_ (Cov.same rfl rfl rfl (hb61 () trivial))
        exact ⟨dor_t c60, rfl, rfl, rfl, rfl, trivial⟩
       ·refine Cov.g_on rfl ?_
        refine Cov.q .ro (.fieldAddr 0 rfl fl70_0 ty3.sz rfl) rfl ?_;refine Cov.g_on rfl ?_;refine Cov.q .ro (.load_own 0 rfl rfl ty3 rfl) rfl ?_;refine Cov.g_on rfl ?_;refine Cov.q .ro (.geq rfl rfl) rfl ?_;refine Cov.q .ro (.pick_f rfl rfl) rfl ?_
        refine Cov.prune _ ?_ (Cov.same rfl rfl rfl (hb61 () trivial))
        exact ⟨dor_f c60, rfl, rfl, rfl, rfl, trivial⟩
   ·intro hb11
    refine Cov.split 19 rfl (fun c10 => ?_) (fun c10 => ?_)
    ·refine Cov.g_off rfl rfl rfl ?_
     refine Cov.g_off rfl rfl rfl ?_;refine Cov.g_off rfl rfl rfl ?_;refine Cov.g_off rfl rfl rfl ?_;refine Cov.q .ro (.pick_t rfl rfl) rfl ?_
     refine Cov.prune _ ?_ (Cov.same rfl rfl rfl (hb11 () trivial))
     exact ⟨dor_t c10, rfl, trivial⟩
    ·refine Cov.g_on rfl ?_
     refine Cov.q .ro (.fieldAddr 1 rfl fl28_1 ty26.sz rfl) rfl ?_;refine Cov.g_on rfl ?_;refine Cov.q .ro (.load_own 0 rfl rfl ty26 rfl) rfl ?_;refine Cov.g_on rfl ?_;refine Cov.q .ro (.len_sl rfl rfl sl26) rfl ?_;refine Cov.g_on rfl ?_;refine Cov.q .ro (.gtr rfl rfl) rfl ?_;refine Cov.q .ro (.pick_f rfl rfl) rfl ?_
     refine Cov.prune _ ?_ (Cov.same rfl rfl rfl (hb11 () trivial))
     exact ⟨dor_f c10, rfl, trivial⟩
  ·intro hb7
   refine Cov.split 13 rfl (fun c6 => ?_) (fun c6 => ?_)
   ·refine Cov.g_off rfl rfl rfl ?_
    refine Cov.g_off rfl rfl rfl ?_;refine Cov.g_off rfl rfl rfl ?_;refine Cov.g_off rfl rfl rfl ?_;refine Cov.q .ro (.pick_t rfl rfl) rfl ?_
    refine Cov.prune _ ?_ (Cov.same rfl rfl rfl (hb7 () trivial))
    exact ⟨dor_t c6, rfl, trivial⟩
   ·refine Cov.g_on rfl ?_
    refine Cov.q .ro (.fieldAddr 1 rfl fl28_1 ty26.sz rfl) rfl ?_;refine Cov.g_on rfl ?_;refine Cov.q .ro (.load_own 0 rfl rfl ty26 rfl) rfl ?_;refine Cov.g_on rfl ?_;refine Cov.q .ro (.len_sl rfl rfl sl26) rfl ?_;refine Cov.g_on rfl ?_;refine Cov.q .ro (.lss rfl rfl) rfl ?_;refine Cov.q .ro (.pick_f rfl rfl) rfl ?_
    refine Cov.prune _ ?_ (Cov.same rfl rfl rfl (hb7 () trivial))
    exact ⟨dor_f c6, rfl, trivial⟩
 ·intro hb3
  refine Cov.split 8 rfl (fun c2 => ?_) (fun c2 => ?_)
  ·refine Cov.g_off rfl rfl rfl ?_
   refine Cov.g_off rfl rfl rfl ?_;refine Cov.g_off rfl rfl rfl ?_;refine Cov.q .ro (.pick_t rfl rfl) rfl ?_
   refine Cov.prune _ ?_ (Cov.same rfl rfl rfl (hb3 () trivial))
   exact ⟨dor_t c2, rfl, trivial⟩
  ·refine Cov.g_on rfl ?_
   refine Cov.q .ro (.fieldAddr 0 rfl fl28_0 ty3.sz rfl) rfl ?_;refine Cov.g_on rfl ?_;refine Cov.q .ro (.load_own 0 rfl rfl ty3 rfl) rfl ?_;refine Cov.g_on rfl ?_;refine Cov.q .ro (.gtr rfl rfl) rfl ?_;refine Cov.q .ro (.pick_f rfl rfl) rfl ?_
   refine Cov.prune _ ?_ (Cov.same rfl rfl rfl (hb3 () trivial))
   exact ⟨dor_f c2, rfl, trivial⟩
set_option maxHeartbeats 4000000 in
set_option maxRecDepth 100000 in
theorem keyword_proper_c {Fs : List Hp} {G : Hp} {x0 : ByteArray} {r : Bool} (hG : G ∈ Fs)  (h : keyword_proper x0 = some r) : RetS Try.prog 42 #[.string x0] Fs [] [] (fun v bo so => v = .bool r ∧ bo = [] ∧ so = []) := by
 unfold keyword_proper at h
 try dsimp only at h
 refine RetS.of (vs := [_]) Try.func42 rfl Try.ntmps42 [(0, _)] ⟨rfl, trivial⟩ rfl hG fun w0 S0 hS0 B0 => ?_
 refine Cov.seq ?_;refine Cov.region rfl ?_;refine Cov.q .ro (.assign rfl) rfl ?_;refine Cov.region_end ?_;refine Cov.seq ?_;refine Cov.region rfl ?_;refine Cov.q .ro (.move rfl) rfl ?_;refine Cov.q .ro (.len_s rfl Try.underlying9) rfl ?_;refine Cov.q .ro (.geq rfl rfl) rfl ?_
 refine Cov.q .ro (.move rfl) rfl ?_;refine Cov.cutR 4 (β := Unit) (fun y => [(10, .bool (decide ((1 ≤ (x0.size : Int)) ∧ ((x0.size : Int) ≤ 32))))]) [(2, _)] (fun y => G :: Fs) (fun y => []) [] (fun y => []) [] (fun y => True) ⟨rfl, trivial⟩ [] rfl [] rfl ?_ ?_
 ·rintro _ _
  refine Cov.prune [(10, .bool (decide ((1 ≤ (x0.size : Int)) ∧ ((x0.size : Int) ≤ 32)))), (2, _)] ⟨rfl, rfl, trivial⟩ ?_;refine Cov.same (bl' := []) (sl' := []) (Fs' := G :: Fs) rfl rfl rfl ?_;refine Cov.q .ro (.assign rfl) rfl ?_;refine Cov.region_end ?_
  cases h
  refine Cov.retS (c := ⟨42, none⟩) (.inr ⟨_, rfl⟩) [.tmp 2] [_] rfl Try.func42 Try.results42 ⟨RV.tmp rfl, trivial⟩ (fun _ h => List.mem_cons_of_mem _ h) ⟨rfl, rfl, rfl⟩
 ·intro hb2
  refine Cov.split 6 rfl (fun c1 => ?_) (fun c1 => ?_)
  ·refine Cov.g_on rfl ?_
   refine Cov.q .ro (.move rfl) rfl ?_;refine Cov.g_on rfl ?_;refine Cov.q .ro (.len_s rfl Try.underlying9) rfl ?_;refine Cov.g_on rfl ?_;refine Cov.q .ro (.leq rfl rfl) rfl ?_;refine Cov.q .ro (.pick_t rfl rfl) rfl ?_
   refine Cov.prune _ ?_ (Cov.same rfl rfl rfl (hb2 () trivial))
   exact ⟨dand_t c1, rfl, trivial⟩
  ·refine Cov.g_off rfl rfl rfl ?_
   refine Cov.g_off rfl rfl rfl ?_;refine Cov.g_off rfl rfl rfl ?_;refine Cov.q .ro (.pick_f rfl rfl) rfl ?_
   refine Cov.prune _ ?_ (Cov.same rfl rfl rfl (hb2 () trivial))
   exact ⟨dand_f c1, rfl, trivial⟩
set_option maxHeartbeats 4000000 in
set_option maxRecDepth 100000 in
theorem cuckoo_item_c {Fs : List Hp} {G : Hp} {x0 : Int} {r : Bool} (hG : G ∈ Fs)  (h : cuckoo_item x0 = some r) : RetS Try.prog 76 #[.int .i64 x0] Fs [] [] (fun v bo so => v = .bool r ∧ bo = [] ∧ so = []) := by
 unfold cuckoo_item at h
 try dsimp only at h
 refine RetS.of (vs := [_]) Try.func76 rfl Try.ntmps76 [(0, _)] ⟨rfl, trivial⟩ rfl hG fun w0 S0 hS0 B0 => ?_
 refine Cov.seq ?_;refine Cov.region rfl ?_;refine Cov.q .ro (.assign rfl) rfl ?_;refine Cov.region_end ?_;refine Cov.seq ?_;refine Cov.region rfl ?_;refine Cov.q .ro (.move rfl) rfl ?_;refine Cov.q .ro (.geq rfl rfl) rfl ?_;refine Cov.q .ro (.move rfl) rfl ?_
 refine Cov.cutR 3 (β := Unit) (fun y => [(8, .bool (decide ((0 ≤ x0) ∧ (x0 < 2147483647))))]) [(2, _)] (fun y => G :: Fs) (fun y => []) [] (fun y => []) [] (fun y => True) ⟨rfl, trivial⟩ [] rfl [] rfl ?_ ?_
 ·rintro _ _
  refine Cov.prune [(8, .bool (decide ((0 ≤ x0) ∧ (x0 < 2147483647)))), (2, _)] ⟨rfl, rfl, trivial⟩ ?_;refine Cov.same (bl' := []) (sl' := []) (Fs' := G :: Fs) rfl rfl rfl ?_;refine Cov.q .ro (.assign rfl) rfl ?_;refine Cov.region_end ?_
  cases h
  refine Cov.retS (c := ⟨76, none⟩) (.inr ⟨_, rfl⟩) [.tmp 2] [_] rfl Try.func76 Try.results76 ⟨RV.tmp rfl, trivial⟩ (fun _ h => List.mem_cons_of_mem _ h) ⟨rfl, rfl, rfl⟩
 ·intro hb2
  refine Cov.split 5 rfl (fun c1 => ?_) (fun c1 => ?_)
  ·refine Cov.g_on rfl ?_
   refine Cov.q .ro (.move rfl) rfl ?_;refine Cov.g_on rfl ?_;refine Cov.q .ro (.lss rfl rfl) rfl ?_;refine Cov.q .ro (.pick_t rfl rfl) rfl ?_
   refine Cov.prune _ ?_ (Cov.same rfl rfl rfl (hb2 () trivial))
   exact ⟨dand_t c1, rfl, trivial⟩
  ·refine Cov.g_off rfl rfl rfl ?_
   refine Cov.g_off rfl rfl rfl ?_;refine Cov.q .ro (.pick_f rfl rfl) rfl ?_
   refine Cov.prune _ ?_ (Cov.same rfl rfl rfl (hb2 () trivial))
   exact ⟨dand_f c1, rfl, trivial⟩
set_option maxHeartbeats 4000000 in
set_option maxRecDepth 100000 in
theorem cuckoo_homes_c {Fs : List Hp} {G : Hp} {x0_0 : Int} {a0_1 : Option Addr} {k0_1 : Nat} {x0_1 : List (Int × Int)} {x1 : Int} {r : (List Int)} (hG : G ∈ Fs) (s0_1 : SlR (Rep.pair (Rep.int .i64) (Rep.int .i64)) G a0_1 k0_1 x0_1) (h : cuckoo_homes (x0_0, x0_1) x1 = some r) : RetS Try.prog 77 #[.agg #[.int .i64 x0_0, .slice a0_1 x0_1.length k0_1], .int .i64 x1] Fs [] [] (fun v bo so => ∃ (oa0 : Option Addr) (ok0 : Nat) (oc0 : List Value), v = .slice oa0 r.length ok0 ∧ bo = [] ∧ so = [.s (.slice oa0 r.length ok0) 3 1 r.length oc0] ∧ OL (Rep.int .i64) G oc0 r) := by
 unfold cuckoo_homes at h
 try dsimp only at h
 refine RetS.of (vs := [_, _]) Try.func77 rfl Try.ntmps77 [(0, _), (1, _)] ⟨rfl, rfl, trivial⟩ rfl hG fun w0 S0 hS0 B0 => ?_
 refine Cov.seq ?_;refine Cov.region rfl ?_
 refine Cov.box [_, _] .ro rfl rfl rfl (fun b1 hb1 => ?_)
 refine Cov.q .ro (.assign rfl) rfl ?_;refine Cov.region_end ?_;refine Cov.seq ?_;refine Cov.region rfl ?_;refine Cov.q .ro (.assign rfl) rfl ?_;refine Cov.region_end ?_;refine Cov.seq ?_;refine Cov.seq ?_;refine Cov.region rfl ?_
 refine Cov.q .ro (.fieldAddr 1 rfl fl28_1 ty26.sz rfl) rfl ?_;refine Cov.q .ro (.load_own 0 rfl rfl ty26 rfl) rfl ?_;refine Cov.q .ro (.len_sl rfl rfl sl26) rfl ?_;refine Cov.q .ro (.move rfl) rfl ?_;refine Cov.region_end ?_;refine Cov.block ?_;refine Cov.own_nil 3 1 ?_
 refine Cov.loop2 (α := Nat × (List (Int × Int)) × List Int × Option Addr × Nat × List Value) (fun y => [(5, .slice y.2.2.2.1 y.2.2.1.length y.2.2.2.2.1), (11, .int .i64 (y.1 : Int))]) [(1, _), (2, _), (9, _), (10, _)] (fun y => []) (fun y => []) [_] (fun y => [.s (.slice y.2.2.2.1 y.2.2.1.length y.2.2.2.2.1) 3 1 y.2.2.1.length y.2.2.2.2.2]) [] (fun y => OL (Rep.int .i64) G y.2.2.2.2.2 y.2.2.1 ∧ List.drop y.1 x0_1 = y.2.1 ∧ cuckoo_homes_L1 x1 x0_0 y.2.1 y.2.2.1 = some r) (fun y => y.2.1.length) (0, x0_1, ([] : List Int), none, 0, []) ⟨(OL.nil (Rp' := (Rep.int .i64))), rfl, h⟩ ⟨rfl, rfl, rfl, rfl, rfl, rfl, trivial⟩ rfl rfl rfl (fun y hI hb66 => ?_)
 obtain ⟨i56, w57, v59, a60, k61, cs62⟩ := y
 obtain ⟨o63, g58, r65⟩ := hI
 try dsimp only at o63 g58 r65
 refine Cov.prune [(5, .slice a60 v59.length k61), (11, .int .i64 (i56 : Int)), (1, _), (2, _), (9, _), (10, _)] ⟨rfl, rfl, rfl, rfl, rfl, rfl, trivial⟩ ?_;refine Cov.same (bl' := [_]) (sl' := [.s (.slice a60 v59.length k61) 3 1 v59.length cs62]) (Fs' := G :: Fs) rfl rfl rfl ?_
 cases w57 with
 | nil =>
  rw [cuckoo_homes_L1] at r65; try dsimp only at r65
  refine Cov.seq ?_;refine Cov.region rfl ?_;refine Cov.q .ro (.lss rfl rfl) rfl ?_;refine Cov.region_end ?_;refine Cov.seq ?_
  refine Cov.cond_dec rfl (fun c => absurd c (drop_nil g58)) (fun _ => ?_)
  refine Cov.exit rfl ?_;refine Cov.seq ?_;refine Cov.region rfl ?_;refine Cov.q .ro (.move rfl) rfl ?_;refine Cov.q .ro (.assign rfl) rfl ?_;refine Cov.region_end ?_
  cases r65
  refine Cov.drop 1 0 [] _ rfl rfl ?_
  refine Cov.retS (c := ⟨77, none⟩) (.inr ⟨_, rfl⟩) [.tmp 4] [_] rfl Try.func77 Try.results77 ⟨RV.tmp rfl, trivial⟩ (fun _ h => List.mem_cons_of_mem _ h) ⟨a60, k61, cs62, rfl, rfl, rfl, o63⟩
 | cons x72 xs73 =>
  have r71 : cuckoo_homes_B1 x1 x0_0 (cuckoo_homes_L1 x1 x0_0 xs73) x72 v59 = some r := r65; clear r65; unfold cuckoo_homes_B1 at r71; try dsimp only at r71
  refine Cov.seq ?_;refine Cov.region rfl ?_;refine Cov.q .ro (.lss rfl rfl) rfl ?_;refine Cov.region_end ?_;refine Cov.seq ?_
  refine Cov.cond_dec rfl (fun _ => ?_) (fun c => absurd (drop_lt g58) c)
  refine Cov.skip ?_;refine Cov.seq ?_;refine Cov.block ?_;refine Cov.seq ?_;refine Cov.region rfl ?_
  obtain ⟨c74, p75, h76⟩ := SlR.get s0_1 (drop_idx g58)
  obtain ⟨_, _, rfl, rfl, rfl⟩ := h76
  refine Cov.q .ro (.idxR s0_1 rfl rfl (drop_idx g58) sl26 ty70.sz) rfl ?_;refine Cov.q .ro (.load_rp_a [_, _] p75 List.mem_cons_self rfl ty70 rfl) rfl ?_
  refine Cov.alloc .ro ty70 rfl (fun b77 hb77 => ?_)
  refine Cov.store 0 [_, _] [_, _] .ro rfl rfl rfl ty70 rfl rfl rfl rfl ?_;refine Cov.region_end ?_;refine Cov.region rfl ?_;refine Cov.q .ro (.move rfl) rfl ?_;refine Cov.q .ro (.fieldAddr 0 rfl fl70_0 ty3.sz rfl) rfl ?_;refine Cov.q .ro (.load_own 0 rfl rfl ty3 rfl) rfl ?_;refine Cov.q .ro (.move rfl) rfl ?_;refine Cov.q .ro (.mulw rfl rfl) rfl ?_;refine Cov.q .ro (.fieldAddr 1 rfl fl70_1 ty3.sz rfl) rfl ?_
  refine Cov.q .ro (.load_own 0 rfl rfl ty3 rfl) rfl ?_;refine Cov.q .ro (.addw rfl rfl) rfl ?_;refine Cov.q .ro (.remt rfl rfl (by decide)) rfl ?_;refine Cov.q .ro (.fieldAddr 0 rfl fl28_0 ty3.sz rfl) rfl ?_;refine Cov.q .ro (.load_own 1 rfl rfl ty3 rfl) rfl ?_
  obtain ⟨u78, hu78, r79⟩ := bind_some r71; clear r71
  refine Cov.q .ro (.remt rfl rfl (nz_some hu78)) rfl ?_
  refine Cov.lit [_] [(0, _)] .ro sl39 ty3 rfl rfl rfl rfl rfl rfl (fun b80 hb80 => ?_)
  have o81 : OL (Rep.int .i64) G [.int .i64 (Int.tmod (Int.tmod (w64 ((w64 (x72.1 * x1)) + x72.2)) 2147483647) x0_0)] ([(Int.tmod (Int.tmod (w64 ((w64 (x72.1 * x1)) + x72.2)) 2147483647) x0_0)] : List Int) := ((OL.cons rfl (Rep.intI .i64 (Int.tmod (Int.tmod (w64 ((w64 (x72.1 * x1)) + x72.2)) 2147483647) x0_0)) (OL.nil (Rp' := (Rep.int .i64)))) :)
  refine Cov.reval 27 (n' := ([(Int.tmod (Int.tmod (w64 ((w64 (x72.1 * x1)) + x72.2)) 2147483647) x0_0)] : List Int).length) rfl rfl ?_
  obtain ⟨u87, hu87, r88⟩ := bind_some r79; clear r79
  refine Cov.appO (Q := (Rep.int .i64)) 0 .ro sl39 ty3 rfl rfl rfl rfl rfl rfl o63 o81 rfl rfl rfl B0 hu87 rfl (fun a83 k84 cs85 o86 => ?_)
  refine Cov.q .ro (.assign rfl) rfl ?_;refine Cov.region_end ?_;refine Cov.prune [(5, _), (11, _), (1, _), (2, _), (9, _), (10, _)] ⟨rfl, rfl, rfl, rfl, rfl, rfl, trivial⟩ ?_;refine Cov.inBlock ?_;refine Cov.region rfl ?_;refine Cov.q .ro (.addw rfl rfl) rfl ?_;refine Cov.q .ro (.move rfl) rfl ?_;refine Cov.region_end ?_;refine Cov.drop 1 0 [_] _ rfl rfl ?_
  refine Cov.prune _ ?_ (Cov.same rfl rfl rfl (hb66 ((i56 + 1), xs73, u87, a83, k84, cs85) ⟨o86, (drop_succ g58), r88⟩ (Nat.lt_succ_self _)))
  exact ⟨rfl, (congrArg (fun z => some (Value.int .i64 z)) (idx_wrap (SlR.len s0_1) g58)), rfl, rfl, rfl, rfl, trivial⟩
set_option maxHeartbeats 4000000 in
set_option maxRecDepth 100000 in
theorem cuckoo_Homes_c {Fs : List Hp} {G : Hp} {x0_0 : Int} {a0_1 : Option Addr} {k0_1 : Nat} {x0_1 : List (Int × Int)} {x1 : Int} {r : ((List Int) × Int)} (hG : G ∈ Fs) (s0_1 : SlR (Rep.pair (Rep.int .i64) (Rep.int .i64)) G a0_1 k0_1 x0_1) (h : cuckoo_Homes (x0_0, x0_1) x1 = some r) : RetS Try.prog 62 #[.agg #[.int .i64 x0_0, .slice a0_1 x0_1.length k0_1], .int .i64 x1] Fs [] [] (fun v bo so => ∃ (oa0 : Option Addr) (ok0 : Nat) (oc0 : List Value), v = .tuple #[.slice oa0 r.1.length ok0, .int .i64 r.2] ∧ bo = [] ∧ so = [.s (.slice oa0 r.1.length ok0) 3 1 r.1.length oc0] ∧ OL (Rep.int .i64) G oc0 r.1) := by
 unfold cuckoo_Homes at h
 try dsimp only at h
 refine RetS.of (vs := [_, _]) Try.func62 rfl Try.ntmps62 [(0, _), (1, _)] ⟨rfl, rfl, trivial⟩ rfl hG fun w0 S0 hS0 B0 => ?_
 refine Cov.seq ?_;refine Cov.region rfl ?_
 refine Cov.box [_, _] .ro rfl rfl rfl (fun b1 hb1 => ?_)
 refine Cov.q .ro (.assign rfl) rfl ?_;refine Cov.q .ro (.assign rfl) rfl ?_;refine Cov.region_end ?_;refine Cov.seq ?_;refine Cov.seq ?_;refine Cov.region rfl ?_;refine Cov.q .ro (.load_own_a 0 [_, _] rfl rfl ty28 rfl) rfl ?_
 obtain ⟨u2, hu2, r3⟩ := bind_some h; clear h
 refine Cov.callS (b1 := []) (b2 := [_]) (s1 := []) [_] [] .ro rfl rfl Try.call41 rfl rfl (cuckoo_Check_c (G := G) List.mem_cons_self s0_1 hu2) rfl (fun v5 bo so h4 => ?_)
 obtain ⟨rfl, rfl, rfl⟩ := h4
 refine Cov.same (bl' := [_]) (sl' := []) rfl rfl rfl ?_;refine Cov.q .ro (.assign rfl) rfl ?_;refine Cov.region_end ?_;refine Cov.seq ?_;refine Cov.region rfl ?_;refine Cov.q .ro (.move rfl) rfl ?_;refine Cov.q .ro (.neq rfl rfl) rfl ?_;refine Cov.region_end ?_
 refine Cov.cond_dec rfl (fun c6 => ?_) (fun c6 => ?_)
 ·have r7 := ifT r3 c6; clear r3
  refine Cov.seq ?_;refine Cov.region rfl ?_;refine Cov.q .ro (.move rfl) rfl ?_;refine Cov.q .ro (.assign rfl) rfl ?_;refine Cov.q .ro (.assign rfl) rfl ?_;refine Cov.region_end ?_;refine Cov.own_nil 3 1 ?_
  cases r7
  refine Cov.drop 1 0 [] _ rfl rfl ?_
  refine Cov.retS (c := ⟨62, none⟩) (.inr ⟨_, rfl⟩) [.tmp 4, .tmp 5] [_, _] rfl Try.func62 Try.results62 ⟨RV.tmp rfl, RV.tmp rfl, trivial⟩ (fun _ h => List.mem_cons_of_mem _ h) ⟨none, 0, [], rfl, rfl, rfl, (OL.nil (Rp' := (Rep.int .i64)))⟩
 ·have r9 := ifF r3 c6; clear r3
  refine Cov.skip ?_;refine Cov.seq ?_;refine Cov.seq ?_;refine Cov.region rfl ?_;refine Cov.q .ro (.move rfl) rfl ?_
  obtain ⟨u10, hu10, r11⟩ := bind_some r9; clear r9
  refine Cov.callS (b1 := []) (b2 := [_]) (s1 := []) [_] [] .ro rfl rfl Try.call76 rfl rfl (cuckoo_item_c (G := G) List.mem_cons_self  hu10) rfl (fun v13 bo so h12 => ?_)
  obtain ⟨rfl, rfl, rfl⟩ := h12
  refine Cov.same (bl' := [_]) (sl' := []) rfl rfl rfl ?_;refine Cov.q .ro (.not rfl) rfl ?_;refine Cov.region_end ?_
  refine Cov.cond rfl (fun c14 => ?_) (fun c14 => ?_)
  ·have r15 := ifT r11 c14; clear r11
   refine Cov.seq ?_;refine Cov.region rfl ?_;refine Cov.q .ro (.assign rfl) rfl ?_;refine Cov.q .ro (.assign rfl) rfl ?_;refine Cov.region_end ?_;refine Cov.own_nil 3 1 ?_
   cases r15
   refine Cov.drop 1 0 [] _ rfl rfl ?_
   refine Cov.retS (c := ⟨62, none⟩) (.inr ⟨_, rfl⟩) [.tmp 4, .tmp 5] [_, _] rfl Try.func62 Try.results62 ⟨RV.tmp rfl, RV.tmp rfl, trivial⟩ (fun _ h => List.mem_cons_of_mem _ h) ⟨none, 0, [], rfl, rfl, rfl, (OL.nil (Rp' := (Rep.int .i64)))⟩
  ·have r17 := ifBF r11 c14; clear r11
   refine Cov.skip ?_;refine Cov.seq ?_;refine Cov.region rfl ?_;refine Cov.q .ro (.load_own_a 0 [_, _] rfl rfl ty28 rfl) rfl ?_;refine Cov.q .ro (.move rfl) rfl ?_
   obtain ⟨u18, hu18, r19⟩ := bind_some r17; clear r17
   refine Cov.callS (b1 := []) (b2 := [_]) (s1 := []) [_, _] [] .ro rfl rfl Try.call77 rfl rfl (cuckoo_homes_c (G := G) List.mem_cons_self s0_1 hu18) rfl (fun v21 bo so h20 => ?_)
   obtain ⟨a23, k24, cs25, rfl, rfl, rfl, o26⟩ := h20
   refine Cov.same (bl' := [_]) (sl' := [_]) rfl rfl rfl ?_;refine Cov.q .ro (.assign rfl) rfl ?_;refine Cov.q .ro (.assign rfl) rfl ?_;refine Cov.region_end ?_;refine Cov.prune [(4, _), (5, _)] ⟨rfl, rfl, trivial⟩ ?_
   cases r19
   refine Cov.drop 1 0 [] _ rfl rfl ?_
   refine Cov.retS (c := ⟨62, none⟩) (.inr ⟨_, rfl⟩) [.tmp 4, .tmp 5] [_, _] rfl Try.func62 Try.results62 ⟨RV.tmp rfl, RV.tmp rfl, trivial⟩ (fun _ h => List.mem_cons_of_mem _ h) ⟨a23, k24, cs25, rfl, rfl, rfl, o26⟩
set_option maxHeartbeats 4000000 in
set_option maxRecDepth 100000 in
theorem digest_sum_string_c {Fs : List Hp} {G : Hp} {x0 : ByteArray} {x1 : Int} {r : Int} (hG : G ∈ Fs)  (h : digest_sum_string x0 x1 = some r) : RetS Try.prog 78 #[.string x0, .int .i64 x1] Fs [] [] (fun v bo so => v = .int .i64 r ∧ bo = [] ∧ so = []) := by
 unfold digest_sum_string at h
 try dsimp only at h
 refine RetS.of (vs := [_, _]) Try.func78 rfl Try.ntmps78 [(0, _), (1, _)] ⟨rfl, rfl, trivial⟩ rfl hG fun w0 S0 hS0 B0 => ?_
 refine Cov.seq ?_;refine Cov.region rfl ?_;refine Cov.q .ro (.assign rfl) rfl ?_;refine Cov.region_end ?_;refine Cov.seq ?_;refine Cov.seq ?_;refine Cov.region rfl ?_;refine Cov.q .ro (.move rfl) rfl ?_;refine Cov.q .ro (.len_s rfl Try.underlying9) rfl ?_
 refine Cov.q .ro (.move rfl) rfl ?_;refine Cov.region_end ?_;refine Cov.block ?_
 refine Cov.loop2 (α := Nat × Int × Int) (fun y => [(1, .int .i64 y.2.1), (8, .int .i64 y.2.2)]) [(0, _), (7, _)] (fun y => []) (fun y => []) [] (fun y => []) [] (fun y => digest_sum_string_L1 x0 (x0.size : Int) y.1 y.2.1 y.2.2 = some r) (fun y => y.1) (big, x1, 0) h ⟨rfl, rfl, rfl, rfl, trivial⟩ rfl rfl rfl (fun y hI hb14 => ?_)
 obtain ⟨n9, v11, v12⟩ := y
 have r13 := hI; clear hI
 try dsimp only at r13
 refine Cov.prune [(1, .int .i64 v11), (8, .int .i64 v12), (0, _), (7, _)] ⟨rfl, rfl, rfl, rfl, trivial⟩ ?_;refine Cov.same (bl' := []) (sl' := []) (Fs' := G :: Fs) rfl rfl rfl ?_
 obtain ⟨m18, rfl⟩ : ∃ m, n9 = m + 1 := by cases n9 with | zero => exact absurd (show (none : Option _) = some _ from r13) (by simp) | succ m => exact ⟨m, rfl⟩
 have r17 : digest_sum_string_B1 x0 (x0.size : Int) (digest_sum_string_L1 x0 (x0.size : Int) m18) v11 v12 = some r := r13; clear r13; unfold digest_sum_string_B1 at r17; try dsimp only at r17
 refine Cov.seq ?_;refine Cov.region rfl ?_;refine Cov.q .ro (.lss rfl rfl) rfl ?_;refine Cov.region_end ?_;refine Cov.seq ?_
 refine Cov.cond_dec rfl (fun c19 => ?_) (fun c19 => ?_)
 ·have r20 := ifT r17 c19; clear r17
  refine Cov.skip ?_;refine Cov.seq ?_;refine Cov.block ?_;refine Cov.seq ?_;refine Cov.region rfl ?_;refine Cov.q .ro (.move rfl) rfl ?_;refine Cov.q .ro (.assign rfl) rfl ?_;refine Cov.region_end ?_;refine Cov.region rfl ?_
  refine Cov.q .ro (.move rfl) rfl ?_;refine Cov.q .ro (.mulw rfl rfl) rfl ?_;refine Cov.q .ro (.move rfl) rfl ?_;refine Cov.q .ro (.move rfl) rfl ?_
  obtain ⟨u21, hu21, r22⟩ := bind_some r20; clear r20
  refine Cov.q .ro (.sidx rfl rfl Try.underlying9 hu21) rfl ?_;refine Cov.q .ro (.convw Try.underlying5 Try.underlying3 rfl) rfl ?_;refine Cov.q .ro (.addw rfl rfl) rfl ?_;refine Cov.q .ro (.addw rfl rfl) rfl ?_;refine Cov.q .ro (.remt rfl rfl (by decide)) rfl ?_;refine Cov.q .ro (.assign rfl) rfl ?_;refine Cov.region_end ?_;refine Cov.inBlock ?_;refine Cov.region rfl ?_
  refine Cov.q .ro (.addw rfl rfl) rfl ?_;refine Cov.q .ro (.move rfl) rfl ?_;refine Cov.region_end ?_;refine Cov.prune [(1, _), (8, _), (0, _), (7, _)] ⟨rfl, rfl, rfl, rfl, trivial⟩ ?_
  refine Cov.prune _ ?_ (Cov.same rfl rfl rfl (hb14 (m18, (Int.tmod (w64 ((w64 ((w64 (v11 * 1000003)) + (w64 u21))) + 1)) 2147483647), (w64 (v12 + 1))) r22 (Nat.lt_succ_self _)))
  exact ⟨rfl, rfl, rfl, rfl, trivial⟩
 ·have r23 := ifF r17 c19; clear r17
  refine Cov.exit rfl ?_;refine Cov.seq ?_;refine Cov.region rfl ?_;refine Cov.q .ro (.move rfl) rfl ?_;refine Cov.q .ro (.assign rfl) rfl ?_;refine Cov.region_end ?_
  cases r23
  refine Cov.retS (c := ⟨78, none⟩) (.inr ⟨_, rfl⟩) [.tmp 4] [_] rfl Try.func78 Try.results78 ⟨RV.tmp rfl, trivial⟩ (fun _ h => List.mem_cons_of_mem _ h) ⟨rfl, rfl, rfl⟩
set_option maxHeartbeats 4000000 in
set_option maxRecDepth 100000 in
theorem digest_Sum_c {Fs : List Hp} {G : Hp} {x0 : ByteArray} {r : Int} (hG : G ∈ Fs)  (h : digest_Sum x0 = some r) : RetS Try.prog 63 #[.string x0] Fs [] [] (fun v bo so => v = .int .i64 r ∧ bo = [] ∧ so = []) := by
 unfold digest_Sum at h
 try dsimp only at h
 refine RetS.of (vs := [_]) Try.func63 rfl Try.ntmps63 [(0, _)] ⟨rfl, trivial⟩ rfl hG fun w0 S0 hS0 B0 => ?_
 refine Cov.seq ?_;refine Cov.region rfl ?_;refine Cov.q .ro (.assign rfl) rfl ?_;refine Cov.region_end ?_;refine Cov.seq ?_;refine Cov.region rfl ?_;refine Cov.q .ro (.move rfl) rfl ?_
 obtain ⟨u1, hu1, r2⟩ := bind_some h; clear h
 refine Cov.callS (b1 := []) (b2 := []) (s1 := []) [_, _] [] .ro rfl rfl Try.call78 rfl rfl (digest_sum_string_c (G := G) List.mem_cons_self  hu1) rfl (fun v4 bo so h3 => ?_)
 obtain ⟨rfl, rfl, rfl⟩ := h3
 refine Cov.same (bl' := []) (sl' := []) rfl rfl rfl ?_;refine Cov.q .ro (.assign rfl) rfl ?_;refine Cov.region_end ?_
 cases r2
 refine Cov.retS (c := ⟨63, none⟩) (.inr ⟨_, rfl⟩) [.tmp 2] [_] rfl Try.func63 Try.results63 ⟨RV.tmp rfl, trivial⟩ (fun _ h => List.mem_cons_of_mem _ h) ⟨rfl, rfl, rfl⟩
set_option maxHeartbeats 4000000 in
set_option maxRecDepth 100000 in
theorem keyword_homes_c {Fs : List Hp} {G : Hp} {x0_0 : Int} {a0_1 : Option Addr} {k0_1 : Nat} {x0_1 : List (Int × Int)} {x1 : ByteArray} {r : (List Int)} (hG : G ∈ Fs) (s0_1 : SlR (Rep.pair (Rep.int .i64) (Rep.int .i64)) G a0_1 k0_1 x0_1) (h : keyword_homes (x0_0, x0_1) x1 = some r) : RetS Try.prog 43 #[.agg #[.int .i64 x0_0, .slice a0_1 x0_1.length k0_1], .string x1] Fs [] [] (fun v bo so => ∃ (oa0 : Option Addr) (ok0 : Nat) (oc0 : List Value), v = .slice oa0 r.length ok0 ∧ bo = [] ∧ so = [.s (.slice oa0 r.length ok0) 3 1 r.length oc0] ∧ OL (Rep.int .i64) G oc0 r) := by
 unfold keyword_homes at h
 try dsimp only at h
 refine RetS.of (vs := [_, _]) Try.func43 rfl Try.ntmps43 [(0, _), (1, _)] ⟨rfl, rfl, trivial⟩ rfl hG fun w0 S0 hS0 B0 => ?_
 refine Cov.seq ?_;refine Cov.region rfl ?_
 refine Cov.box [_, _] .ro rfl rfl rfl (fun b1 hb1 => ?_)
 refine Cov.q .ro (.assign rfl) rfl ?_;refine Cov.region_end ?_;refine Cov.seq ?_;refine Cov.drawL (.q 0 (.q 1 (.e 2 1 (.e 3 1 (.q 4 (.q 5 (.q 6 (.q 7 (.q 8 .nil))))))))) [_] (by kernel_rfl) (by kernel_rfl) (pick_mem [0] rfl) ?_;refine Cov.dq (.load_own_a 0 [_, _] rfl rfl ty28 rfl) rfl ?_;refine Cov.dq (.move rfl) rfl ?_
 obtain ⟨u2, hu2, r3⟩ := bind_some h; clear h
 refine Cov.callS (b1 := []) (b2 := [_]) (s1 := []) [_] [] .d1 rfl rfl Try.call63 rfl rfl (digest_Sum_c (G := G) List.mem_cons_self  hu2) rfl (fun v5 bo so h4 => ?_)
 obtain ⟨rfl, rfl, rfl⟩ := h4
 refine Cov.same (bl' := [_]) (sl' := []) rfl rfl rfl ?_;refine Cov.clsL (HpLe.refl _) (pick_mem [0] rfl) ?_
 obtain ⟨u6, hu6, r7⟩ := bind_some r3; clear r3
 refine Cov.callS (b1 := []) (b2 := [_]) (s1 := []) [_, _] [] .d1 rfl rfl Try.call62 rfl rfl (cuckoo_Homes_c (G := G) List.mem_cons_self s0_1 hu6) rfl (fun v9 bo so h8 => ?_)
 obtain ⟨a11, k12, cs13, rfl, rfl, rfl, o14⟩ := h8
 refine Cov.same (bl' := [_]) (sl' := [_]) rfl rfl rfl ?_;refine Cov.clsL (HpLe.refl _) (pick_mem [0] rfl) ?_;refine Cov.dq (.move rfl) rfl ?_;refine Cov.dq (.extract rfl rfl) rfl ?_;refine Cov.dq (.extract rfl rfl) rfl ?_;refine Cov.dq (.assign rfl) rfl ?_;refine Cov.dq (.assign rfl) rfl ?_;refine Cov.draw_end ?_;refine Cov.seq ?_
 refine Cov.region rfl ?_;refine Cov.q .ro (.move rfl) rfl ?_;refine Cov.q .ro (.assign rfl) rfl ?_;refine Cov.region_end ?_;refine Cov.prune [(4, _)] ⟨rfl, trivial⟩ ?_
 cases r7
 refine Cov.drop 1 0 [] _ rfl rfl ?_
 refine Cov.retS (c := ⟨43, none⟩) (.inr ⟨_, rfl⟩) [.tmp 4] [_] rfl Try.func43 Try.results43 ⟨RV.tmp rfl, trivial⟩ (fun _ h => List.mem_cons_of_mem _ h) ⟨a11, k12, cs13, rfl, rfl, rfl, o14⟩
set_option maxHeartbeats 4000000 in
set_option maxRecDepth 100000 in
theorem keyword_Homes_c {Fs : List Hp} {G : Hp} {x0_0 : Int} {a0_1 : Option Addr} {k0_1 : Nat} {x0_1 : List (Int × Int)} {x1 : ByteArray} {r : ((List Int) × Int)} (hG : G ∈ Fs) (s0_1 : SlR (Rep.pair (Rep.int .i64) (Rep.int .i64)) G a0_1 k0_1 x0_1) (h : keyword_Homes (x0_0, x0_1) x1 = some r) : RetS Try.prog 21 #[.agg #[.int .i64 x0_0, .slice a0_1 x0_1.length k0_1], .string x1] Fs [] [] (fun v bo so => ∃ (oa0 : Option Addr) (ok0 : Nat) (oc0 : List Value), v = .tuple #[.slice oa0 r.1.length ok0, .int .i64 r.2] ∧ bo = [] ∧ so = [.s (.slice oa0 r.1.length ok0) 3 1 r.1.length oc0] ∧ OL (Rep.int .i64) G oc0 r.1) := by
 unfold keyword_Homes at h
 try dsimp only at h
 refine RetS.of (vs := [_, _]) Try.func21 rfl Try.ntmps21 [(0, _), (1, _)] ⟨rfl, rfl, trivial⟩ rfl hG fun w0 S0 hS0 B0 => ?_
 refine Cov.seq ?_;refine Cov.region rfl ?_
 refine Cov.box [_, _] .ro rfl rfl rfl (fun b1 hb1 => ?_)
 refine Cov.q .ro (.assign rfl) rfl ?_;refine Cov.q .ro (.assign rfl) rfl ?_;refine Cov.region_end ?_;refine Cov.seq ?_;refine Cov.seq ?_;refine Cov.region rfl ?_;refine Cov.q .ro (.load_own_a 0 [_, _] rfl rfl ty28 rfl) rfl ?_
 obtain ⟨u2, hu2, r3⟩ := bind_some h; clear h
 refine Cov.callS (b1 := []) (b2 := [_]) (s1 := []) [_] [] .ro rfl rfl Try.call41 rfl rfl (cuckoo_Check_c (G := G) List.mem_cons_self s0_1 hu2) rfl (fun v5 bo so h4 => ?_)
 obtain ⟨rfl, rfl, rfl⟩ := h4
 refine Cov.same (bl' := [_]) (sl' := []) rfl rfl rfl ?_;refine Cov.q .ro (.assign rfl) rfl ?_;refine Cov.region_end ?_;refine Cov.seq ?_;refine Cov.region rfl ?_;refine Cov.q .ro (.move rfl) rfl ?_;refine Cov.q .ro (.neq rfl rfl) rfl ?_;refine Cov.region_end ?_
 refine Cov.cond_dec rfl (fun c6 => ?_) (fun c6 => ?_)
 ·have r7 := ifT r3 c6; clear r3
  refine Cov.seq ?_;refine Cov.region rfl ?_;refine Cov.q .ro (.move rfl) rfl ?_;refine Cov.q .ro (.assign rfl) rfl ?_;refine Cov.q .ro (.assign rfl) rfl ?_;refine Cov.region_end ?_;refine Cov.own_nil 3 1 ?_
  cases r7
  refine Cov.drop 1 0 [] _ rfl rfl ?_
  refine Cov.retS (c := ⟨21, none⟩) (.inr ⟨_, rfl⟩) [.tmp 4, .tmp 5] [_, _] rfl Try.func21 Try.results21 ⟨RV.tmp rfl, RV.tmp rfl, trivial⟩ (fun _ h => List.mem_cons_of_mem _ h) ⟨none, 0, [], rfl, rfl, rfl, (OL.nil (Rp' := (Rep.int .i64)))⟩
 ·have r9 := ifF r3 c6; clear r3
  refine Cov.skip ?_;refine Cov.seq ?_;refine Cov.seq ?_;refine Cov.region rfl ?_;refine Cov.q .ro (.move rfl) rfl ?_
  obtain ⟨u10, hu10, r11⟩ := bind_some r9; clear r9
  refine Cov.callS (b1 := []) (b2 := [_]) (s1 := []) [_] [] .ro rfl rfl Try.call42 rfl rfl (keyword_proper_c (G := G) List.mem_cons_self  hu10) rfl (fun v13 bo so h12 => ?_)
  obtain ⟨rfl, rfl, rfl⟩ := h12
  refine Cov.same (bl' := [_]) (sl' := []) rfl rfl rfl ?_;refine Cov.q .ro (.not rfl) rfl ?_;refine Cov.region_end ?_
  refine Cov.cond rfl (fun c14 => ?_) (fun c14 => ?_)
  ·have r15 := ifT r11 c14; clear r11
   refine Cov.seq ?_;refine Cov.region rfl ?_;refine Cov.q .ro (.assign rfl) rfl ?_;refine Cov.q .ro (.assign rfl) rfl ?_;refine Cov.region_end ?_;refine Cov.own_nil 3 1 ?_
   cases r15
   refine Cov.drop 1 0 [] _ rfl rfl ?_
   refine Cov.retS (c := ⟨21, none⟩) (.inr ⟨_, rfl⟩) [.tmp 4, .tmp 5] [_, _] rfl Try.func21 Try.results21 ⟨RV.tmp rfl, RV.tmp rfl, trivial⟩ (fun _ h => List.mem_cons_of_mem _ h) ⟨none, 0, [], rfl, rfl, rfl, (OL.nil (Rp' := (Rep.int .i64)))⟩
  ·have r17 := ifBF r11 c14; clear r11
   refine Cov.skip ?_;refine Cov.seq ?_;refine Cov.region rfl ?_;refine Cov.q .ro (.load_own_a 0 [_, _] rfl rfl ty28 rfl) rfl ?_;refine Cov.q .ro (.move rfl) rfl ?_
   obtain ⟨u18, hu18, r19⟩ := bind_some r17; clear r17
   refine Cov.callS (b1 := []) (b2 := [_]) (s1 := []) [_, _] [] .ro rfl rfl Try.call43 rfl rfl (keyword_homes_c (G := G) List.mem_cons_self s0_1 hu18) rfl (fun v21 bo so h20 => ?_)
   obtain ⟨a23, k24, cs25, rfl, rfl, rfl, o26⟩ := h20
   refine Cov.same (bl' := [_]) (sl' := [_]) rfl rfl rfl ?_;refine Cov.q .ro (.assign rfl) rfl ?_;refine Cov.q .ro (.assign rfl) rfl ?_;refine Cov.region_end ?_;refine Cov.prune [(4, _), (5, _)] ⟨rfl, rfl, trivial⟩ ?_
   cases r19
   refine Cov.drop 1 0 [] _ rfl rfl ?_
   refine Cov.retS (c := ⟨21, none⟩) (.inr ⟨_, rfl⟩) [.tmp 4, .tmp 5] [_, _] rfl Try.func21 Try.results21 ⟨RV.tmp rfl, RV.tmp rfl, trivial⟩ (fun _ h => List.mem_cons_of_mem _ h) ⟨a23, k24, cs25, rfl, rfl, rfl, o26⟩
set_option maxHeartbeats 4000000 in
set_option maxRecDepth 100000 in
theorem lookup_Wish_c {Fs : List Hp} {G : Hp} {x0_0 : Int} {a0_1 : Option Addr} {k0_1 : Nat} {x0_1 : List (Int × Int)} {x1 : ByteArray} {r : ((List Int) × Int)} (hG : G ∈ Fs) (s0_1 : SlR (Rep.pair (Rep.int .i64) (Rep.int .i64)) G a0_1 k0_1 x0_1) (h : lookup_Wish (x0_0, x0_1) x1 = some r) : RetS Try.prog 10 #[.agg #[.int .i64 x0_0, .slice a0_1 x0_1.length k0_1], .string x1] Fs [] [] (fun v bo so => ∃ (oa0 : Option Addr) (ok0 : Nat) (oc0 : List Value), v = .tuple #[.slice oa0 r.1.length ok0, .int .i64 r.2] ∧ bo = [] ∧ so = [.s (.slice oa0 r.1.length ok0) 3 1 r.1.length oc0] ∧ OL (Rep.int .i64) G oc0 r.1) := by
 unfold lookup_Wish at h
 try dsimp only at h
 refine RetS.of (vs := [_, _]) Try.func10 rfl Try.ntmps10 [(0, _), (1, _)] ⟨rfl, rfl, trivial⟩ rfl hG fun w0 S0 hS0 B0 => ?_
 refine Cov.seq ?_;refine Cov.region rfl ?_
 refine Cov.box [_, _] .ro rfl rfl rfl (fun b1 hb1 => ?_)
 refine Cov.q .ro (.assign rfl) rfl ?_;refine Cov.q .ro (.assign rfl) rfl ?_;refine Cov.region_end ?_;refine Cov.seq ?_;refine Cov.region rfl ?_;refine Cov.q .ro (.load_own_a 0 [_, _] rfl rfl ty28 rfl) rfl ?_;refine Cov.q .ro (.move rfl) rfl ?_
 obtain ⟨u2, hu2, r3⟩ := bind_some h; clear h
 refine Cov.callS (b1 := []) (b2 := [_]) (s1 := []) [_, _] [] .ro rfl rfl Try.call21 rfl rfl (keyword_Homes_c (G := G) List.mem_cons_self s0_1 hu2) rfl (fun v5 bo so h4 => ?_)
 obtain ⟨a7, k8, cs9, rfl, rfl, rfl, o10⟩ := h4
 refine Cov.same (bl' := [_]) (sl' := [_]) rfl rfl rfl ?_;refine Cov.q .ro (.extract rfl rfl) rfl ?_;refine Cov.q .ro (.extract rfl rfl) rfl ?_;refine Cov.q .ro (.assign rfl) rfl ?_;refine Cov.q .ro (.assign rfl) rfl ?_;refine Cov.region_end ?_
 cases r3
 refine Cov.drop 1 0 [] _ rfl rfl ?_
 refine Cov.retS (c := ⟨10, none⟩) (.inr ⟨_, rfl⟩) [.tmp 4, .tmp 5] [_, _] rfl Try.func10 Try.results10 ⟨RV.tmp rfl, RV.tmp rfl, trivial⟩ (fun _ h => List.mem_cons_of_mem _ h) ⟨a7, k8, cs9, rfl, rfl, rfl, o10⟩
set_option maxHeartbeats 4000000 in
set_option maxRecDepth 100000 in
theorem fence_sized_c {Fs : List Hp} {G : Hp} {x0 : Int} {r : Bool} (hG : G ∈ Fs)  (h : fence_sized x0 = some r) : RetS Try.prog 64 #[.int .i64 x0] Fs [] [] (fun v bo so => v = .bool r ∧ bo = [] ∧ so = []) := by
 unfold fence_sized at h
 try dsimp only at h
 refine RetS.of (vs := [_]) Try.func64 rfl Try.ntmps64 [(0, _)] ⟨rfl, trivial⟩ rfl hG fun w0 S0 hS0 B0 => ?_
 refine Cov.seq ?_;refine Cov.region rfl ?_;refine Cov.q .ro (.assign rfl) rfl ?_;refine Cov.region_end ?_;refine Cov.seq ?_;refine Cov.region rfl ?_;refine Cov.q .ro (.move rfl) rfl ?_;refine Cov.q .ro (.geq rfl rfl) rfl ?_;refine Cov.q .ro (.move rfl) rfl ?_
 refine Cov.cutR 3 (β := Unit) (fun y => [(8, .bool (decide ((2 ≤ x0) ∧ (x0 ≤ 8))))]) [(2, _)] (fun y => G :: Fs) (fun y => []) [] (fun y => []) [] (fun y => True) ⟨rfl, trivial⟩ [] rfl [] rfl ?_ ?_
 ·rintro _ _
  refine Cov.prune [(8, .bool (decide ((2 ≤ x0) ∧ (x0 ≤ 8)))), (2, _)] ⟨rfl, rfl, trivial⟩ ?_;refine Cov.same (bl' := []) (sl' := []) (Fs' := G :: Fs) rfl rfl rfl ?_;refine Cov.q .ro (.assign rfl) rfl ?_;refine Cov.region_end ?_
  cases h
  refine Cov.retS (c := ⟨64, none⟩) (.inr ⟨_, rfl⟩) [.tmp 2] [_] rfl Try.func64 Try.results64 ⟨RV.tmp rfl, trivial⟩ (fun _ h => List.mem_cons_of_mem _ h) ⟨rfl, rfl, rfl⟩
 ·intro hb2
  refine Cov.split 5 rfl (fun c1 => ?_) (fun c1 => ?_)
  ·refine Cov.g_on rfl ?_
   refine Cov.q .ro (.move rfl) rfl ?_;refine Cov.g_on rfl ?_;refine Cov.q .ro (.leq rfl rfl) rfl ?_;refine Cov.q .ro (.pick_t rfl rfl) rfl ?_
   refine Cov.prune _ ?_ (Cov.same rfl rfl rfl (hb2 () trivial))
   exact ⟨dand_t c1, rfl, trivial⟩
  ·refine Cov.g_off rfl rfl rfl ?_
   refine Cov.g_off rfl rfl rfl ?_;refine Cov.q .ro (.pick_f rfl rfl) rfl ?_
   refine Cov.prune _ ?_ (Cov.same rfl rfl rfl (hb2 () trivial))
   exact ⟨dand_f c1, rfl, trivial⟩
set_option maxHeartbeats 4000000 in
set_option maxRecDepth 100000 in
theorem fence_proper_c {Fs : List Hp} {G : Hp} {x0 : ByteArray} {r : Bool} (hG : G ∈ Fs)  (h : fence_proper x0 = some r) : RetS Try.prog 45 #[.string x0] Fs [] [] (fun v bo so => v = .bool r ∧ bo = [] ∧ so = []) := by
 unfold fence_proper at h
 try dsimp only at h
 refine RetS.of (vs := [_]) Try.func45 rfl Try.ntmps45 [(0, _)] ⟨rfl, trivial⟩ rfl hG fun w0 S0 hS0 B0 => ?_
 refine Cov.seq ?_;refine Cov.region rfl ?_;refine Cov.q .ro (.assign rfl) rfl ?_;refine Cov.region_end ?_;refine Cov.seq ?_;refine Cov.region rfl ?_;refine Cov.q .ro (.move rfl) rfl ?_;refine Cov.q .ro (.len_s rfl Try.underlying9) rfl ?_;refine Cov.q .ro (.geq rfl rfl) rfl ?_
 refine Cov.q .ro (.move rfl) rfl ?_;refine Cov.cutR 4 (β := Unit) (fun y => [(10, .bool (decide ((1 ≤ (x0.size : Int)) ∧ ((x0.size : Int) ≤ 32))))]) [(2, _)] (fun y => G :: Fs) (fun y => []) [] (fun y => []) [] (fun y => True) ⟨rfl, trivial⟩ [] rfl [] rfl ?_ ?_
 ·rintro _ _
  refine Cov.prune [(10, .bool (decide ((1 ≤ (x0.size : Int)) ∧ ((x0.size : Int) ≤ 32)))), (2, _)] ⟨rfl, rfl, trivial⟩ ?_;refine Cov.same (bl' := []) (sl' := []) (Fs' := G :: Fs) rfl rfl rfl ?_;refine Cov.q .ro (.assign rfl) rfl ?_;refine Cov.region_end ?_
  cases h
  refine Cov.retS (c := ⟨45, none⟩) (.inr ⟨_, rfl⟩) [.tmp 2] [_] rfl Try.func45 Try.results45 ⟨RV.tmp rfl, trivial⟩ (fun _ h => List.mem_cons_of_mem _ h) ⟨rfl, rfl, rfl⟩
 ·intro hb2
  refine Cov.split 6 rfl (fun c1 => ?_) (fun c1 => ?_)
  ·refine Cov.g_on rfl ?_
   refine Cov.q .ro (.move rfl) rfl ?_;refine Cov.g_on rfl ?_;refine Cov.q .ro (.len_s rfl Try.underlying9) rfl ?_;refine Cov.g_on rfl ?_;refine Cov.q .ro (.leq rfl rfl) rfl ?_;refine Cov.q .ro (.pick_t rfl rfl) rfl ?_
   refine Cov.prune _ ?_ (Cov.same rfl rfl rfl (hb2 () trivial))
   exact ⟨dand_t c1, rfl, trivial⟩
  ·refine Cov.g_off rfl rfl rfl ?_
   refine Cov.g_off rfl rfl rfl ?_;refine Cov.g_off rfl rfl rfl ?_;refine Cov.q .ro (.pick_f rfl rfl) rfl ?_
   refine Cov.prune _ ?_ (Cov.same rfl rfl rfl (hb2 () trivial))
   exact ⟨dand_f c1, rfl, trivial⟩
set_option maxHeartbeats 4000000 in
set_option maxRecDepth 100000 in
theorem fence_ascend_c {Fs : List Hp} {G : Hp} {a0 : Option Addr} {k0 : Nat} {x0 : List ByteArray} {r : Bool} (hG : G ∈ Fs) (s0 : SlR Rep.str G a0 k0 x0) (h : fence_ascend x0 = some r) : RetS Try.prog 65 #[.slice a0 x0.length k0] Fs [] [] (fun v bo so => v = .bool r ∧ bo = [] ∧ so = []) := by
 unfold fence_ascend at h
 try dsimp only at h
 refine RetS.of (vs := [_]) Try.func65 rfl Try.ntmps65 [(0, _)] ⟨rfl, trivial⟩ rfl hG fun w0 S0 hS0 B0 => ?_
 refine Cov.seq ?_;refine Cov.region rfl ?_;refine Cov.q .ro (.assign rfl) rfl ?_;refine Cov.region_end ?_;refine Cov.seq ?_;refine Cov.seq ?_;refine Cov.region rfl ?_;refine Cov.q .ro (.move rfl) rfl ?_;refine Cov.q .ro (.len_sl rfl rfl sl35) rfl ?_
 refine Cov.q .ro (.move rfl) rfl ?_;refine Cov.region_end ?_;refine Cov.block ?_
 refine Cov.loop2 (α := Nat × List ByteArray) (fun y => [(7, .int .i64 (y.1 : Int))]) [(0, _), (5, _), (6, _)] (fun y => []) (fun y => []) [] (fun y => []) [] (fun y => List.drop y.1 x0 = y.2 ∧ fence_ascend_L1 x0 y.2 y.1  = some r) (fun y => y.2.length) (0, x0) ⟨rfl, h⟩ ⟨rfl, rfl, rfl, rfl, trivial⟩ rfl rfl rfl (fun y hI hb70 => ?_)
 obtain ⟨i66, w67⟩ := y
 obtain ⟨g68, r69⟩ := hI
 try dsimp only at g68 r69
 refine Cov.prune [(7, .int .i64 (i66 : Int)), (0, _), (5, _), (6, _)] ⟨rfl, rfl, rfl, rfl, trivial⟩ ?_;refine Cov.same (bl' := []) (sl' := []) (Fs' := G :: Fs) rfl rfl rfl ?_
 cases w67 with
 | nil =>
  rw [fence_ascend_L1] at r69; try dsimp only at r69
  refine Cov.seq ?_;refine Cov.region rfl ?_;refine Cov.q .ro (.lss rfl rfl) rfl ?_;refine Cov.region_end ?_;refine Cov.seq ?_
  refine Cov.cond_dec rfl (fun c => absurd c (drop_nil g68)) (fun _ => ?_)
  refine Cov.exit rfl ?_;refine Cov.seq ?_;refine Cov.region rfl ?_;refine Cov.q .ro (.assign rfl) rfl ?_;refine Cov.region_end ?_
  cases r69
  refine Cov.retS (c := ⟨65, none⟩) (.inr ⟨_, rfl⟩) [.tmp 2] [_] rfl Try.func65 Try.results65 ⟨RV.tmp rfl, trivial⟩ (fun _ h => List.mem_cons_of_mem _ h) ⟨rfl, rfl, rfl⟩
 | cons x74 xs75 =>
  have r73 : fence_ascend_B1 x0 (fence_ascend_L1 x0 xs75 (i66 + 1)) x74 i66  = some r := r69; clear r69; unfold fence_ascend_B1 at r73; try dsimp only at r73
  refine Cov.seq ?_;refine Cov.region rfl ?_;refine Cov.q .ro (.lss rfl rfl) rfl ?_;refine Cov.region_end ?_;refine Cov.seq ?_
  refine Cov.cond_dec rfl (fun _ => ?_) (fun c => absurd (drop_lt g68) c)
  refine Cov.skip ?_;refine Cov.seq ?_;refine Cov.block ?_;refine Cov.seq ?_;refine Cov.region rfl ?_;refine Cov.q .ro (.move rfl) rfl ?_
  obtain ⟨c76, p77, h78⟩ := SlR.get s0 (drop_idx g68)
  obtain rfl := h78
  refine Cov.q .ro (.idxR s0 rfl rfl (drop_idx g68) sl35 ty9.sz) rfl ?_;refine Cov.q .ro (.load_rp p77 List.mem_cons_self rfl ty9 rfl) rfl ?_;refine Cov.q .ro (.assign rfl) rfl ?_;refine Cov.q .ro (.assign rfl) rfl ?_;refine Cov.region_end ?_;refine Cov.seq ?_;refine Cov.region rfl ?_;refine Cov.q .ro (.move rfl) rfl ?_
  obtain ⟨u79, hu79, r80⟩ := bind_some r73; clear r73
  refine Cov.callS (b1 := []) (b2 := []) (s1 := []) [_] [] .ro rfl rfl Try.call45 rfl rfl (fence_proper_c (G := G) List.mem_cons_self  hu79) rfl (fun v82 bo so h81 => ?_)
  obtain ⟨rfl, rfl, rfl⟩ := h81
  refine Cov.same (bl' := []) (sl' := []) rfl rfl rfl ?_;refine Cov.q .ro (.not rfl) rfl ?_;refine Cov.q .ro (.move rfl) rfl ?_
  obtain ⟨u104, h105, r106⟩ := bind_some r80; clear r80
  refine Cov.cutR 12 (β := Unit) (fun y => [(27, .bool u104)]) [(7, _), (0, _), (5, _), (6, _)] (fun y => G :: Fs) (fun y => []) [] (fun y => []) [] (fun y => True) ⟨rfl, rfl, rfl, rfl, trivial⟩ [] rfl [] rfl ?_ ?_
  ·rintro _ _
   refine Cov.prune [(27, .bool u104), (7, _), (0, _), (5, _), (6, _)] ⟨rfl, rfl, rfl, rfl, rfl, trivial⟩ ?_;refine Cov.same (bl' := []) (sl' := []) (Fs' := G :: Fs) rfl rfl rfl ?_;refine Cov.region_end ?_
   refine Cov.cond rfl (fun c109 => ?_) (fun c109 => ?_)
   ·have r110 := ifT r106 c109; clear r106
    refine Cov.seq ?_;refine Cov.region rfl ?_;refine Cov.q .ro (.assign rfl) rfl ?_;refine Cov.region_end ?_
    cases r110
    refine Cov.retS (c := ⟨65, none⟩) (.inr ⟨_, rfl⟩) [.tmp 2] [_] rfl Try.func65 Try.results65 ⟨RV.tmp rfl, trivial⟩ (fun _ h => List.mem_cons_of_mem _ h) ⟨rfl, rfl, rfl⟩
   ·have r111 := ifBF r106 c109; clear r106
    refine Cov.skip ?_;refine Cov.inBlock ?_;refine Cov.region rfl ?_;refine Cov.q .ro (.addw rfl rfl) rfl ?_;refine Cov.q .ro (.move rfl) rfl ?_;refine Cov.region_end ?_
    refine Cov.prune _ ?_ (Cov.same rfl rfl rfl (hb70 ((i66 + 1), xs75) ⟨(drop_succ g68), r111⟩ (Nat.lt_succ_self _)))
    exact ⟨(congrArg (fun z => some (Value.int .i64 z)) (idx_wrap (SlR.len s0) g68)), rfl, rfl, rfl, trivial⟩
  ·intro hb103
   refine Cov.split_b 15 rfl (fun c102 => ?_) (fun c102 => ?_)
   ·have r112 := ifT h105 c102
    refine Cov.g_off rfl rfl rfl ?_;refine Cov.g_off rfl rfl rfl ?_;refine Cov.g_off rfl rfl rfl ?_;refine Cov.gu_off rfl rfl ?_;refine Cov.gu_off rfl rfl ?_;refine Cov.gu_off rfl rfl ?_;refine Cov.gu_off rfl rfl ?_;refine Cov.gu_off rfl rfl ?_;refine Cov.gu_off rfl rfl ?_
    refine Cov.gu_off rfl rfl ?_;refine Cov.g_off rfl rfl rfl ?_;refine Cov.q .ro (.pick_t rfl rfl) rfl ?_
    refine Cov.prune _ ?_ (Cov.same rfl rfl rfl (hb103 () trivial))
    exact ⟨sval r112, rfl, rfl, rfl, rfl, trivial⟩
   ·have r113 := ifBF h105 c102
    refine Cov.g_on rfl ?_;refine Cov.q .ro (.move rfl) rfl ?_;refine Cov.g_on rfl ?_;refine Cov.q .ro (.gtr rfl rfl) rfl ?_;refine Cov.g_on rfl ?_;refine Cov.q .ro (.move rfl) rfl ?_
    obtain ⟨u121, h122, r123⟩ := bind_some r113; clear r113
    refine Cov.cutR 8 (β := Unit) (fun y => [(26, .bool u121)]) [(7, _), (0, _), (5, _), (6, _), (15, _), (16, _), (17, _)] (fun y => G :: Fs) (fun y => []) [] (fun y => []) [] (fun y => True) ⟨rfl, rfl, rfl, rfl, rfl, rfl, rfl, trivial⟩ [] rfl [] rfl ?_ ?_
    ·rintro _ _
     refine Cov.prune [(26, .bool u121), (7, _), (0, _), (5, _), (6, _), (15, _), (16, _), (17, _)] ⟨rfl, rfl, rfl, rfl, rfl, rfl, rfl, rfl, trivial⟩ ?_;refine Cov.same (bl' := []) (sl' := []) (Fs' := G :: Fs) rfl rfl rfl ?_;refine Cov.q .ro (.pick_f rfl rfl) rfl ?_
     refine Cov.prune _ ?_ (Cov.same rfl rfl rfl (hb103 () trivial))
     exact ⟨sval r123, rfl, rfl, rfl, rfl, trivial⟩
    ·intro hb120
     refine Cov.split 18 rfl (fun c119 => ?_) (fun c119 => ?_)
     ·have r126 := ifT h122 c119
      refine Cov.g_on rfl ?_;refine Cov.q .ro (.move rfl) rfl ?_;refine Cov.g_on rfl ?_;refine Cov.q .ro (.move rfl) rfl ?_;refine Cov.g_on rfl ?_;refine Cov.q .ro (.move rfl) rfl ?_;refine Cov.g_on rfl ?_;refine Cov.q .ro (.subw rfl rfl) rfl ?_;refine Cov.g_on rfl ?_
      obtain ⟨u127, hu127, r128⟩ := bind_some r126; clear r126
      obtain ⟨c129, p130, h131⟩ := SlR.get s0 hu127
      obtain rfl := h131
      refine Cov.q .ro (.idxR s0 rfl rfl hu127 sl35 ty9.sz) rfl ?_;refine Cov.g_on rfl ?_;refine Cov.q .ro (.load_rp p130 List.mem_cons_self rfl ty9 rfl) rfl ?_;refine Cov.g_on rfl ?_;refine Cov.q .ro (.leq_d rfl rfl) rfl ?_;refine Cov.g_on rfl ?_;refine Cov.q .ro (.pick_t rfl rfl) rfl ?_
      refine Cov.prune _ ?_ (Cov.same rfl rfl rfl (hb120 () trivial))
      exact ⟨sval r128, rfl, rfl, rfl, rfl, rfl, rfl, rfl, trivial⟩
     ·have r132 := ifF h122 c119
      refine Cov.g_off rfl rfl rfl ?_;refine Cov.g_off rfl rfl rfl ?_;refine Cov.g_off rfl rfl rfl ?_;refine Cov.g_off rfl rfl rfl ?_;refine Cov.g_off rfl rfl rfl ?_;refine Cov.g_off rfl rfl rfl ?_;refine Cov.g_off rfl rfl rfl ?_;refine Cov.g_on rfl ?_;refine Cov.q .ro (.pick_f rfl rfl) rfl ?_
      refine Cov.prune _ ?_ (Cov.same rfl rfl rfl (hb120 () trivial))
      exact ⟨sval r132, rfl, rfl, rfl, rfl, rfl, rfl, rfl, trivial⟩
set_option maxHeartbeats 4000000 in
set_option maxRecDepth 100000 in
theorem fence_Check_c {Fs : List Hp} {G : Hp} {x0_0 : Int} {a0_1 : Option Addr} {k0_1 : Nat} {x0_1 : List ByteArray} {r : Int} (hG : G ∈ Fs) (s0_1 : SlR Rep.str G a0_1 k0_1 x0_1) (h : fence_Check (x0_0, x0_1) = some r) : RetS Try.prog 44 #[.agg #[.int .i64 x0_0, .slice a0_1 x0_1.length k0_1]] Fs [] [] (fun v bo so => v = .int .i64 r ∧ bo = [] ∧ so = []) := by
 unfold fence_Check at h
 try dsimp only at h
 refine RetS.of (vs := [_]) Try.func44 rfl Try.ntmps44 [(0, _)] ⟨rfl, trivial⟩ rfl hG fun w0 S0 hS0 B0 => ?_
 refine Cov.seq ?_;refine Cov.region rfl ?_
 refine Cov.box [_, _] .ro rfl rfl rfl (fun b1 hb1 => ?_)
 refine Cov.q .ro (.assign rfl) rfl ?_;refine Cov.region_end ?_;refine Cov.seq ?_;refine Cov.seq ?_;refine Cov.region rfl ?_;refine Cov.q .ro (.fieldAddr 0 rfl fl37_0 ty3.sz rfl) rfl ?_;refine Cov.q .ro (.load_own 0 rfl rfl ty3 rfl) rfl ?_
 obtain ⟨u2, hu2, r3⟩ := bind_some h; clear h
 refine Cov.callS (b1 := []) (b2 := [_]) (s1 := []) [_] [] .ro rfl rfl Try.call64 rfl rfl (fence_sized_c (G := G) List.mem_cons_self  hu2) rfl (fun v5 bo so h4 => ?_)
 obtain ⟨rfl, rfl, rfl⟩ := h4
 refine Cov.same (bl' := [_]) (sl' := []) rfl rfl rfl ?_;refine Cov.q .ro (.not rfl) rfl ?_;refine Cov.q .ro (.move rfl) rfl ?_;refine Cov.cutR 5 (β := Unit) (fun y => [(12, .bool (decide (((!u2) = true) ∨ ((x0_1.length : Int) < 1))))]) [(1, _)] (fun y => G :: Fs) (fun y => []) [_] (fun y => []) [] (fun y => True) ⟨rfl, trivial⟩ [0] rfl [] rfl ?_ ?_
 ·rintro _ _
  refine Cov.prune [(12, .bool (decide (((!u2) = true) ∨ ((x0_1.length : Int) < 1)))), (1, _)] ⟨rfl, rfl, trivial⟩ ?_;refine Cov.same (bl' := [_]) (sl' := []) (Fs' := G :: Fs) rfl rfl rfl ?_;refine Cov.q .ro (.move rfl) rfl ?_;refine Cov.cutR 5 (β := Unit) (fun y => [(18, .bool (decide ((((!u2) = true) ∨ ((x0_1.length : Int) < 1)) ∨ (256 < (x0_1.length : Int)))))]) [(1, _)] (fun y => G :: Fs) (fun y => []) [_] (fun y => []) [] (fun y => True) ⟨rfl, trivial⟩ [0] rfl [] rfl ?_ ?_
  ·rintro _ _
   refine Cov.prune [(18, .bool (decide ((((!u2) = true) ∨ ((x0_1.length : Int) < 1)) ∨ (256 < (x0_1.length : Int))))), (1, _)] ⟨rfl, rfl, trivial⟩ ?_;refine Cov.same (bl' := [_]) (sl' := []) (Fs' := G :: Fs) rfl rfl rfl ?_;refine Cov.q .ro (.move rfl) rfl ?_
   obtain ⟨u20, h21, r22⟩ := bind_some r3; clear r3
   refine Cov.cutR 5 (β := Unit) (fun y => [(24, .bool u20)]) [] (fun y => G :: Fs) (fun y => []) [_] (fun y => []) [] (fun y => True) trivial [0] rfl [] rfl ?_ ?_
   ·rintro _ _
    refine Cov.prune [(24, .bool u20)] ⟨rfl, trivial⟩ ?_;refine Cov.same (bl' := [_]) (sl' := []) (Fs' := G :: Fs) rfl rfl rfl ?_;refine Cov.region_end ?_
    refine Cov.cond rfl (fun c25 => ?_) (fun c25 => ?_)
    ·have r26 := ifT r22 c25; clear r22
     refine Cov.seq ?_;refine Cov.region rfl ?_;refine Cov.q .ro (.assign rfl) rfl ?_;refine Cov.region_end ?_
     cases r26
     refine Cov.drop 1 0 [] _ rfl rfl ?_
     refine Cov.retS (c := ⟨44, none⟩) (.inr ⟨_, rfl⟩) [.tmp 2] [_] rfl Try.func44 Try.results44 ⟨RV.tmp rfl, trivial⟩ (fun _ h => List.mem_cons_of_mem _ h) ⟨rfl, rfl, rfl⟩
    ·have r27 := ifBF r22 c25; clear r22
     refine Cov.skip ?_;refine Cov.seq ?_;refine Cov.region rfl ?_;refine Cov.q .ro (.assign rfl) rfl ?_;refine Cov.region_end ?_
     cases r27
     refine Cov.drop 1 0 [] _ rfl rfl ?_
     refine Cov.retS (c := ⟨44, none⟩) (.inr ⟨_, rfl⟩) [.tmp 2] [_] rfl Try.func44 Try.results44 ⟨RV.tmp rfl, trivial⟩ (fun _ h => List.mem_cons_of_mem _ h) ⟨rfl, rfl, rfl⟩
   ·intro hb19
    refine Cov.split 19 rfl (fun c18 => ?_) (fun c18 => ?_)
    ·have r28 := ifT h21 c18
     refine Cov.g_off rfl rfl rfl ?_;refine Cov.g_off rfl rfl rfl ?_;refine Cov.g_off rfl rfl rfl ?_;refine Cov.g_off rfl rfl rfl ?_;refine Cov.q .ro (.pick_t rfl rfl) rfl ?_
     refine Cov.prune _ ?_ (Cov.same rfl rfl rfl (hb19 () trivial))
     exact ⟨sval r28, trivial⟩
    ·have r29 := ifF h21 c18
     refine Cov.g_on rfl ?_;refine Cov.q .ro (.fieldAddr 1 rfl fl37_1 ty35.sz rfl) rfl ?_;refine Cov.g_on rfl ?_;refine Cov.q .ro (.load_own 0 rfl rfl ty35 rfl) rfl ?_;refine Cov.g_on rfl ?_
     obtain ⟨u30, hu30, r31⟩ := bind_some r29; clear r29
     refine Cov.callS (b1 := []) (b2 := [_]) (s1 := []) [_] [] .ro rfl rfl Try.call65 rfl rfl (fence_ascend_c (G := G) List.mem_cons_self s0_1 hu30) rfl (fun v33 bo so h32 => ?_)
     obtain ⟨rfl, rfl, rfl⟩ := h32
     refine Cov.same (bl' := [_]) (sl' := []) rfl rfl rfl ?_;refine Cov.g_on rfl ?_;refine Cov.q .ro (.not rfl) rfl ?_;refine Cov.q .ro (.pick_f rfl rfl) rfl ?_
     refine Cov.prune _ ?_ (Cov.same rfl rfl rfl (hb19 () trivial))
     exact ⟨sval r31, trivial⟩
  ·intro hb11
   refine Cov.split 13 rfl (fun c10 => ?_) (fun c10 => ?_)
   ·refine Cov.g_off rfl rfl rfl ?_
    refine Cov.g_off rfl rfl rfl ?_;refine Cov.g_off rfl rfl rfl ?_;refine Cov.g_off rfl rfl rfl ?_;refine Cov.q .ro (.pick_t rfl rfl) rfl ?_
    refine Cov.prune _ ?_ (Cov.same rfl rfl rfl (hb11 () trivial))
    exact ⟨dor_t c10, rfl, trivial⟩
   ·refine Cov.g_on rfl ?_
    refine Cov.q .ro (.fieldAddr 1 rfl fl37_1 ty35.sz rfl) rfl ?_;refine Cov.g_on rfl ?_;refine Cov.q .ro (.load_own 0 rfl rfl ty35 rfl) rfl ?_;refine Cov.g_on rfl ?_;refine Cov.q .ro (.len_sl rfl rfl sl35) rfl ?_;refine Cov.g_on rfl ?_;refine Cov.q .ro (.gtr rfl rfl) rfl ?_;refine Cov.q .ro (.pick_f rfl rfl) rfl ?_
    refine Cov.prune _ ?_ (Cov.same rfl rfl rfl (hb11 () trivial))
    exact ⟨dor_f c10, rfl, trivial⟩
 ·intro hb7
  refine Cov.split_b 7 rfl (fun c6 => ?_) (fun c6 => ?_)
  ·refine Cov.g_off rfl rfl rfl ?_
   refine Cov.g_off rfl rfl rfl ?_;refine Cov.g_off rfl rfl rfl ?_;refine Cov.g_off rfl rfl rfl ?_;refine Cov.q .ro (.pick_t rfl rfl) rfl ?_
   refine Cov.prune _ ?_ (Cov.same rfl rfl rfl (hb7 () trivial))
   exact ⟨dor_t c6, rfl, trivial⟩
  ·refine Cov.g_on rfl ?_
   refine Cov.q .ro (.fieldAddr 1 rfl fl37_1 ty35.sz rfl) rfl ?_;refine Cov.g_on rfl ?_;refine Cov.q .ro (.load_own 0 rfl rfl ty35 rfl) rfl ?_;refine Cov.g_on rfl ?_;refine Cov.q .ro (.len_sl rfl rfl sl35) rfl ?_;refine Cov.g_on rfl ?_;refine Cov.q .ro (.lss rfl rfl) rfl ?_;refine Cov.q .ro (.pick_f rfl rfl) rfl ?_
   refine Cov.prune _ ?_ (Cov.same rfl rfl rfl (hb7 () trivial))
   exact ⟨dor_f (bne_of c6), rfl, trivial⟩
set_option maxHeartbeats 4000000 in
set_option maxRecDepth 100000 in
theorem slices_Clone_Lstringstring_c {Fs : List Hp} {G : Hp} {a0 : Option Addr} {k0 : Nat} {x0 : List ByteArray} {r : (List ByteArray)} (hG : G ∈ Fs) (s0 : SlR Rep.str G a0 k0 x0) (h : slices_Clone_Lstringstring x0 = some r) : RetS Try.prog 67 #[.slice a0 x0.length k0] Fs [] [] (fun v bo so => ∃ (oa0 : Option Addr) (ok0 : Nat) (oc0 : List Value), v = .slice oa0 r.length ok0 ∧ bo = [] ∧ so = [.s (.slice oa0 r.length ok0) 9 1 r.length oc0] ∧ OL Rep.str G oc0 r) := by
 unfold slices_Clone_Lstringstring at h
 try dsimp only at h
 refine RetS.of (vs := [_]) Try.func67 rfl Try.ntmps67 [(0, _)] ⟨rfl, trivial⟩ rfl hG fun w0 S0 hS0 B0 => ?_
 refine Cov.seq ?_;refine Cov.region rfl ?_;refine Cov.q .ro (.assign rfl) rfl ?_;refine Cov.region_end ?_;refine Cov.seq ?_;refine Cov.seq ?_;refine Cov.region rfl ?_;refine Cov.q .ro (.move rfl) rfl ?_;refine Cov.q .ro (.eqnil Try.underlying35 rfl rfl) rfl ?_
 refine Cov.region_end ?_
 refine Cov.cond rfl (fun c1 => ?_) (fun _ => ?_)
 ·have h2 := SlR.isnil s0 c1
  refine Cov.seq ?_;refine Cov.region rfl ?_;refine Cov.q .ro (.assign rfl) rfl ?_;refine Cov.region_end ?_;refine Cov.own_nil 9 1 ?_
  obtain rfl := nil_clone h2 h
  refine Cov.retS (c := ⟨67, none⟩) (.inr ⟨_, rfl⟩) [.tmp 2] [_] rfl Try.func67 Try.results67 ⟨RV.tmp rfl, trivial⟩ (fun _ h => List.mem_cons_of_mem _ h) ⟨none, 0, [], rfl, rfl, rfl, (OL.nil (Rp' := Rep.str))⟩
 ·refine Cov.skip ?_
  refine Cov.seq ?_;refine Cov.region rfl ?_
  refine Cov.lit [] [] .ro sl35 ty9 rfl rfl rfl rfl rfl rfl (fun b4 hb4 => ?_)
  have o5 : OL Rep.str G [] ([] : List ByteArray) := ((OL.nil (Rp' := Rep.str)) :)
  refine Cov.reval 5 (n' := ([] : List ByteArray).length) rfl rfl ?_;refine Cov.q .ro (.move rfl) rfl ?_
  obtain ⟨u11, hu11, r12⟩ := bind_some h; clear h
  refine Cov.appR (Q := Rep.str) 0 .ro sl35 ty9 rfl rfl rfl rfl rfl o5 rfl rfl s0 rfl List.mem_cons_self hu11 rfl (fun a7 k8 cs9 o10 => ?_)
  refine Cov.q .ro (.assign rfl) rfl ?_;refine Cov.region_end ?_
  cases r12
  refine Cov.retS (c := ⟨67, none⟩) (.inr ⟨_, rfl⟩) [.tmp 2] [_] rfl Try.func67 Try.results67 ⟨RV.tmp rfl, trivial⟩ (fun _ h => List.mem_cons_of_mem _ h) ⟨a7, k8, cs9, rfl, rfl, rfl, o10⟩
set_option maxHeartbeats 4000000 in
set_option maxRecDepth 100000 in
theorem slices_Chunk_Lstringstring_f1_i {Fs : List Hp} {G : Hp} {p1 : Value} {a1 : Option Addr} {k1 : Nat} {x1 : List ByteArray} {p2 : Value} {x2 : Int} {l : (List (List ByteArray))} (hG : G ∈ Fs) (hp1 : Rp G p1 [.slice a1 x1.length k1]) (s1 : SlR Rep.str G a1 k1 x1) (hp2 : Rp G p2 [.int .i64 x2]) (h : slices_Chunk_Lstringstring_f1 x1 x2 = some l) : IterX Try.prog 79 [p1, p2] Fs l.length (fun i v => ∃ x, l[i]? = some x ∧ (Yr.v (Rep.sl Rep.str)).r G v x) := by
 unfold slices_Chunk_Lstringstring_f1 at h
 try dsimp only at h
 intro y 𝒢 ℰ R0 hy hR0
 refine RetG.of (vs := [_, _, _]) Try.func79 rfl Try.ntmps79 [(0, _), (1, _), (2, _)] ⟨rfl, rfl, rfl, trivial⟩ rfl fun w0 => Cov.dup hG ?_
 have B0 : Bd w0 (blks [] [.g R0]) Fs G := Bd.fin hG
 generalize hS0 : blks [] [.g R0] = S0 at B0 ⊢
 replace h : _ = some (List.drop 0 l) := h
 refine Cov.seq ?_;refine Cov.region rfl ?_;refine Cov.q .ro (.assign rfl) rfl ?_;refine Cov.region_end ?_;refine Cov.block ?_
 refine Cov.loop2 (α := Nat × Guest × Nat × Int) (fun y => [(4, .int .i64 y.2.2.2)]) [(0, _), (1, _), (2, _)] (fun y => []) (fun y => []) [] (fun y => [.g y.2.1]) [] (fun y => 𝒢 y.2.2.1 y.2.1 ∧ y.2.2.1 ≤ l.length ∧ slices_Chunk_Lstringstring_f1_L1 x1 x2 y.1 y.2.2.2 = some (List.drop y.2.2.1 l)) (fun y => y.1) (big, R0, 0, 0) ⟨hR0, (Nat.zero_le _), h⟩ ⟨rfl, rfl, rfl, rfl, trivial⟩ rfl rfl rfl (fun y hI hb32 => ?_)
 obtain ⟨n24, R26, i27, v30⟩ := y
 obtain ⟨hR28, le29, r31⟩ := hI
 try dsimp only at hR28 le29 r31
 refine Cov.prune [(4, .int .i64 v30), (0, _), (1, _), (2, _)] ⟨rfl, rfl, rfl, rfl, trivial⟩ ?_;refine Cov.same (bl' := []) (sl' := [.g R26]) (Fs' := G :: Fs) rfl rfl rfl ?_
 obtain ⟨m36, rfl⟩ : ∃ m, n24 = m + 1 := by cases n24 with | zero => exact absurd (show (none : Option _) = some _ from r31) (by simp) | succ m => exact ⟨m, rfl⟩
 have r35 : slices_Chunk_Lstringstring_f1_B1 x1 x2 (slices_Chunk_Lstringstring_f1_L1 x1 x2 m36) v30 = some (List.drop i27 l) := r31; clear r31; unfold slices_Chunk_Lstringstring_f1_B1 at r35; try dsimp only at r35
 refine Cov.seq ?_;refine Cov.seq ?_;refine Cov.region rfl ?_;refine Cov.q .ro (.move rfl) rfl ?_;refine Cov.q .ro (.load_rp hp1 List.mem_cons_self rfl ty35 rfl) rfl ?_;refine Cov.q .ro (.len_sl rfl rfl sl35) rfl ?_;refine Cov.q .ro (.lss rfl rfl) rfl ?_;refine Cov.region_end ?_
 refine Cov.cond_dec rfl (fun c37 => ?_) (fun c37 => ?_)
 ·have r38 := ifT r35 c37; clear r35
  refine Cov.skip ?_;refine Cov.seq ?_;refine Cov.block ?_;refine Cov.seq ?_;refine Cov.drawL (.q 0 (.q 1 (.q 2 (.q 3 (.q 4 (.q 5 (.q 6 .nil))))))) [] (by kernel_rfl) (by kernel_rfl) (pick_mem [] rfl) ?_;refine Cov.dq (.load_rp hp2 List.mem_cons_self rfl ty3 rfl) rfl ?_;refine Cov.dq (.load_rp hp1 List.mem_cons_self rfl ty35 rfl) rfl ?_;refine Cov.dq (.move rfl) rfl ?_
  obtain ⟨u39, hu39, r40⟩ := bind_some r38; clear r38
  obtain ⟨a41, k42, h43, s44⟩ := SlR.sub s1 hu39
  refine Cov.dq (.sliceR s1 rfl hu39 sl35 ty9.sz (fun h => .yes' rfl h) (fun _ => .no) h43) rfl ?_;refine Cov.dq (.len_sl rfl rfl sl35) rfl ?_;refine Cov.dq (.min2 rfl rfl) rfl ?_;refine Cov.dq (.assign rfl) rfl ?_;refine Cov.draw_end ?_;refine Cov.seq ?_;refine Cov.region rfl ?_;refine Cov.q .ro (.move rfl) rfl ?_;refine Cov.q .ro (.load_rp hp1 List.mem_cons_self rfl ty35 rfl) rfl ?_
  refine Cov.q .ro (.move rfl) rfl ?_;refine Cov.q .ro (.move rfl) rfl ?_;refine Cov.q .ro (.move rfl) rfl ?_;refine Cov.q .ro (.addw rfl rfl) rfl ?_;refine Cov.q .ro (.move rfl) rfl ?_;refine Cov.q .ro (.move rfl) rfl ?_;refine Cov.q .ro (.addw rfl rfl) rfl ?_
  obtain ⟨u45, hu45, r46⟩ := bind_some r40; clear r40
  obtain ⟨a47, k48, h49, s50⟩ := SlR.sub3 s1 hu45
  refine Cov.q .ro (.sliceR3 s1 rfl hu45 sl35 ty9.sz rfl rfl rfl h49) rfl ?_
  obtain ⟨h51, r52⟩ := yc_some r46; clear r46
  refine Cov.yieldX hy ⟨_, h51, ⟨_, rfl, ((Rep.slI s50) :)⟩⟩ hR28 (fun _ h => List.mem_cons_of_mem _ h) rfl rfl rfl (fun R53 hR54 => ?_) (fun R55 hE56 => ?_)
  ·refine Cov.q .ro (.not_t rfl) rfl ?_
   refine Cov.region_end ?_;refine Cov.prune [(4, _), (0, _), (1, _), (2, _), (30, _)] ⟨rfl, rfl, rfl, rfl, rfl, trivial⟩ ?_;refine Cov.cond_false rfl ?_;refine Cov.skip ?_;refine Cov.inBlock ?_;refine Cov.region rfl ?_;refine Cov.q .ro (.move rfl) rfl ?_;refine Cov.q .ro (.load_rp hp2 List.mem_cons_self rfl ty3 rfl) rfl ?_;refine Cov.q .ro (.addw rfl rfl) rfl ?_
   refine Cov.q .ro (.assign rfl) rfl ?_;refine Cov.region_end ?_
   refine Cov.prune _ ?_ (Cov.same rfl rfl rfl (hb32 (m36, R53, (i27 + 1), (w64 (v30 + x2))) ⟨hR54, (yc_le h51), r52⟩ (Nat.lt_succ_self _)))
   exact ⟨rfl, rfl, rfl, rfl, trivial⟩
  ·refine Cov.q .ro (.not_f rfl) rfl ?_
   refine Cov.region_end ?_;refine Cov.prune [(4, _), (0, _), (1, _), (2, _), (30, _)] ⟨rfl, rfl, rfl, rfl, rfl, trivial⟩ ?_;refine Cov.cond_true rfl ?_
   refine Cov.leave (c := ⟨79, none⟩) (.inr ⟨_, rfl⟩) [] [] rfl Try.func79 Try.results79 trivial (fun _ h => List.mem_cons_of_mem _ h) (.inl rfl) (fresh_emp _) ⟨rfl, R55, .inr hE56, rfl⟩
 ·have r57 := ifF r35 c37; clear r35
  refine Cov.exit rfl ?_
  have hi := yc_end r57 le29
  refine Cov.leave (c := ⟨79, none⟩) (.inl rfl) [] [] rfl Try.func79 Try.results79 trivial (fun _ h => List.mem_cons_of_mem _ h) (.inl rfl) (fresh_emp _) ⟨rfl, R26, .inl (hi ▸ hR28), rfl⟩
set_option maxHeartbeats 4000000 in
set_option maxRecDepth 100000 in
theorem slices_Chunk_Lstringstring_c {Fs : List Hp} {G : Hp} {a0 : Option Addr} {k0 : Nat} {x0 : List ByteArray} {x1 : Int} {r : (List (List ByteArray))} (hG : G ∈ Fs) (s0 : SlR Rep.str G a0 k0 x0) (h : slices_Chunk_Lstringstring x0 x1 = some r) : RetW Try.prog 68 #[.slice a0 x0.length k0, .int .i64 x1] Fs [] [] (fun v bo so G => ∃ (Fi0 : FuncId) (ci0 : List Value), v = .func (.func Fi0) #[] ci0.toArray ∧ bo = [] ∧ so = [] ∧ (∀ args w, (callFunc Fi0 args).run Try.prog w = .ok (.enter Fi0 args) w) ∧ IterRX Try.prog (Yr.v (Rep.sl Rep.str)) Fi0 ci0 G r) := by
 unfold slices_Chunk_Lstringstring at h
 try dsimp only at h
 refine RetW.of (vs := [_, _]) Try.func68 rfl Try.ntmps68 [(0, _), (1, _)] ⟨rfl, rfl, trivial⟩ rfl hG fun w0 S0 hS0 B0 => ?_
 refine Cov.seq ?_;refine Cov.region rfl ?_
 refine Cov.box [_] .ro rfl rfl rfl (fun b1 hb1 => ?_)
 refine Cov.box [_] .ro rfl rfl rfl (fun b2 hb2 => ?_)
 refine Cov.q .ro (.assign rfl) rfl ?_;refine Cov.region_end ?_;refine Cov.seq ?_;refine Cov.seq ?_;refine Cov.region rfl ?_;refine Cov.q .ro (.load_own 0 rfl rfl ty3 rfl) rfl ?_;refine Cov.q .ro (.lss rfl rfl) rfl ?_;refine Cov.region_end ?_;refine Cov.cutI (β := Unit) (fun y => []) [(2, _), (3, _)] (fun y => G :: Fs) (fun y => []) [_, _] (fun y => []) [] (fun y => (slices_Chunk_Lstringstring_J1 x1 x0)  = some r) ⟨rfl, rfl, trivial⟩ [0, 1] rfl [] rfl ?_ ?_
 ·intro _ hI
  have r8 := hI; clear hI
  refine Cov.prune [(2, _), (3, _)] ⟨rfl, rfl, trivial⟩ ?_;refine Cov.same (bl' := [_, _]) (sl' := []) (Fs' := G :: Fs) rfl rfl rfl ?_
  unfold slices_Chunk_Lstringstring_J1 at r8
  try dsimp only at r8
  refine Cov.seq ?_;refine Cov.region rfl ?_;refine Cov.q .ro (.makeFunc (vf := []) (vc := [_, _]) rfl rfl) rfl ?_;refine Cov.q .ro (.assign rfl) rfl ?_;refine Cov.region_end ?_
  refine Cov.freezeBR 1 rfl [_] rfl B0 (fun G11 e12 B13 p14 => ?_)
  refine Cov.freezeBR 0 rfl [] rfl B13 (fun G16 e17 B18 p19 => ?_)
  obtain ⟨u21, hu21, r22⟩ := bind_some r8; clear r8
  cases r22
  refine Cov.retW (c := ⟨68, none⟩) (.inr ⟨_, rfl⟩) [.tmp 4] [_] rfl Try.func68 Try.results68 ⟨RV.tmp rfl, trivial⟩ (fun _ h => List.mem_cons_of_mem _ h) List.mem_cons_self B18 (by subst hS0; simp [blks]) (fun G' hg => ⟨_, _, rfl, rfl, rfl, Try.call79, (fun Fs' G1 hle hm => slices_Chunk_Lstringstring_f1_i (G := G1) hm (Rp.mono (HpLe.trans hg hle) (Rp.mono e17 p14)) (SlR.mono (HpLe.trans hg hle) (SlR.mono (HpLe.trans e12 e17) s0)) (Rp.mono (HpLe.trans hg hle) p19) hu21)⟩)
 ·intro hb23
  refine Cov.cond_dec rfl (fun c24 => ?_) (fun c24 => ?_)
  ·have r25 := ifT h c24; clear h
   refine Cov.region rfl ?_
   exact absurd r25 (by simp)
  ·have r26 := ifF h c24; clear h
   refine Cov.skip ?_
   refine Cov.prune _ ?_ (Cov.same rfl rfl rfl (hb23 () r26))
   exact ⟨rfl, rfl, trivial⟩
set_option maxHeartbeats 4000000 in
set_option maxRecDepth 100000 in
theorem fence_levels_c {Fs : List Hp} {G : Hp} {x0_0 : Int} {a0_1 : Option Addr} {k0_1 : Nat} {x0_1 : List ByteArray} {r : (List (List ByteArray))} (hG : G ∈ Fs) (s0_1 : SlR Rep.str G a0_1 k0_1 x0_1) (h : fence_levels (x0_0, x0_1) = some r) : RetW Try.prog 47 #[.agg #[.int .i64 x0_0, .slice a0_1 x0_1.length k0_1]] Fs [] [] (fun v bo so G => ∃ (oa0 : Option Addr) (ok0 : Nat) (oc0 : List Value), v = .slice oa0 r.length ok0 ∧ bo = [] ∧ so = [.s (.slice oa0 r.length ok0) 35 1 r.length oc0] ∧ OL (Rep.sl Rep.str) G oc0 r) := by
 unfold fence_levels at h
 try dsimp only at h
 refine RetW.of (vs := [_]) Try.func47 rfl Try.ntmps47 [(0, _)] ⟨rfl, trivial⟩ rfl hG fun w0 S0 hS0 B0 => ?_
 refine Cov.marks0 ?_;refine Cov.seq ?_;refine Cov.region rfl ?_
 refine Cov.box [_, _] .ro rfl rfl rfl (fun b1 hb1 => ?_)
 refine Cov.q .ro (.assign rfl) rfl ?_;refine Cov.region_end ?_;refine Cov.seq ?_;refine Cov.region rfl ?_;refine Cov.q .ro (.fieldAddr 1 rfl fl37_1 ty35.sz rfl) rfl ?_;refine Cov.q .ro (.load_own 0 rfl rfl ty35 rfl) rfl ?_
 obtain ⟨u2, hu2, r3⟩ := bind_some h; clear h
 refine Cov.callS (b1 := []) (b2 := [_]) (s1 := []) [_] [] .ro rfl rfl Try.call67 rfl rfl (slices_Clone_Lstringstring_c (G := G) List.mem_cons_self s0_1 hu2) rfl (fun v5 bo so h4 => ?_)
 obtain ⟨a7, k8, cs9, rfl, rfl, rfl, o10⟩ := h4
 refine Cov.same (bl' := [_]) (sl' := [_, _]) rfl rfl rfl ?_
 refine Cov.freezeR 0 rfl rfl o10 [_] rfl B0 (fun G11 e12 B13 s14 => ?_)
 refine Cov.lit [_] [(0, _)] .ro sl49 ty35 rfl rfl rfl rfl rfl rfl (fun b16 hb16 => ?_)
 have o17 : OL (Rep.sl Rep.str) G11 [.slice a7 u2.length k8] ([u2] : List (List ByteArray)) := ((OL.cons rfl (Rep.slI s14) (OL.nil (Rp' := (Rep.sl Rep.str)))) :)
 refine Cov.reval 10 (n' := ([u2] : List (List ByteArray)).length) rfl rfl ?_;refine Cov.q .ro (.assign rfl) rfl ?_;refine Cov.region_end ?_;refine Cov.seq ?_;refine Cov.seq ?_;refine Cov.region rfl ?_;refine Cov.q .ro (.fieldAddr 1 rfl fl37_1 ty35.sz rfl) rfl ?_;refine Cov.q .ro (.load_own 0 rfl rfl ty35 rfl) rfl ?_;refine Cov.q .ro (.assign rfl) rfl ?_
 refine Cov.region_end ?_;refine Cov.block ?_;refine Cov.pullS 1 rfl [_, _] rfl ?_
 refine Cov.loopD (β := Nat × Hp × MK × List (List ByteArray) × Option Addr × Nat × List Value × List ByteArray × Option Addr × Nat) (fun y => mks y.2.2.1.1) (fun y => [(3, .slice y.2.2.2.2.1 y.2.2.2.1.length y.2.2.2.2.2.1), (4, .slice y.2.2.2.2.2.2.2.2.1 y.2.2.2.2.2.2.2.1.length y.2.2.2.2.2.2.2.2.2)]) [(1, _)] (fun y => [y.2.1]) (fun y => []) [_] (fun y => [.g (marksG y.2.2.1), .s (.slice y.2.2.2.2.1 y.2.2.2.1.length y.2.2.2.2.2.1) 35 1 y.2.2.2.1.length y.2.2.2.2.2.2.1]) [] (fun y => HpLe G11 y.2.1 ∧ Bd w0 S0 Fs y.2.1 ∧ OL (Rep.sl Rep.str) y.2.1 y.2.2.2.2.2.2.1 y.2.2.2.1 ∧ SlR Rep.str y.2.1 y.2.2.2.2.2.2.2.2.1 y.2.2.2.2.2.2.2.2.2 y.2.2.2.2.2.2.2.1 ∧ fence_levels_L3 x0_0 y.1 y.2.2.2.1 y.2.2.2.2.2.2.2.1 = some r) (fun y => y.1) (big, G11, mk0, ([u2] : List (List ByteArray)), (some ⟨b16, 0, none⟩), 1, [.slice a7 u2.length k8], x0_1, a0_1, k0_1) ⟨(HpLe.refl _), B13, o17, (SlR.mono e12 s0_1), r3⟩ rfl ⟨rfl, rfl, rfl, trivial⟩ rfl rfl rfl (fun y hI hb272 => ?_)
 obtain ⟨n254, G256, mk260, v261, a262, k263, cs264, v267, a268, k269⟩ := y
 obtain ⟨e257, B258, o265, s270, r271⟩ := hI
 try dsimp only at e257 B258 o265 s270 r271
 refine Cov.prune [(3, .slice a262 v261.length k263), (4, .slice a268 v267.length k269), (1, _)] ⟨rfl, rfl, rfl, trivial⟩ ?_;refine Cov.same (bl' := [_]) (sl' := [.g (marksG mk260), .s (.slice a262 v261.length k263) 35 1 v261.length cs264]) (Fs' := G256 :: Fs) rfl rfl rfl ?_
 obtain ⟨m276, rfl⟩ : ∃ m, n254 = m + 1 := by cases n254 with | zero => exact absurd (show (none : Option _) = some _ from r271) (by simp) | succ m => exact ⟨m, rfl⟩
 have r275 : fence_levels_B3 x0_0 (fence_levels_L3 x0_0 m276) v261 v267 = some r := r271; clear r271; unfold fence_levels_B3 at r275; try dsimp only at r275
 refine Cov.seq ?_;refine Cov.seq ?_;refine Cov.region rfl ?_;refine Cov.q .ro (.move rfl) rfl ?_;refine Cov.q .ro (.len_sl rfl rfl sl35) rfl ?_;refine Cov.q .ro (.fieldAddr 0 rfl fl37_0 ty3.sz rfl) rfl ?_;refine Cov.q .ro (.load_own 0 rfl rfl ty3 rfl) rfl ?_;refine Cov.q .ro (.gtr rfl rfl) rfl ?_;refine Cov.region_end ?_
 refine Cov.cond_dec rfl (fun c277 => ?_) (fun c277 => ?_)
 ·have r278 := ifT r275 c277; clear r275
  refine Cov.skip ?_;refine Cov.block ?_;refine Cov.seq ?_;refine Cov.region rfl ?_
  refine Cov.alloc .ro ty35 rfl (fun b279 hb279 => ?_)
  refine Cov.region_end ?_;refine Cov.seq ?_;refine Cov.seq ?_;refine Cov.region rfl ?_;refine Cov.q .ro (.move rfl) rfl ?_;refine Cov.q .ro (.fieldAddr 0 rfl fl37_0 ty3.sz rfl) rfl ?_;refine Cov.q .ro (.load_own 1 rfl rfl ty3 rfl) rfl ?_
  obtain ⟨u280, hu280, r281⟩ := bind_some r278; clear r278
  refine Cov.callW (b1 := []) (b2 := [_, _]) (s1 := []) [_, _] [] .ro rfl rfl Try.call68 rfl rfl (slices_Chunk_Lstringstring_c (G := G256) List.mem_cons_self s270 hu280) rfl B258 (fun v283 bo so G284 e285 B286 h282 => ?_)
  obtain ⟨F288, c289, rfl, rfl, rfl, hc290, hi291⟩ := h282
  refine Cov.same (bl' := [_, _]) (sl' := [_, _]) rfl rfl rfl ?_;refine Cov.region_end ?_;refine Cov.cutBD (β := MK × List ByteArray × Option Addr × Nat × List Value) (fun y => mks y.1.1) (fun y => []) [(3, _), (1, _), (5, _)] (fun y => G284 :: Fs) (fun y => [(b279, .cells #[.slice y.2.2.1 y.2.1.length y.2.2.2.1] 35 (0, 0))]) [_] (fun y => [.g (marksG y.1), .s (.slice y.2.2.1 y.2.1.length y.2.2.2.1) 9 1 y.2.1.length y.2.2.2.2]) [_] (fun y => OL Rep.str G284 y.2.2.2.2 y.2.1 ∧ (fence_levels_J1 (fence_levels_L3 x0_0 m276) v261) y.2.1 = some r) ⟨rfl, rfl, rfl, trivial⟩ [1] rfl [1] rfl ?_ ?_
  ·intro y hI
   obtain ⟨mk385, v386, a387, k388, cs389⟩ := y
   obtain ⟨o390, r393⟩ := hI
   try dsimp only at o390 r393
   refine Cov.prune [(3, _), (1, _), (5, _)] ⟨rfl, rfl, rfl, trivial⟩ ?_;refine Cov.same (bl' := [(b279, .cells #[.slice a387 v386.length k388] 35 (0, 0)), _]) (sl' := [.g (marksG mk385), .s (.slice a387 v386.length k388) 9 1 v386.length cs389, _]) (Fs' := G284 :: Fs) rfl rfl rfl ?_
   unfold fence_levels_J1 at r393
   try dsimp only at r393
   refine Cov.drawL (.q 0 (.q 1 (.q 4 (.e 2 1 (.e 3 1 (.q 5 (.q 6 .nil))))))) [_, _] (by kernel_rfl) (by kernel_rfl) (pick_mem [0, 1] rfl) ?_;refine Cov.dq (.move rfl) rfl ?_;refine Cov.dq (.load_own 0 rfl rfl ty35 rfl) rfl ?_;refine Cov.dq (.load_own 0 rfl rfl ty35 rfl) rfl ?_
   refine Cov.freezeR 1 rfl rfl o390 [_, _] rfl B286 (fun G397 e398 B399 s400 => ?_)
   refine Cov.lit [_] [(0, _)] .d1 sl49 ty35 rfl rfl rfl rfl rfl rfl (fun b402 hb402 => ?_)
   have o403 : OL (Rep.sl Rep.str) G397 [.slice a387 v386.length k388] ([v386] : List (List ByteArray)) := ((OL.cons rfl (Rep.slI s400) (OL.nil (Rp' := (Rep.sl Rep.str)))) :)
   refine Cov.reval 31 (n' := ([v386] : List (List ByteArray)).length) rfl rfl ?_;refine Cov.clsL e398 (pick_mem [0, 1] rfl) ?_
   obtain ⟨u409, hu409, r410⟩ := bind_some r393; clear r393
   refine Cov.appO (Q := (Rep.sl Rep.str)) 1 .d1 sl49 ty35 rfl rfl rfl rfl rfl rfl (OL.mono (HpLe.trans e285 e398) o265) o403 rfl rfl rfl B399 hu409 rfl (fun a405 k406 cs407 o408 => ?_)
   refine Cov.clsL e398 (pick_mem [0, 1] rfl) ?_;refine Cov.dq (.assign rfl) rfl ?_;refine Cov.dq (.assign rfl) rfl ?_;refine Cov.draw_end ?_;refine Cov.inBlock ?_;refine Cov.drop 1 0 [_] _ rfl rfl ?_
   refine Cov.prune _ ?_ (Cov.same rfl rfl rfl (hb272 (m276, G397, mk385, u409, a405, k406, cs407, v386, a387, k388) ⟨(HpLe.trans (HpLe.trans e257 e285) e398), B399, o408, s400, r410⟩ (Nat.lt_succ_self _)))
   exact ⟨rfl, rfl, rfl, trivial⟩
  ·intro hb412
   refine Cov.block ?_;refine Cov.own_nil 9 1 ?_
   refine Cov.rangeX (α := List ByteArray × Option Addr × Nat × List Value) (β := Unit) (fun y => []) (fun y => [(b279, .cells #[.slice y.2.1 y.1.length y.2.2.1] 35 (0, 0))]) (fun y => [.s (.slice y.2.1 y.1.length y.2.2.1) 9 1 y.1.length y.2.2.2]) (fun _ => []) (fun _ => []) (fun _ => []) (fun _ => .skip) (fun i y => OL Rep.str G284 y.2.2.2 y.1 ∧ fence_levels_L2 (fence_levels_J1 (fence_levels_L3 x0_0 m276) v261) (List.drop i u280) y.1 = some r) (fun _ => False) (([] : List ByteArray), none, 0, [])  c289 rfl rfl hc290 rfl (by simp) rfl rfl (hi291 _ G284 (HpLe.refl _) List.mem_cons_self) (fun _ _ hv => by obtain ⟨_, _, hv⟩ := hv; exact (Yr.len _ hv).trans rfl) (by kernel_rfl) ⟨(OL.nil (Rp' := Rep.str)), r281⟩ ?_ ?_ (fun _ _ h => h.elim)
   ·intro l468 tm469 D470 i471 y v472 hV473 hI w475 S476 hw477
    obtain ⟨v460, a461, k462, cs463⟩ := y
    obtain ⟨o464, r467⟩ := hI
    try dsimp only at o464 r467
    obtain ⟨x478, h479, h480⟩ := hV473
    refine Cov.dup (G := G284) List.mem_cons_self ?_
    obtain ⟨v484, rfl, h485⟩ := h480
    obtain ⟨a481, k482, h486, s483⟩ := h485
    obtain ⟨rfl, _⟩ := List.cons.inj h486
    rw [drop_cons h479] at r467
    have r487 : fence_levels_B2 (fence_levels_J1 (fence_levels_L3 x0_0 m276) v261) (fence_levels_L2 (fence_levels_J1 (fence_levels_L3 x0_0 m276) v261) (List.drop (i471 + 1) u280)) x478 v460 = some r := r467; clear r467; unfold fence_levels_B2 at r487; try dsimp only at r487
    refine Cov.prune [(22, .slice a481 x478.length k482), (5, _)] ⟨rfl, rfl, trivial⟩ ?_;refine Cov.same (bl' := [(b279, .cells #[.slice a461 v460.length k462] 35 (0, 0)), _]) (sl' := [.s (.slice a461 v460.length k462) 9 1 v460.length cs463]) (Fs' := G284 :: (G284 :: Fs)) rfl rfl rfl ?_;refine Cov.region rfl ?_;refine Cov.q .ro (.assign rfl) rfl ?_;refine Cov.region_end ?_;refine Cov.beginRound 1 rfl rfl [_, _] rfl ?_;refine Cov.block ?_;refine Cov.drawL (.q 0 (.q 1 (.q 2 (.q 3 (.e 4 1 (.e 5 2 (.e 6 2 .nil))))))) [_, _] (by kernel_rfl) (by kernel_rfl) (pick_mem [0, 1] rfl) ?_;refine Cov.dq (.load_own 0 rfl rfl ty35 rfl) rfl ?_
    refine Cov.dq (.move rfl) rfl ?_
    obtain ⟨u488, hu488, r489⟩ := bind_some r487; clear r487
    obtain ⟨c490, p491, h492⟩ := SlR.get s483 hu488
    obtain rfl := h492
    refine Cov.dq (.idxR s483 rfl rfl hu488 sl35 ty9.sz) rfl ?_;refine Cov.dq (.load_rp p491 List.mem_cons_self rfl ty9 rfl) rfl ?_
    refine Cov.lit [_] [(0, _)] .d1 sl35 ty9 rfl rfl rfl rfl rfl rfl (fun b493 hb493 => ?_)
    have o494 : OL Rep.str G284 [.string u488] ([u488] : List ByteArray) := ((OL.cons rfl (Rep.strI u488) (OL.nil (Rp' := Rep.str))) :)
    refine Cov.reval 27 (n' := ([u488] : List ByteArray).length) rfl rfl ?_;refine Cov.clsL (HpLe.refl _) (pick_mem [0, 1] rfl) ?_
    obtain ⟨u500, hu500, r501⟩ := bind_some r489; clear r489
    refine Cov.appO (Q := Rep.str) 0 .d2 sl35 ty9 rfl rfl rfl rfl rfl rfl o464 o494 rfl rfl rfl (Bd.fin List.mem_cons_self) hu500 rfl (fun a496 k497 cs498 o499 => ?_)
    refine Cov.store 0 [_] [_, _] .d2 rfl rfl rfl ty35 rfl rfl rfl rfl ?_;refine Cov.draw_end ?_;refine Cov.inBlock ?_
    refine Cov.round_endX (u500, a496, k497, cs498) 1 rfl rfl ⟨o499, r501⟩ rfl rfl (fun F hF => List.mem_cons_of_mem _ hF) (by simp)
   ·intro q503 y hI hb504
    obtain ⟨v460, a461, k462, cs463⟩ := y
    obtain ⟨o464, r467⟩ := hI
    try dsimp only at o464 r467
    refine Cov.prune [(3, _), (1, _), (5, _)] ⟨rfl, rfl, rfl, trivial⟩ ?_;refine Cov.same (bl' := [(b279, .cells #[.slice a461 v460.length k462] 35 (0, 0)), _, _]) (sl' := [.s (.slice a461 v460.length k462) 9 1 v460.length cs463, _, _]) (Fs' := G284 :: Fs) rfl rfl rfl ?_;refine Cov.pullS 1 rfl [_, _, _] rfl ?_
    refine Cov.mkmerge 1 rfl [_, _] rfl (fun mk505 => ?_)
    rw [List.drop_length] at r467; rw [fence_levels_L2] at r467; try dsimp only at r467
    refine Cov.inBlock ?_
    refine Cov.prune _ ?_ (Cov.same rfl rfl rfl (hb412 (mk505, v460, a461, k462, cs463) ⟨o464, r467⟩))
    exact ⟨rfl, rfl, rfl, trivial⟩
 ·have r506 := ifF r275 c277; clear r275
  refine Cov.exit rfl ?_;refine Cov.seq ?_;refine Cov.region rfl ?_;refine Cov.q .ro (.move rfl) rfl ?_;refine Cov.q .ro (.assign rfl) rfl ?_;refine Cov.region_end ?_
  cases r506
  refine Cov.drop 1 0 [] _ rfl rfl ?_
  refine Cov.out (.inr ⟨_, rfl⟩) rfl (Cov.unmarkAll _ _ ?_)
  refine Cov.outW (c := ⟨47, none⟩) [.tmp 2] [_] Try.func47 Try.results47 ⟨RV.tmp rfl, trivial⟩ (fun _ h => List.mem_cons_of_mem _ h) List.mem_cons_self B258 (by subst hS0; simp [blks]) (fun G' hg => ⟨a262, k263, cs264, rfl, rfl, rfl, (OL.mono hg o265)⟩)
set_option maxHeartbeats 4000000 in
set_option maxRecDepth 100000 in
theorem fence_Levels_c {Fs : List Hp} {G : Hp} {x0_0 : Int} {a0_1 : Option Addr} {k0_1 : Nat} {x0_1 : List ByteArray} {r : ((List (List ByteArray)) × Int)} (hG : G ∈ Fs) (s0_1 : SlR Rep.str G a0_1 k0_1 x0_1) (h : fence_Levels (x0_0, x0_1) = some r) : RetW Try.prog 24 #[.agg #[.int .i64 x0_0, .slice a0_1 x0_1.length k0_1]] Fs [] [] (fun v bo so G => ∃ (oa0 : Option Addr) (ok0 : Nat) (oc0 : List Value), v = .tuple #[.slice oa0 r.1.length ok0, .int .i64 r.2] ∧ bo = [] ∧ so = [.s (.slice oa0 r.1.length ok0) 35 1 r.1.length oc0] ∧ OL (Rep.sl Rep.str) G oc0 r.1) := by
 unfold fence_Levels at h
 try dsimp only at h
 refine RetW.of (vs := [_]) Try.func24 rfl Try.ntmps24 [(0, _)] ⟨rfl, trivial⟩ rfl hG fun w0 S0 hS0 B0 => ?_
 refine Cov.seq ?_;refine Cov.region rfl ?_
 refine Cov.box [_, _] .ro rfl rfl rfl (fun b1 hb1 => ?_)
 refine Cov.q .ro (.assign rfl) rfl ?_;refine Cov.q .ro (.assign rfl) rfl ?_;refine Cov.region_end ?_;refine Cov.seq ?_;refine Cov.seq ?_;refine Cov.region rfl ?_;refine Cov.q .ro (.load_own_a 0 [_, _] rfl rfl ty37 rfl) rfl ?_
 obtain ⟨u2, hu2, r3⟩ := bind_some h; clear h
 refine Cov.callS (b1 := []) (b2 := [_]) (s1 := []) [_] [] .ro rfl rfl Try.call44 rfl rfl (fence_Check_c (G := G) List.mem_cons_self s0_1 hu2) rfl (fun v5 bo so h4 => ?_)
 obtain ⟨rfl, rfl, rfl⟩ := h4
 refine Cov.same (bl' := [_]) (sl' := []) rfl rfl rfl ?_;refine Cov.q .ro (.assign rfl) rfl ?_;refine Cov.region_end ?_;refine Cov.seq ?_;refine Cov.region rfl ?_;refine Cov.q .ro (.move rfl) rfl ?_;refine Cov.q .ro (.neq rfl rfl) rfl ?_;refine Cov.region_end ?_
 refine Cov.cond_dec rfl (fun c6 => ?_) (fun c6 => ?_)
 ·have r7 := ifT r3 c6; clear r3
  refine Cov.seq ?_;refine Cov.region rfl ?_;refine Cov.q .ro (.move rfl) rfl ?_;refine Cov.q .ro (.assign rfl) rfl ?_;refine Cov.q .ro (.assign rfl) rfl ?_;refine Cov.region_end ?_;refine Cov.own_nil 35 1 ?_
  cases r7
  refine Cov.drop 1 0 [] _ rfl rfl ?_
  refine Cov.retW (c := ⟨24, none⟩) (.inr ⟨_, rfl⟩) [.tmp 2, .tmp 3] [_, _] rfl Try.func24 Try.results24 ⟨RV.tmp rfl, RV.tmp rfl, trivial⟩ (fun _ h => List.mem_cons_of_mem _ h) List.mem_cons_self B0 (by subst hS0; simp [blks]) (fun G' hg => ⟨none, 0, [], rfl, rfl, rfl, (OL.mono hg (OL.nil (Rp' := (Rep.sl Rep.str))))⟩)
 ·have r9 := ifF r3 c6; clear r3
  refine Cov.skip ?_;refine Cov.seq ?_;refine Cov.region rfl ?_;refine Cov.q .ro (.load_own_a 0 [_, _] rfl rfl ty37 rfl) rfl ?_
  obtain ⟨u10, hu10, r11⟩ := bind_some r9; clear r9
  refine Cov.callW (b1 := []) (b2 := [_]) (s1 := []) [_] [] .ro rfl rfl Try.call47 rfl rfl (fence_levels_c (G := G) List.mem_cons_self s0_1 hu10) rfl B0 (fun v13 bo so G14 e15 B16 h12 => ?_)
  obtain ⟨a19, k20, cs21, rfl, rfl, rfl, o22⟩ := h12
  refine Cov.same (bl' := [_]) (sl' := [_]) rfl rfl rfl ?_;refine Cov.q .ro (.assign rfl) rfl ?_;refine Cov.q .ro (.assign rfl) rfl ?_;refine Cov.region_end ?_
  cases r11
  refine Cov.drop 1 0 [] _ rfl rfl ?_
  refine Cov.retW (c := ⟨24, none⟩) (.inr ⟨_, rfl⟩) [.tmp 2, .tmp 3] [_, _] rfl Try.func24 Try.results24 ⟨RV.tmp rfl, RV.tmp rfl, trivial⟩ (fun _ h => List.mem_cons_of_mem _ h) List.mem_cons_self B16 (by subst hS0; simp [blks]) (fun G' hg => ⟨a19, k20, cs21, rfl, rfl, rfl, (OL.mono hg o22)⟩)
set_option maxHeartbeats 4000000 in
set_option maxRecDepth 100000 in
theorem lookup_firsts_c {Fs : List Hp} {G : Hp} {a0 : Option Addr} {k0 : Nat} {x0 : List (List ByteArray)} {x1 : Int} {r : (List Int)} (hG : G ∈ Fs) (s0 : SlR (Rep.sl Rep.str) G a0 k0 x0) (h : lookup_firsts x0 x1 = some r) : RetS Try.prog 25 #[.slice a0 x0.length k0, .int .i64 x1] Fs [] [] (fun v bo so => ∃ (oa0 : Option Addr) (ok0 : Nat) (oc0 : List Value), v = .slice oa0 r.length ok0 ∧ bo = [] ∧ so = [.s (.slice oa0 r.length ok0) 3 1 r.length oc0] ∧ OL (Rep.int .i64) G oc0 r) := by
 unfold lookup_firsts at h
 try dsimp only at h
 refine RetS.of (vs := [_, _]) Try.func25 rfl Try.ntmps25 [(0, _), (1, _)] ⟨rfl, rfl, trivial⟩ rfl hG fun w0 S0 hS0 B0 => ?_
 refine Cov.seq ?_;refine Cov.region rfl ?_;refine Cov.q .ro (.assign rfl) rfl ?_;refine Cov.region_end ?_;refine Cov.seq ?_;refine Cov.region rfl ?_;refine Cov.q .ro (.move rfl) rfl ?_;refine Cov.q .ro (.len_sl rfl rfl sl49) rfl ?_
 obtain ⟨u1, hu1, r2⟩ := bind_some h; clear h
 refine Cov.makeR (G := G) (Q := (Rep.int .i64)) .ro sl39 ty3 rfl rfl rfl ((Rep.intI .i64 0) :) rfl rfl hu1 rfl rfl (fun b3 cs4 hb3 o5 => ?_)
 refine Cov.q .ro (.assign rfl) rfl ?_;refine Cov.region_end ?_;refine Cov.seq ?_;refine Cov.region rfl ?_;refine Cov.q .ro (.assign rfl) rfl ?_;refine Cov.region_end ?_;refine Cov.seq ?_;refine Cov.seq ?_;refine Cov.region rfl ?_
 refine Cov.q .ro (.move rfl) rfl ?_;refine Cov.q .ro (.len_sl rfl rfl sl49) rfl ?_;refine Cov.q .ro (.subw rfl rfl) rfl ?_;refine Cov.q .ro (.assign rfl) rfl ?_;refine Cov.region_end ?_;refine Cov.block ?_
 refine Cov.loop2 (α := Nat × Int × Int × List Int × Option Addr × Nat × List Value) (fun y => [(6, .int .i64 y.2.1), (7, .int .i64 y.2.2.1), (5, .slice y.2.2.2.2.1 y.2.2.2.1.length y.2.2.2.2.2.1)]) [(0, _), (1, _)] (fun y => []) (fun y => []) [] (fun y => [.s (.slice y.2.2.2.2.1 y.2.2.2.1.length y.2.2.2.2.2.1) 3 1 y.2.2.2.1.length y.2.2.2.2.2.2]) [] (fun y => OL (Rep.int .i64) G y.2.2.2.2.2.2 y.2.2.2.1 ∧ lookup_firsts_L1 x0 x1 y.1 y.2.1 y.2.2.1 y.2.2.2.1 = some r) (fun y => y.1) (big, 0, (w64 ((x0.length : Int) - 1)), u1, (some ⟨b3, 0, none⟩), u1.length, cs4) ⟨o5, r2⟩ ⟨rfl, rfl, rfl, rfl, rfl, trivial⟩ rfl rfl rfl (fun y hI hb44 => ?_)
 obtain ⟨n33, v35, v36, v37, a38, k39, cs40⟩ := y
 obtain ⟨o41, r43⟩ := hI
 try dsimp only at o41 r43
 refine Cov.prune [(6, .int .i64 v35), (7, .int .i64 v36), (5, .slice a38 v37.length k39), (0, _), (1, _)] ⟨rfl, rfl, rfl, rfl, rfl, trivial⟩ ?_;refine Cov.same (bl' := []) (sl' := [.s (.slice a38 v37.length k39) 3 1 v37.length cs40]) (Fs' := G :: Fs) rfl rfl rfl ?_
 obtain ⟨m48, rfl⟩ : ∃ m, n33 = m + 1 := by cases n33 with | zero => exact absurd (show (none : Option _) = some _ from r43) (by simp) | succ m => exact ⟨m, rfl⟩
 have r47 : lookup_firsts_B1 x0 x1 (lookup_firsts_L1 x0 x1 m48) v35 v36 v37 = some r := r43; clear r43; unfold lookup_firsts_B1 at r47; try dsimp only at r47
 refine Cov.seq ?_;refine Cov.seq ?_;refine Cov.region rfl ?_;refine Cov.q .ro (.move rfl) rfl ?_;refine Cov.q .ro (.geq rfl rfl) rfl ?_;refine Cov.region_end ?_
 refine Cov.cond_dec rfl (fun c49 => ?_) (fun c49 => ?_)
 ·have r50 := ifT r47 c49; clear r47
  refine Cov.skip ?_;refine Cov.seq ?_;refine Cov.block ?_;refine Cov.seq ?_;refine Cov.region rfl ?_;refine Cov.q .ro (.move rfl) rfl ?_;refine Cov.q .ro (.move rfl) rfl ?_;refine Cov.q .ro (.move rfl) rfl ?_
  obtain ⟨u51, hu51, r52⟩ := bind_some r50; clear r50
  obtain ⟨c53, p54, h55⟩ := OL.get o41 hu51
  obtain rfl := h55
  refine Cov.q .ro (.idxO 0 rfl rfl rfl hu51 sl39 ty3.sz) rfl ?_
  obtain ⟨u56, hu56, r57⟩ := bind_some r52; clear r52
  refine Cov.storeR 0 0 (Q := (Rep.int .i64)) .ro rfl rfl o41 hu56 rfl (.inl ⟨rfl, rfl⟩) rfl ty3 p54 ((Rep.intI .i64 v35) :) rfl rfl (fun cs58 hlcs58 o59 => ?_)
  refine Cov.reval 5 hlcs58 rfl ?_;refine Cov.reval 18 hlcs58 rfl ?_;refine Cov.region_end ?_;refine Cov.region rfl ?_;refine Cov.q .ro (.move rfl) rfl ?_;refine Cov.q .ro (.move rfl) rfl ?_;refine Cov.q .ro (.move rfl) rfl ?_
  obtain ⟨u61, hu61, r62⟩ := bind_some r57; clear r57
  obtain ⟨c63, p64, h65⟩ := SlR.get s0 hu61
  obtain ⟨a66, k67, rfl, s68⟩ := h65
  refine Cov.q .ro (.idxR s0 rfl rfl hu61 sl49 ty35.sz) rfl ?_;refine Cov.q .ro (.load_rp p64 List.mem_cons_self rfl ty35 rfl) rfl ?_;refine Cov.q .ro (.len_sl rfl rfl sl35) rfl ?_;refine Cov.q .ro (.move rfl) rfl ?_;refine Cov.q .ro (.addw rfl rfl) rfl ?_;refine Cov.q .ro (.subw rfl rfl) rfl ?_;refine Cov.q .ro (.move rfl) rfl ?_
  obtain ⟨u69, hu69, r70⟩ := bind_some r62; clear r62
  refine Cov.q .ro (.quow rfl rfl (nz_some hu69)) rfl ?_;refine Cov.q .ro (.addw rfl rfl) rfl ?_;refine Cov.q .ro (.assign rfl) rfl ?_;refine Cov.region_end ?_;refine Cov.prune [(6, _), (7, _), (5, _), (0, _), (1, _)] ⟨rfl, rfl, rfl, rfl, rfl, trivial⟩ ?_;refine Cov.inBlock ?_;refine Cov.region rfl ?_;refine Cov.q .ro (.move rfl) rfl ?_;refine Cov.q .ro (.subw rfl rfl) rfl ?_
  refine Cov.q .ro (.assign rfl) rfl ?_;refine Cov.region_end ?_
  refine Cov.prune _ ?_ (Cov.same rfl rfl rfl (hb44 (m48, (w64 (v35 + (w64 (Int.tdiv (w64 ((w64 ((u61.length : Int) + x1)) - 1)) x1)))), (w64 (v36 - 1)), u56, a38, k39, cs58) ⟨o59, r70⟩ (Nat.lt_succ_self _)))
  exact ⟨rfl, rfl, rfl, rfl, rfl, trivial⟩
 ·have r71 := ifF r47 c49; clear r47
  refine Cov.exit rfl ?_;refine Cov.seq ?_;refine Cov.region rfl ?_;refine Cov.q .ro (.move rfl) rfl ?_;refine Cov.q .ro (.assign rfl) rfl ?_;refine Cov.region_end ?_
  cases r71
  refine Cov.retS (c := ⟨25, none⟩) (.inr ⟨_, rfl⟩) [.tmp 4] [_] rfl Try.func25 Try.results25 ⟨RV.tmp rfl, trivial⟩ (fun _ h => List.mem_cons_of_mem _ h) ⟨a38, k39, cs40, rfl, rfl, rfl, o41⟩
set_option maxHeartbeats 4000000 in
set_option maxRecDepth 100000 in
theorem slices_Reverse_Lintint_c {Fs : List Hp} {G : Hp} {a0 : Option Addr} {k0 : Nat} {x0 : List Int} {cc0 : List Value} {bb0 : Option Nat} {pre0 post0 : List Value} {r : (List Int)} (hG : G ∈ Fs) (vva0 : VA a0 bb0 x0.length k0 pre0 cc0) (oo0 : OL (Rep.int .i64) G cc0 x0) (h : slices_Reverse_Lintint x0 = some r) : RetS Try.prog 26 #[.slice a0 x0.length k0] Fs [] [.g (viewG bb0 3 pre0 cc0 post0)] (fun v bo so => ∃ lc0 : List Value, v = .tuple #[] ∧ bo = [] ∧ so = [.g (viewG bb0 3 pre0 lc0 post0)] ∧ OL (Rep.int .i64) G lc0 r ∧ r.length = x0.length) := by
 unfold slices_Reverse_Lintint at h
 try dsimp only at h
 refine RetS.of (vs := [_]) Try.func26 rfl Try.ntmps26 [(0, _)] ⟨rfl, trivial⟩ rfl hG fun w0 S0 hS0 B0 => ?_
 refine Cov.seq ?_;refine Cov.region rfl ?_;refine Cov.q .ro (.move rfl) rfl ?_;refine Cov.q .ro (.len_sl rfl rfl sl39) rfl ?_;refine Cov.q .ro (.subw rfl rfl) rfl ?_;refine Cov.q .ro (.assign rfl) rfl ?_;refine Cov.q .ro (.assign rfl) rfl ?_;refine Cov.region_end ?_;refine Cov.block ?_
 refine Cov.loop2 (α := Nat × Int × Int × List Int × List Value) (fun y => [(2, .int .i64 y.2.1), (3, .int .i64 y.2.2.1), (0, .slice a0 y.2.2.2.1.length k0)]) [] (fun y => []) (fun y => []) [] (fun y => [.g (viewG bb0 3 pre0 y.2.2.2.2 post0)]) [] (fun y => OL (Rep.int .i64) G y.2.2.2.2 y.2.2.2.1 ∧ VA a0 bb0 y.2.2.2.1.length k0 pre0 y.2.2.2.2 ∧ y.2.2.2.1.length = x0.length ∧ slices_Reverse_Lintint_L1 y.1 y.2.1 y.2.2.1 y.2.2.2.1 = some r) (fun y => y.1) (big, 0, (w64 ((x0.length : Int) - 1)), x0, cc0) ⟨oo0, vva0, rfl, h⟩ ⟨rfl, rfl, rfl, trivial⟩ rfl rfl rfl (fun y hI hb4061 => ?_)
 obtain ⟨n4050, v4052, v4053, v4054, cs4055⟩ := y
 obtain ⟨o4056, va4057, hl4058, r4060⟩ := hI
 try dsimp only at o4056 va4057 hl4058 r4060
 refine Cov.prune [(2, .int .i64 v4052), (3, .int .i64 v4053), (0, .slice a0 v4054.length k0)] ⟨rfl, rfl, rfl, trivial⟩ ?_;refine Cov.same (bl' := []) (sl' := [.g (viewG bb0 3 pre0 cs4055 post0)]) (Fs' := G :: Fs) rfl rfl rfl ?_
 obtain ⟨m4063, rfl⟩ : ∃ m, n4050 = m + 1 := by cases n4050 with | zero => exact absurd (show (none : Option _) = some _ from r4060) (by simp) | succ m => exact ⟨m, rfl⟩
 have r4062 : slices_Reverse_Lintint_B1 (slices_Reverse_Lintint_L1 m4063) v4052 v4053 v4054 = some r := r4060; clear r4060; unfold slices_Reverse_Lintint_B1 at r4062; try dsimp only at r4062
 refine Cov.seq ?_;refine Cov.seq ?_;refine Cov.region rfl ?_;refine Cov.q .ro (.move rfl) rfl ?_;refine Cov.q .ro (.move rfl) rfl ?_;refine Cov.q .ro (.lss rfl rfl) rfl ?_;refine Cov.region_end ?_
 refine Cov.cond_dec rfl (fun c4064 => ?_) (fun c4064 => ?_)
 ·have r4065 := ifT r4062 c4064; clear r4062
  refine Cov.skip ?_;refine Cov.seq ?_;refine Cov.block ?_;refine Cov.drawL (.q 0 (.q 1 (.q 2 (.q 3 (.q 4 (.q 5 (.q 8 (.q 9 (.alt (.e 6 1 (.alt (.e 7 1 (.e 10 1 (.e 11 1 (.e 12 1 (.e 13 1 (.e 14 2 (.e 15 2 .nil))))))) (.e 10 1 (.alt (.e 7 1 (.e 11 1 (.e 12 1 (.e 13 1 (.e 14 2 (.e 15 2 .nil)))))) (.e 11 1 (.e 7 1 (.e 12 1 (.e 13 1 (.e 14 2 (.e 15 2 .nil)))))))))) (.e 10 1 (.alt (.e 6 1 (.alt (.e 7 1 (.e 11 1 (.e 12 1 (.e 13 1 (.e 14 2 (.e 15 2 .nil)))))) (.e 11 1 (.e 7 1 (.e 12 1 (.e 13 1 (.e 14 2 (.e 15 2 .nil)))))))) (.e 11 1 (.e 6 1 (.e 7 1 (.e 12 1 (.e 13 1 (.e 14 2 (.e 15 2 .nil)))))))))))))))))) [] (by kernel_rfl) (by kernel_rfl) (pick_mem [] rfl) ?_
  obtain ⟨u4066, hu4066, r4092⟩ := bind_some r4065; clear r4065
  obtain ⟨u4070, hu4070, r4093⟩ := bind_some r4092; clear r4092
  obtain ⟨u4074, hu4074, r4094⟩ := bind_some r4093; clear r4093
  obtain ⟨u4078, hu4078, r4095⟩ := bind_some r4094; clear r4094
  obtain ⟨u4083, hu4083, r4096⟩ := bind_some r4095; clear r4095
  obtain ⟨u4087, hu4087, r4097⟩ := bind_some r4096; clear r4096
  refine Cov.dq (.move rfl) rfl ?_;refine Cov.dq (.move rfl) rfl ?_;refine Cov.dq (.move rfl) rfl ?_;refine Cov.dq (.move rfl) rfl ?_;refine Cov.dq (.move rfl) rfl ?_;refine Cov.dq (.move rfl) rfl ?_;refine Cov.dq (.move rfl) rfl ?_;refine Cov.dq (.move rfl) rfl ?_;refine Cov.alt ?_ ?_
  ·obtain ⟨c4098, p4099, h4100⟩ := OL.get o4056 hu4066
   obtain rfl := h4100
   refine Cov.q .d1 (.idxV 0 rfl va4057 o4056 rfl rfl hu4066 sl39 ty3.sz rfl rfl) rfl ?_;refine Cov.clsL (HpLe.refl _) (pick_mem [] rfl) ?_;refine Cov.alt ?_ ?_
   ·refine Cov.q .d1 (.loadV 0 0 rfl va4057 o4056 rfl rfl hu4066 p4099 rfl (.inl ⟨rfl, rfl⟩) ty3 rfl) rfl ?_
    refine Cov.clsL (HpLe.refl _) (pick_mem [] rfl) ?_
    obtain ⟨c4101, p4102, h4103⟩ := OL.get o4056 hu4070
    obtain rfl := h4103
    refine Cov.q .d1 (.idxV 0 rfl va4057 o4056 rfl rfl hu4070 sl39 ty3.sz rfl rfl) rfl ?_;refine Cov.clsL (HpLe.refl _) (pick_mem [] rfl) ?_;refine Cov.q .d1 (.loadV 0 0 rfl va4057 o4056 rfl rfl hu4070 p4102 rfl (.inl ⟨rfl, rfl⟩) ty3 rfl) rfl ?_;refine Cov.clsL (HpLe.refl _) (pick_mem [] rfl) ?_
    obtain ⟨c4104, p4105, h4106⟩ := OL.get o4056 hu4074
    obtain rfl := h4106
    refine Cov.q .d1 (.idxV 0 rfl va4057 o4056 rfl rfl hu4074 sl39 ty3.sz rfl rfl) rfl ?_;refine Cov.clsL (HpLe.refl _) (pick_mem [] rfl) ?_
    refine Cov.storeV 0 0 (Q := (Rep.int .i64)) .d1 rfl va4057 rfl rfl o4056 hu4078 rfl (.inl ⟨rfl, rfl⟩) rfl ty3 p4105 ((Rep.intI .i64 u4066) :) rfl rfl (fun cs4107 hlcs4107 o4108 va4109 => ?_)
    refine Cov.reval 0 hlcs4107 rfl ?_;refine Cov.reval 14 hlcs4107 rfl ?_;refine Cov.reval 16 hlcs4107 rfl ?_;refine Cov.reval 18 hlcs4107 rfl ?_;refine Cov.reval 22 hlcs4107 rfl ?_;refine Cov.clsL (HpLe.refl _) (pick_mem [] rfl) ?_
    obtain ⟨c4111, p4112, h4113⟩ := OL.get o4108 hu4083
    obtain rfl := h4113
    refine Cov.q .d2 (.idxV 0 rfl va4109 o4108 rfl rfl hu4083 sl39 ty3.sz rfl rfl) rfl ?_
    refine Cov.storeV 0 0 (Q := (Rep.int .i64)) .d2 rfl va4109 rfl rfl o4108 hu4087 rfl (.inl ⟨rfl, rfl⟩) rfl ty3 p4112 ((Rep.intI .i64 u4070) :) rfl rfl (fun cs4114 hlcs4114 o4115 va4116 => ?_)
    refine Cov.reval 0 hlcs4114 rfl ?_;refine Cov.reval 14 hlcs4114 rfl ?_;refine Cov.reval 16 hlcs4114 rfl ?_;refine Cov.reval 18 hlcs4114 rfl ?_;refine Cov.reval 22 hlcs4114 rfl ?_;refine Cov.draw_end ?_;refine Cov.prune [(2, _), (3, _), (0, _)] ⟨rfl, rfl, rfl, trivial⟩ ?_;refine Cov.inBlock ?_;refine Cov.region rfl ?_
    refine Cov.q .ro (.move rfl) rfl ?_;refine Cov.q .ro (.addw rfl rfl) rfl ?_;refine Cov.q .ro (.move rfl) rfl ?_;refine Cov.q .ro (.subw rfl rfl) rfl ?_;refine Cov.q .ro (.assign rfl) rfl ?_;refine Cov.q .ro (.assign rfl) rfl ?_;refine Cov.region_end ?_
    refine Cov.prune _ ?_ (Cov.same rfl rfl rfl (hb4061 (m4063, (w64 (v4052 + 1)), (w64 (v4053 - 1)), u4087, cs4114) ⟨o4115, va4116, (hlcs4114.trans (hlcs4107.trans hl4058)), r4097⟩ (Nat.lt_succ_self _)))
    exact ⟨rfl, rfl, rfl, trivial⟩
   ·obtain ⟨c4118, p4119, h4120⟩ := OL.get o4056 hu4070
    obtain rfl := h4120
    refine Cov.q .d1 (.idxV 0 rfl va4057 o4056 rfl rfl hu4070 sl39 ty3.sz rfl rfl) rfl ?_;refine Cov.clsL (HpLe.refl _) (pick_mem [] rfl) ?_;refine Cov.alt ?_ ?_
    ·refine Cov.q .d1 (.loadV 0 0 rfl va4057 o4056 rfl rfl hu4066 p4099 rfl (.inl ⟨rfl, rfl⟩) ty3 rfl) rfl ?_
     refine Cov.clsL (HpLe.refl _) (pick_mem [] rfl) ?_;refine Cov.q .d1 (.loadV 0 0 rfl va4057 o4056 rfl rfl hu4070 p4119 rfl (.inl ⟨rfl, rfl⟩) ty3 rfl) rfl ?_;refine Cov.clsL (HpLe.refl _) (pick_mem [] rfl) ?_
     obtain ⟨c4121, p4122, h4123⟩ := OL.get o4056 hu4074
     obtain rfl := h4123
     refine Cov.q .d1 (.idxV 0 rfl va4057 o4056 rfl rfl hu4074 sl39 ty3.sz rfl rfl) rfl ?_;refine Cov.clsL (HpLe.refl _) (pick_mem [] rfl) ?_
     refine Cov.storeV 0 0 (Q := (Rep.int .i64)) .d1 rfl va4057 rfl rfl o4056 hu4078 rfl (.inl ⟨rfl, rfl⟩) rfl ty3 p4122 ((Rep.intI .i64 u4066) :) rfl rfl (fun cs4124 hlcs4124 o4125 va4126 => ?_)
     refine Cov.reval 0 hlcs4124 rfl ?_;refine Cov.reval 14 hlcs4124 rfl ?_;refine Cov.reval 16 hlcs4124 rfl ?_;refine Cov.reval 18 hlcs4124 rfl ?_;refine Cov.reval 22 hlcs4124 rfl ?_;refine Cov.clsL (HpLe.refl _) (pick_mem [] rfl) ?_
     obtain ⟨c4128, p4129, h4130⟩ := OL.get o4125 hu4083
     obtain rfl := h4130
     refine Cov.q .d2 (.idxV 0 rfl va4126 o4125 rfl rfl hu4083 sl39 ty3.sz rfl rfl) rfl ?_
     refine Cov.storeV 0 0 (Q := (Rep.int .i64)) .d2 rfl va4126 rfl rfl o4125 hu4087 rfl (.inl ⟨rfl, rfl⟩) rfl ty3 p4129 ((Rep.intI .i64 u4070) :) rfl rfl (fun cs4131 hlcs4131 o4132 va4133 => ?_)
     refine Cov.reval 0 hlcs4131 rfl ?_;refine Cov.reval 14 hlcs4131 rfl ?_;refine Cov.reval 16 hlcs4131 rfl ?_;refine Cov.reval 18 hlcs4131 rfl ?_;refine Cov.reval 22 hlcs4131 rfl ?_;refine Cov.draw_end ?_;refine Cov.prune [(2, _), (3, _), (0, _)] ⟨rfl, rfl, rfl, trivial⟩ ?_;refine Cov.inBlock ?_;refine Cov.region rfl ?_
     refine Cov.q .ro (.move rfl) rfl ?_;refine Cov.q .ro (.addw rfl rfl) rfl ?_;refine Cov.q .ro (.move rfl) rfl ?_;refine Cov.q .ro (.subw rfl rfl) rfl ?_;refine Cov.q .ro (.assign rfl) rfl ?_;refine Cov.q .ro (.assign rfl) rfl ?_;refine Cov.region_end ?_
     refine Cov.prune _ ?_ (Cov.same rfl rfl rfl (hb4061 (m4063, (w64 (v4052 + 1)), (w64 (v4053 - 1)), u4087, cs4131) ⟨o4132, va4133, (hlcs4131.trans (hlcs4124.trans hl4058)), r4097⟩ (Nat.lt_succ_self _)))
     exact ⟨rfl, rfl, rfl, trivial⟩
    ·refine Cov.q .d1 (.loadV 0 0 rfl va4057 o4056 rfl rfl hu4070 p4119 rfl (.inl ⟨rfl, rfl⟩) ty3 rfl) rfl ?_
     refine Cov.clsL (HpLe.refl _) (pick_mem [] rfl) ?_;refine Cov.q .d1 (.loadV 0 0 rfl va4057 o4056 rfl rfl hu4066 p4099 rfl (.inl ⟨rfl, rfl⟩) ty3 rfl) rfl ?_;refine Cov.clsL (HpLe.refl _) (pick_mem [] rfl) ?_
     obtain ⟨c4135, p4136, h4137⟩ := OL.get o4056 hu4074
     obtain rfl := h4137
     refine Cov.q .d1 (.idxV 0 rfl va4057 o4056 rfl rfl hu4074 sl39 ty3.sz rfl rfl) rfl ?_;refine Cov.clsL (HpLe.refl _) (pick_mem [] rfl) ?_
     refine Cov.storeV 0 0 (Q := (Rep.int .i64)) .d1 rfl va4057 rfl rfl o4056 hu4078 rfl (.inl ⟨rfl, rfl⟩) rfl ty3 p4136 ((Rep.intI .i64 u4066) :) rfl rfl (fun cs4138 hlcs4138 o4139 va4140 => ?_)
     refine Cov.reval 0 hlcs4138 rfl ?_;refine Cov.reval 14 hlcs4138 rfl ?_;refine Cov.reval 16 hlcs4138 rfl ?_;refine Cov.reval 18 hlcs4138 rfl ?_;refine Cov.reval 22 hlcs4138 rfl ?_;refine Cov.clsL (HpLe.refl _) (pick_mem [] rfl) ?_
     obtain ⟨c4142, p4143, h4144⟩ := OL.get o4139 hu4083
     obtain rfl := h4144
     refine Cov.q .d2 (.idxV 0 rfl va4140 o4139 rfl rfl hu4083 sl39 ty3.sz rfl rfl) rfl ?_
     refine Cov.storeV 0 0 (Q := (Rep.int .i64)) .d2 rfl va4140 rfl rfl o4139 hu4087 rfl (.inl ⟨rfl, rfl⟩) rfl ty3 p4143 ((Rep.intI .i64 u4070) :) rfl rfl (fun cs4145 hlcs4145 o4146 va4147 => ?_)
     refine Cov.reval 0 hlcs4145 rfl ?_;refine Cov.reval 14 hlcs4145 rfl ?_;refine Cov.reval 16 hlcs4145 rfl ?_;refine Cov.reval 18 hlcs4145 rfl ?_;refine Cov.reval 22 hlcs4145 rfl ?_;refine Cov.draw_end ?_;refine Cov.prune [(2, _), (3, _), (0, _)] ⟨rfl, rfl, rfl, trivial⟩ ?_;refine Cov.inBlock ?_;refine Cov.region rfl ?_
     refine Cov.q .ro (.move rfl) rfl ?_;refine Cov.q .ro (.addw rfl rfl) rfl ?_;refine Cov.q .ro (.move rfl) rfl ?_;refine Cov.q .ro (.subw rfl rfl) rfl ?_;refine Cov.q .ro (.assign rfl) rfl ?_;refine Cov.q .ro (.assign rfl) rfl ?_;refine Cov.region_end ?_
     refine Cov.prune _ ?_ (Cov.same rfl rfl rfl (hb4061 (m4063, (w64 (v4052 + 1)), (w64 (v4053 - 1)), u4087, cs4145) ⟨o4146, va4147, (hlcs4145.trans (hlcs4138.trans hl4058)), r4097⟩ (Nat.lt_succ_self _)))
     exact ⟨rfl, rfl, rfl, trivial⟩
  ·obtain ⟨c4149, p4150, h4151⟩ := OL.get o4056 hu4070
   obtain rfl := h4151
   refine Cov.q .d1 (.idxV 0 rfl va4057 o4056 rfl rfl hu4070 sl39 ty3.sz rfl rfl) rfl ?_;refine Cov.clsL (HpLe.refl _) (pick_mem [] rfl) ?_;refine Cov.alt ?_ ?_
   ·obtain ⟨c4152, p4153, h4154⟩ := OL.get o4056 hu4066
    obtain rfl := h4154
    refine Cov.q .d1 (.idxV 0 rfl va4057 o4056 rfl rfl hu4066 sl39 ty3.sz rfl rfl) rfl ?_;refine Cov.clsL (HpLe.refl _) (pick_mem [] rfl) ?_;refine Cov.alt ?_ ?_
    ·refine Cov.q .d1 (.loadV 0 0 rfl va4057 o4056 rfl rfl hu4066 p4153 rfl (.inl ⟨rfl, rfl⟩) ty3 rfl) rfl ?_
     refine Cov.clsL (HpLe.refl _) (pick_mem [] rfl) ?_;refine Cov.q .d1 (.loadV 0 0 rfl va4057 o4056 rfl rfl hu4070 p4150 rfl (.inl ⟨rfl, rfl⟩) ty3 rfl) rfl ?_;refine Cov.clsL (HpLe.refl _) (pick_mem [] rfl) ?_
     obtain ⟨c4155, p4156, h4157⟩ := OL.get o4056 hu4074
     obtain rfl := h4157
     refine Cov.q .d1 (.idxV 0 rfl va4057 o4056 rfl rfl hu4074 sl39 ty3.sz rfl rfl) rfl ?_;refine Cov.clsL (HpLe.refl _) (pick_mem [] rfl) ?_
     refine Cov.storeV 0 0 (Q := (Rep.int .i64)) .d1 rfl va4057 rfl rfl o4056 hu4078 rfl (.inl ⟨rfl, rfl⟩) rfl ty3 p4156 ((Rep.intI .i64 u4066) :) rfl rfl (fun cs4158 hlcs4158 o4159 va4160 => ?_)
     refine Cov.reval 0 hlcs4158 rfl ?_;refine Cov.reval 14 hlcs4158 rfl ?_;refine Cov.reval 16 hlcs4158 rfl ?_;refine Cov.reval 18 hlcs4158 rfl ?_;refine Cov.reval 22 hlcs4158 rfl ?_;refine Cov.clsL (HpLe.refl _) (pick_mem [] rfl) ?_
     obtain ⟨c4162, p4163, h4164⟩ := OL.get o4159 hu4083
     obtain rfl := h4164
     refine Cov.q .d2 (.idxV 0 rfl va4160 o4159 rfl rfl hu4083 sl39 ty3.sz rfl rfl) rfl ?_
     refine Cov.storeV 0 0 (Q := (Rep.int .i64)) .d2 rfl va4160 rfl rfl o4159 hu4087 rfl (.inl ⟨rfl, rfl⟩) rfl ty3 p4163 ((Rep.intI .i64 u4070) :) rfl rfl (fun cs4165 hlcs4165 o4166 va4167 => ?_)
     refine Cov.reval 0 hlcs4165 rfl ?_;refine Cov.reval 14 hlcs4165 rfl ?_;refine Cov.reval 16 hlcs4165 rfl ?_;refine Cov.reval 18 hlcs4165 rfl ?_;refine Cov.reval 22 hlcs4165 rfl ?_;refine Cov.draw_end ?_;refine Cov.prune [(2, _), (3, _), (0, _)] ⟨rfl, rfl, rfl, trivial⟩ ?_;refine Cov.inBlock ?_;refine Cov.region rfl ?_
     refine Cov.q .ro (.move rfl) rfl ?_;refine Cov.q .ro (.addw rfl rfl) rfl ?_;refine Cov.q .ro (.move rfl) rfl ?_;refine Cov.q .ro (.subw rfl rfl) rfl ?_;refine Cov.q .ro (.assign rfl) rfl ?_;refine Cov.q .ro (.assign rfl) rfl ?_;refine Cov.region_end ?_
     refine Cov.prune _ ?_ (Cov.same rfl rfl rfl (hb4061 (m4063, (w64 (v4052 + 1)), (w64 (v4053 - 1)), u4087, cs4165) ⟨o4166, va4167, (hlcs4165.trans (hlcs4158.trans hl4058)), r4097⟩ (Nat.lt_succ_self _)))
     exact ⟨rfl, rfl, rfl, trivial⟩
    ·refine Cov.q .d1 (.loadV 0 0 rfl va4057 o4056 rfl rfl hu4070 p4150 rfl (.inl ⟨rfl, rfl⟩) ty3 rfl) rfl ?_
     refine Cov.clsL (HpLe.refl _) (pick_mem [] rfl) ?_;refine Cov.q .d1 (.loadV 0 0 rfl va4057 o4056 rfl rfl hu4066 p4153 rfl (.inl ⟨rfl, rfl⟩) ty3 rfl) rfl ?_;refine Cov.clsL (HpLe.refl _) (pick_mem [] rfl) ?_
     obtain ⟨c4169, p4170, h4171⟩ := OL.get o4056 hu4074
     obtain rfl := h4171
     refine Cov.q .d1 (.idxV 0 rfl va4057 o4056 rfl rfl hu4074 sl39 ty3.sz rfl rfl) rfl ?_;refine Cov.clsL (HpLe.refl _) (pick_mem [] rfl) ?_
     refine Cov.storeV 0 0 (Q := (Rep.int .i64)) .d1 rfl va4057 rfl rfl o4056 hu4078 rfl (.inl ⟨rfl, rfl⟩) rfl ty3 p4170 ((Rep.intI .i64 u4066) :) rfl rfl (fun cs4172 hlcs4172 o4173 va4174 => ?_)
     refine Cov.reval 0 hlcs4172 rfl ?_;refine Cov.reval 14 hlcs4172 rfl ?_;refine Cov.reval 16 hlcs4172 rfl ?_;refine Cov.reval 18 hlcs4172 rfl ?_;refine Cov.reval 22 hlcs4172 rfl ?_;refine Cov.clsL (HpLe.refl _) (pick_mem [] rfl) ?_
     obtain ⟨c4176, p4177, h4178⟩ := OL.get o4173 hu4083
     obtain rfl := h4178
     refine Cov.q .d2 (.idxV 0 rfl va4174 o4173 rfl rfl hu4083 sl39 ty3.sz rfl rfl) rfl ?_
     refine Cov.storeV 0 0 (Q := (Rep.int .i64)) .d2 rfl va4174 rfl rfl o4173 hu4087 rfl (.inl ⟨rfl, rfl⟩) rfl ty3 p4177 ((Rep.intI .i64 u4070) :) rfl rfl (fun cs4179 hlcs4179 o4180 va4181 => ?_)
     refine Cov.reval 0 hlcs4179 rfl ?_;refine Cov.reval 14 hlcs4179 rfl ?_;refine Cov.reval 16 hlcs4179 rfl ?_;refine Cov.reval 18 hlcs4179 rfl ?_;refine Cov.reval 22 hlcs4179 rfl ?_;refine Cov.draw_end ?_;refine Cov.prune [(2, _), (3, _), (0, _)] ⟨rfl, rfl, rfl, trivial⟩ ?_;refine Cov.inBlock ?_;refine Cov.region rfl ?_
     refine Cov.q .ro (.move rfl) rfl ?_;refine Cov.q .ro (.addw rfl rfl) rfl ?_;refine Cov.q .ro (.move rfl) rfl ?_;refine Cov.q .ro (.subw rfl rfl) rfl ?_;refine Cov.q .ro (.assign rfl) rfl ?_;refine Cov.q .ro (.assign rfl) rfl ?_;refine Cov.region_end ?_
     refine Cov.prune _ ?_ (Cov.same rfl rfl rfl (hb4061 (m4063, (w64 (v4052 + 1)), (w64 (v4053 - 1)), u4087, cs4179) ⟨o4180, va4181, (hlcs4179.trans (hlcs4172.trans hl4058)), r4097⟩ (Nat.lt_succ_self _)))
     exact ⟨rfl, rfl, rfl, trivial⟩
   ·refine Cov.q .d1 (.loadV 0 0 rfl va4057 o4056 rfl rfl hu4070 p4150 rfl (.inl ⟨rfl, rfl⟩) ty3 rfl) rfl ?_
    refine Cov.clsL (HpLe.refl _) (pick_mem [] rfl) ?_
    obtain ⟨c4183, p4184, h4185⟩ := OL.get o4056 hu4066
    obtain rfl := h4185
    refine Cov.q .d1 (.idxV 0 rfl va4057 o4056 rfl rfl hu4066 sl39 ty3.sz rfl rfl) rfl ?_;refine Cov.clsL (HpLe.refl _) (pick_mem [] rfl) ?_;refine Cov.q .d1 (.loadV 0 0 rfl va4057 o4056 rfl rfl hu4066 p4184 rfl (.inl ⟨rfl, rfl⟩) ty3 rfl) rfl ?_;refine Cov.clsL (HpLe.refl _) (pick_mem [] rfl) ?_
    obtain ⟨c4186, p4187, h4188⟩ := OL.get o4056 hu4074
    obtain rfl := h4188
    refine Cov.q .d1 (.idxV 0 rfl va4057 o4056 rfl rfl hu4074 sl39 ty3.sz rfl rfl) rfl ?_;refine Cov.clsL (HpLe.refl _) (pick_mem [] rfl) ?_
    refine Cov.storeV 0 0 (Q := (Rep.int .i64)) .d1 rfl va4057 rfl rfl o4056 hu4078 rfl (.inl ⟨rfl, rfl⟩) rfl ty3 p4187 ((Rep.intI .i64 u4066) :) rfl rfl (fun cs4189 hlcs4189 o4190 va4191 => ?_)
    refine Cov.reval 0 hlcs4189 rfl ?_;refine Cov.reval 14 hlcs4189 rfl ?_;refine Cov.reval 16 hlcs4189 rfl ?_;refine Cov.reval 18 hlcs4189 rfl ?_;refine Cov.reval 22 hlcs4189 rfl ?_;refine Cov.clsL (HpLe.refl _) (pick_mem [] rfl) ?_
    obtain ⟨c4193, p4194, h4195⟩ := OL.get o4190 hu4083
    obtain rfl := h4195
    refine Cov.q .d2 (.idxV 0 rfl va4191 o4190 rfl rfl hu4083 sl39 ty3.sz rfl rfl) rfl ?_
    refine Cov.storeV 0 0 (Q := (Rep.int .i64)) .d2 rfl va4191 rfl rfl o4190 hu4087 rfl (.inl ⟨rfl, rfl⟩) rfl ty3 p4194 ((Rep.intI .i64 u4070) :) rfl rfl (fun cs4196 hlcs4196 o4197 va4198 => ?_)
    refine Cov.reval 0 hlcs4196 rfl ?_;refine Cov.reval 14 hlcs4196 rfl ?_;refine Cov.reval 16 hlcs4196 rfl ?_;refine Cov.reval 18 hlcs4196 rfl ?_;refine Cov.reval 22 hlcs4196 rfl ?_;refine Cov.draw_end ?_;refine Cov.prune [(2, _), (3, _), (0, _)] ⟨rfl, rfl, rfl, trivial⟩ ?_;refine Cov.inBlock ?_;refine Cov.region rfl ?_
    refine Cov.q .ro (.move rfl) rfl ?_;refine Cov.q .ro (.addw rfl rfl) rfl ?_;refine Cov.q .ro (.move rfl) rfl ?_;refine Cov.q .ro (.subw rfl rfl) rfl ?_;refine Cov.q .ro (.assign rfl) rfl ?_;refine Cov.q .ro (.assign rfl) rfl ?_;refine Cov.region_end ?_
    refine Cov.prune _ ?_ (Cov.same rfl rfl rfl (hb4061 (m4063, (w64 (v4052 + 1)), (w64 (v4053 - 1)), u4087, cs4196) ⟨o4197, va4198, (hlcs4196.trans (hlcs4189.trans hl4058)), r4097⟩ (Nat.lt_succ_self _)))
    exact ⟨rfl, rfl, rfl, trivial⟩
 ·have r8108 := ifF r4062 c4064; clear r4062
  refine Cov.exit rfl ?_
  cases r8108
  refine Cov.retS (c := ⟨26, none⟩) (.inl rfl) [] [] rfl Try.func26 Try.results26 trivial (fun _ h => List.mem_cons_of_mem _ h) ⟨cs4055, rfl, rfl, rfl, o4056, hl4058⟩
set_option maxHeartbeats 4000000 in
set_option maxRecDepth 100000 in
theorem lookup_Rows_c {Fs : List Hp} {G : Hp} {x0_0 : Int} {a0_1 : Option Addr} {k0_1 : Nat} {x0_1 : List ByteArray} {r : ((List Int) × Int)} (hG : G ∈ Fs) (s0_1 : SlR Rep.str G a0_1 k0_1 x0_1) (h : lookup_Rows (x0_0, x0_1) = some r) : RetS Try.prog 13 #[.agg #[.int .i64 x0_0, .slice a0_1 x0_1.length k0_1]] Fs [] [] (fun v bo so => ∃ (oa0 : Option Addr) (ok0 : Nat) (oc0 : List Value), v = .tuple #[.slice oa0 r.1.length ok0, .int .i64 r.2] ∧ bo = [] ∧ so = [.s (.slice oa0 r.1.length ok0) 3 1 r.1.length oc0] ∧ OL (Rep.int .i64) G oc0 r.1) := by
 unfold lookup_Rows at h
 try dsimp only at h
 refine RetS.of (vs := [_]) Try.func13 rfl Try.ntmps13 [(0, _)] ⟨rfl, trivial⟩ rfl hG fun w0 S0 hS0 B0 => ?_
 refine Cov.seq ?_;refine Cov.region rfl ?_
 refine Cov.box [_, _] .ro rfl rfl rfl (fun b1 hb1 => ?_)
 refine Cov.q .ro (.assign rfl) rfl ?_;refine Cov.q .ro (.assign rfl) rfl ?_;refine Cov.region_end ?_;refine Cov.seq ?_;refine Cov.region rfl ?_;refine Cov.q .ro (.load_own_a 0 [_, _] rfl rfl ty37 rfl) rfl ?_
 obtain ⟨u2, hu2, r3⟩ := bind_some h; clear h
 refine Cov.callW (b1 := []) (b2 := [_]) (s1 := []) [_] [] .ro rfl rfl Try.call24 rfl rfl (fence_Levels_c (G := G) List.mem_cons_self s0_1 hu2) rfl B0 (fun v5 bo so G6 e7 B8 h4 => ?_)
 obtain ⟨a11, k12, cs13, rfl, rfl, rfl, o14⟩ := h4
 refine Cov.same (bl' := [_]) (sl' := [_]) rfl rfl rfl ?_;refine Cov.q .ro (.move rfl) rfl ?_;refine Cov.q .ro (.extract rfl rfl) rfl ?_;refine Cov.q .ro (.extract rfl rfl) rfl ?_;refine Cov.q .ro (.assign rfl) rfl ?_;refine Cov.q .ro (.assign rfl) rfl ?_;refine Cov.region_end ?_;refine Cov.seq ?_;refine Cov.seq ?_
 refine Cov.region rfl ?_;refine Cov.q .ro (.move rfl) rfl ?_;refine Cov.q .ro (.neq rfl rfl) rfl ?_;refine Cov.region_end ?_
 refine Cov.cond_dec rfl (fun c15 => ?_) (fun c15 => ?_)
 ·have r16 := ifT r3 c15; clear r3
  refine Cov.seq ?_;refine Cov.region rfl ?_;refine Cov.q .ro (.move rfl) rfl ?_;refine Cov.q .ro (.assign rfl) rfl ?_;refine Cov.q .ro (.assign rfl) rfl ?_;refine Cov.region_end ?_;refine Cov.own_nil 3 1 ?_
  cases r16
  refine Cov.drop 1 0 [] _ rfl rfl ?_;refine Cov.pullS 1 rfl [_, _] rfl ?_;refine Cov.drop 0 1 _ [_] rfl rfl ?_
  refine Cov.retS (c := ⟨13, none⟩) (.inr ⟨_, rfl⟩) [.tmp 2, .tmp 3] [_, _] rfl Try.func13 Try.results13 ⟨RV.tmp rfl, RV.tmp rfl, trivial⟩ (fun _ h => List.mem_cons_of_mem _ h) ⟨none, 0, [], rfl, rfl, rfl, (OL.nil (Rp' := (Rep.int .i64)))⟩
 ·have r18 := ifF r3 c15; clear r3
  refine Cov.skip ?_;refine Cov.seq ?_;refine Cov.region rfl ?_;refine Cov.q .ro (.move rfl) rfl ?_;refine Cov.q .ro (.fieldAddr 0 rfl fl37_0 ty3.sz rfl) rfl ?_;refine Cov.q .ro (.load_own 0 rfl rfl ty3 rfl) rfl ?_
  refine Cov.freezeR 0 rfl rfl o14 [] rfl B8 (fun G19 e20 B21 s22 => ?_)
  obtain ⟨u24, hu24, r25⟩ := bind_some r18; clear r18
  refine Cov.callS (b1 := []) (b2 := [_]) (s1 := []) [_, _] [] .ro rfl rfl Try.call25 rfl rfl (lookup_firsts_c (G := G19) List.mem_cons_self s22 hu24) rfl (fun v27 bo so h26 => ?_)
  obtain ⟨a29, k30, cs31, rfl, rfl, rfl, o32⟩ := h26
  refine Cov.same (bl' := [_]) (sl' := [_]) rfl rfl rfl ?_;refine Cov.q .ro (.assign rfl) rfl ?_;refine Cov.region_end ?_;refine Cov.prune [(6, _)] ⟨rfl, trivial⟩ ?_;refine Cov.seq ?_;refine Cov.region rfl ?_;refine Cov.q .ro (.move rfl) rfl ?_
  refine Cov.toV 0 rfl (fun vb33 po34 va35 vb36 => ?_)
  obtain ⟨u37, hu37, r38⟩ := bind_some r25; clear r25
  refine Cov.callS (b1 := []) (b2 := [_]) (s1 := [_]) [_] [] .ro rfl rfl Try.call26 rfl rfl (slices_Reverse_Lintint_c (G := G19) List.mem_cons_self va35 o32 hu37) rfl (fun v40 bo so h39 => ?_)
  obtain ⟨cs41, rfl, rfl, rfl, o42, hl43⟩ := h39
  refine Cov.same (bl' := [_]) (sl' := [_]) rfl rfl rfl ?_;refine Cov.ofV 0 rfl vb36 hl43 o42 rfl ?_;refine Cov.reval 6 hl43 rfl ?_;refine Cov.reval 19 hl43 rfl ?_;refine Cov.region_end ?_;refine Cov.seq ?_;refine Cov.region rfl ?_;refine Cov.q .ro (.move rfl) rfl ?_;refine Cov.q .ro (.assign rfl) rfl ?_
  refine Cov.q .ro (.assign rfl) rfl ?_;refine Cov.region_end ?_
  cases r38
  refine Cov.drop 1 0 [] _ rfl rfl ?_
  refine Cov.retS (c := ⟨13, none⟩) (.inr ⟨_, rfl⟩) [.tmp 2, .tmp 3] [_, _] rfl Try.func13 Try.results13 ⟨RV.tmp rfl, RV.tmp rfl, trivial⟩ (fun _ h => List.mem_cons_of_mem _ h) ⟨a29, k30, cs41, rfl, rfl, rfl, o42⟩
set_option maxHeartbeats 4000000 in
set_option maxRecDepth 100000 in
theorem lookup_Width_c {Fs : List Hp} {G : Hp} {x0 : Int} {r : Int} (hG : G ∈ Fs)  (h : lookup_Width x0 = some r) : RetS Try.prog 16 #[.int .i64 x0] Fs [] [] (fun v bo so => v = .int .i64 r ∧ bo = [] ∧ so = []) := by
 unfold lookup_Width at h
 try dsimp only at h
 refine RetS.of (vs := [_]) Try.func16 rfl Try.ntmps16 [(0, _)] ⟨rfl, trivial⟩ rfl hG fun w0 S0 hS0 B0 => ?_
 refine Cov.seq ?_;refine Cov.region rfl ?_;refine Cov.q .ro (.assign rfl) rfl ?_;refine Cov.region_end ?_;refine Cov.seq ?_;refine Cov.region rfl ?_;refine Cov.q .ro (.move rfl) rfl ?_;refine Cov.q .ro (.mulw rfl rfl) rfl ?_;refine Cov.q .ro (.assign rfl) rfl ?_
 refine Cov.region_end ?_
 cases h
 refine Cov.retS (c := ⟨16, none⟩) (.inr ⟨_, rfl⟩) [.tmp 2] [_] rfl Try.func16 Try.results16 ⟨RV.tmp rfl, trivial⟩ (fun _ h => List.mem_cons_of_mem _ h) ⟨rfl, rfl, rfl⟩
set_option maxHeartbeats 4000000 in
set_option maxRecDepth 100000 in
theorem keyword_slotted_c {Fs : List Hp} {G : Hp} {x0 : Int} {r : Bool} (hG : G ∈ Fs)  (h : keyword_slotted x0 = some r) : RetS Try.prog 51 #[.int .i64 x0] Fs [] [] (fun v bo so => v = .bool r ∧ bo = [] ∧ so = []) := by
 unfold keyword_slotted at h
 try dsimp only at h
 refine RetS.of (vs := [_]) Try.func51 rfl Try.ntmps51 [(0, _)] ⟨rfl, trivial⟩ rfl hG fun w0 S0 hS0 B0 => ?_
 refine Cov.seq ?_;refine Cov.region rfl ?_;refine Cov.q .ro (.assign rfl) rfl ?_;refine Cov.region_end ?_;refine Cov.seq ?_;refine Cov.region rfl ?_;refine Cov.q .ro (.move rfl) rfl ?_;refine Cov.q .ro (.geq rfl rfl) rfl ?_;refine Cov.q .ro (.move rfl) rfl ?_
 refine Cov.cutR 3 (β := Unit) (fun y => [(8, .bool (decide ((1 ≤ x0) ∧ (x0 ≤ 8))))]) [(2, _)] (fun y => G :: Fs) (fun y => []) [] (fun y => []) [] (fun y => True) ⟨rfl, trivial⟩ [] rfl [] rfl ?_ ?_
 ·rintro _ _
  refine Cov.prune [(8, .bool (decide ((1 ≤ x0) ∧ (x0 ≤ 8)))), (2, _)] ⟨rfl, rfl, trivial⟩ ?_;refine Cov.same (bl' := []) (sl' := []) (Fs' := G :: Fs) rfl rfl rfl ?_;refine Cov.q .ro (.assign rfl) rfl ?_;refine Cov.region_end ?_
  cases h
  refine Cov.retS (c := ⟨51, none⟩) (.inr ⟨_, rfl⟩) [.tmp 2] [_] rfl Try.func51 Try.results51 ⟨RV.tmp rfl, trivial⟩ (fun _ h => List.mem_cons_of_mem _ h) ⟨rfl, rfl, rfl⟩
 ·intro hb2
  refine Cov.split 5 rfl (fun c1 => ?_) (fun c1 => ?_)
  ·refine Cov.g_on rfl ?_
   refine Cov.q .ro (.move rfl) rfl ?_;refine Cov.g_on rfl ?_;refine Cov.q .ro (.leq rfl rfl) rfl ?_;refine Cov.q .ro (.pick_t rfl rfl) rfl ?_
   refine Cov.prune _ ?_ (Cov.same rfl rfl rfl (hb2 () trivial))
   exact ⟨dand_t c1, rfl, trivial⟩
  ·refine Cov.g_off rfl rfl rfl ?_
   refine Cov.g_off rfl rfl rfl ?_;refine Cov.q .ro (.pick_f rfl rfl) rfl ?_
   refine Cov.prune _ ?_ (Cov.same rfl rfl rfl (hb2 () trivial))
   exact ⟨dand_f c1, rfl, trivial⟩
set_option maxHeartbeats 4000000 in
set_option maxRecDepth 100000 in
theorem keyword_valid_c {Fs : List Hp} {G : Hp} {x0_0 : ByteArray} {x0_1 : Int} {r : Bool} (hG : G ∈ Fs)  (h : keyword_valid (x0_0, x0_1) = some r) : RetS Try.prog 70 #[.agg #[.string x0_0, .int .i64 x0_1]] Fs [] [] (fun v bo so => v = .bool r ∧ bo = [] ∧ so = []) := by
 unfold keyword_valid at h
 try dsimp only at h
 refine RetS.of (vs := [_]) Try.func70 rfl Try.ntmps70 [(0, _)] ⟨rfl, trivial⟩ rfl hG fun w0 S0 hS0 B0 => ?_
 refine Cov.seq ?_;refine Cov.region rfl ?_
 refine Cov.box [_, _] .ro rfl rfl rfl (fun b1 hb1 => ?_)
 refine Cov.q .ro (.assign rfl) rfl ?_;refine Cov.region_end ?_;refine Cov.seq ?_;refine Cov.region rfl ?_;refine Cov.q .ro (.fieldAddr 0 rfl fl63_0 ty9.sz rfl) rfl ?_;refine Cov.q .ro (.load_own 0 rfl rfl ty9 rfl) rfl ?_
 obtain ⟨u2, hu2, r3⟩ := bind_some h; clear h
 refine Cov.callS (b1 := []) (b2 := [_]) (s1 := []) [_] [] .ro rfl rfl Try.call42 rfl rfl (keyword_proper_c (G := G) List.mem_cons_self  hu2) rfl (fun v5 bo so h4 => ?_)
 obtain ⟨rfl, rfl, rfl⟩ := h4
 refine Cov.same (bl' := [_]) (sl' := []) rfl rfl rfl ?_;refine Cov.q .ro (.move rfl) rfl ?_;refine Cov.cutR 4 (β := Unit) (fun y => [(10, .bool (decide ((u2 = true) ∧ (0 ≤ x0_1))))]) [(1, _), (2, _)] (fun y => G :: Fs) (fun y => []) [_] (fun y => []) [] (fun y => True) ⟨rfl, rfl, trivial⟩ [0] rfl [] rfl ?_ ?_
 ·rintro _ _
  refine Cov.prune [(10, .bool (decide ((u2 = true) ∧ (0 ≤ x0_1)))), (1, _), (2, _)] ⟨rfl, rfl, rfl, trivial⟩ ?_;refine Cov.same (bl' := [_]) (sl' := []) (Fs' := G :: Fs) rfl rfl rfl ?_;refine Cov.q .ro (.move rfl) rfl ?_;refine Cov.cutR 4 (β := Unit) (fun y => [(15, .bool (decide (((u2 = true) ∧ (0 ≤ x0_1)) ∧ (x0_1 < 2147483647))))]) [(2, _)] (fun y => G :: Fs) (fun y => []) [_] (fun y => []) [] (fun y => True) ⟨rfl, trivial⟩ [0] rfl [] rfl ?_ ?_
  ·rintro _ _
   refine Cov.prune [(15, .bool (decide (((u2 = true) ∧ (0 ≤ x0_1)) ∧ (x0_1 < 2147483647)))), (2, _)] ⟨rfl, rfl, trivial⟩ ?_;refine Cov.same (bl' := [_]) (sl' := []) (Fs' := G :: Fs) rfl rfl rfl ?_;refine Cov.q .ro (.assign rfl) rfl ?_;refine Cov.region_end ?_
   cases r3
   refine Cov.drop 1 0 [] _ rfl rfl ?_
   refine Cov.retS (c := ⟨70, none⟩) (.inr ⟨_, rfl⟩) [.tmp 2] [_] rfl Try.func70 Try.results70 ⟨RV.tmp rfl, trivial⟩ (fun _ h => List.mem_cons_of_mem _ h) ⟨rfl, rfl, rfl⟩
  ·intro hb11
   refine Cov.split 11 rfl (fun c10 => ?_) (fun c10 => ?_)
   ·refine Cov.g_on rfl ?_
    refine Cov.q .ro (.fieldAddr 1 rfl fl63_1 ty3.sz rfl) rfl ?_;refine Cov.g_on rfl ?_;refine Cov.q .ro (.load_own 0 rfl rfl ty3 rfl) rfl ?_;refine Cov.g_on rfl ?_;refine Cov.q .ro (.lss rfl rfl) rfl ?_;refine Cov.q .ro (.pick_t rfl rfl) rfl ?_
    refine Cov.prune _ ?_ (Cov.same rfl rfl rfl (hb11 () trivial))
    exact ⟨dand_t c10, rfl, trivial⟩
   ·refine Cov.g_off rfl rfl rfl ?_
    refine Cov.g_off rfl rfl rfl ?_;refine Cov.g_off rfl rfl rfl ?_;refine Cov.q .ro (.pick_f rfl rfl) rfl ?_
    refine Cov.prune _ ?_ (Cov.same rfl rfl rfl (hb11 () trivial))
    exact ⟨dand_f c10, rfl, trivial⟩
 ·intro hb7
  refine Cov.split_b 6 rfl (fun c6 => ?_) (fun c6 => ?_)
  ·refine Cov.g_on rfl ?_
   refine Cov.q .ro (.fieldAddr 1 rfl fl63_1 ty3.sz rfl) rfl ?_;refine Cov.g_on rfl ?_;refine Cov.q .ro (.load_own 0 rfl rfl ty3 rfl) rfl ?_;refine Cov.g_on rfl ?_;refine Cov.q .ro (.geq rfl rfl) rfl ?_;refine Cov.q .ro (.pick_t rfl rfl) rfl ?_
   refine Cov.prune _ ?_ (Cov.same rfl rfl rfl (hb7 () trivial))
   exact ⟨dand_t c6, rfl, rfl, trivial⟩
  ·refine Cov.g_off rfl rfl rfl ?_
   refine Cov.g_off rfl rfl rfl ?_;refine Cov.g_off rfl rfl rfl ?_;refine Cov.q .ro (.pick_f rfl rfl) rfl ?_
   refine Cov.prune _ ?_ (Cov.same rfl rfl rfl (hb7 () trivial))
   exact ⟨dand_f (bne_of c6), rfl, rfl, trivial⟩
set_option maxHeartbeats 4000000 in
set_option maxRecDepth 100000 in
theorem keyword_order_f1_c {Fs : List Hp} {G : Hp} {x0_0 : ByteArray} {x0_1 : Int} {r : ByteArray} (hG : G ∈ Fs)  (h : keyword_order_f1 (x0_0, x0_1) = some r) : RetS Try.prog 83 #[.agg #[.string x0_0, .int .i64 x0_1]] Fs [] [] (fun v bo so => v = .string r ∧ bo = [] ∧ so = []) := by
 unfold keyword_order_f1 at h
 try dsimp only at h
 refine RetS.of (vs := [_]) Try.func83 rfl Try.ntmps83 [(0, _)] ⟨rfl, trivial⟩ rfl hG fun w0 S0 hS0 B0 => ?_
 refine Cov.seq ?_;refine Cov.region rfl ?_
 refine Cov.box [_, _] .ro rfl rfl rfl (fun b1 hb1 => ?_)
 refine Cov.q .ro (.assign rfl) rfl ?_;refine Cov.region_end ?_;refine Cov.seq ?_;refine Cov.region rfl ?_;refine Cov.q .ro (.fieldAddr 0 rfl fl63_0 ty9.sz rfl) rfl ?_;refine Cov.q .ro (.load_own 0 rfl rfl ty9 rfl) rfl ?_;refine Cov.q .ro (.assign rfl) rfl ?_;refine Cov.region_end ?_
 cases h
 refine Cov.drop 1 0 [] _ rfl rfl ?_
 refine Cov.retS (c := ⟨83, none⟩) (.inr ⟨_, rfl⟩) [.tmp 2] [_] rfl Try.func83 Try.results83 ⟨RV.tmp rfl, trivial⟩ (fun _ h => List.mem_cons_of_mem _ h) ⟨rfl, rfl, rfl⟩
set_option maxHeartbeats 4000000 in
set_option maxRecDepth 100000 in
theorem cmp_isNaN_string_c {Fs : List Hp} {G : Hp} {x0 : ByteArray} {r : Bool} (hG : G ∈ Fs)  (h : cmp_isNaN_string x0 = some r) : RetS Try.prog 88 #[.string x0] Fs [] [] (fun v bo so => v = .bool r ∧ bo = [] ∧ so = []) := by
 unfold cmp_isNaN_string at h
 try dsimp only at h
 refine RetS.of (vs := [_]) Try.func88 rfl Try.ntmps88 [(0, _)] ⟨rfl, trivial⟩ rfl hG fun w0 S0 hS0 B0 => ?_
 refine Cov.seq ?_;refine Cov.region rfl ?_;refine Cov.q .ro (.assign rfl) rfl ?_;refine Cov.region_end ?_;refine Cov.seq ?_;refine Cov.region rfl ?_;refine Cov.q .ro (.move rfl) rfl ?_;refine Cov.q .ro (.move rfl) rfl ?_;refine Cov.q .ro (.neq_s rfl rfl) rfl ?_
 refine Cov.q .ro (.assign rfl) rfl ?_;refine Cov.region_end ?_
 cases h
 refine Cov.retS (c := ⟨88, none⟩) (.inr ⟨_, rfl⟩) [.tmp 2] [_] rfl Try.func88 Try.results88 ⟨RV.tmp rfl, trivial⟩ (fun _ h => List.mem_cons_of_mem _ h) ⟨rfl, rfl, rfl⟩
set_option maxHeartbeats 4000000 in
set_option maxRecDepth 100000 in
theorem cmp_Compare_string_c {Fs : List Hp} {G : Hp} {x0 : ByteArray} {x1 : ByteArray} {r : Int} (hG : G ∈ Fs)  (h : cmp_Compare_string x0 x1 = some r) : RetS Try.prog 87 #[.string x0, .string x1] Fs [] [] (fun v bo so => v = .int .i64 r ∧ bo = [] ∧ so = []) := by
 unfold cmp_Compare_string at h
 try dsimp only at h
 refine RetS.of (vs := [_, _]) Try.func87 rfl Try.ntmps87 [(0, _), (1, _)] ⟨rfl, rfl, trivial⟩ rfl hG fun w0 S0 hS0 B0 => ?_
 refine Cov.seq ?_;refine Cov.region rfl ?_;refine Cov.q .ro (.assign rfl) rfl ?_;refine Cov.region_end ?_;refine Cov.seq ?_;refine Cov.region rfl ?_;refine Cov.q .ro (.move rfl) rfl ?_
 obtain ⟨u1, hu1, r2⟩ := bind_some h; clear h
 refine Cov.callS (b1 := []) (b2 := []) (s1 := []) [_] [] .ro rfl rfl Try.call88 rfl rfl (cmp_isNaN_string_c (G := G) List.mem_cons_self  hu1) rfl (fun v4 bo so h3 => ?_)
 obtain ⟨rfl, rfl, rfl⟩ := h3
 refine Cov.same (bl' := []) (sl' := []) rfl rfl rfl ?_;refine Cov.q .ro (.assign rfl) rfl ?_;refine Cov.region_end ?_;refine Cov.seq ?_;refine Cov.region rfl ?_;refine Cov.q .ro (.move rfl) rfl ?_
 obtain ⟨u5, hu5, r6⟩ := bind_some r2; clear r2
 refine Cov.callS (b1 := []) (b2 := []) (s1 := []) [_] [] .ro rfl rfl Try.call88 rfl rfl (cmp_isNaN_string_c (G := G) List.mem_cons_self  hu5) rfl (fun v8 bo so h7 => ?_)
 obtain ⟨rfl, rfl, rfl⟩ := h7
 refine Cov.same (bl' := []) (sl' := []) rfl rfl rfl ?_;refine Cov.q .ro (.assign rfl) rfl ?_;refine Cov.region_end ?_;refine Cov.seq ?_;refine Cov.seq ?_;refine Cov.region rfl ?_;refine Cov.q .ro (.move rfl) rfl ?_;refine Cov.region_end ?_
 refine Cov.cond rfl (fun c9 => ?_) (fun c9 => ?_)
 ·have r10 := ifT r6 c9; clear r6
  refine Cov.seq ?_;refine Cov.seq ?_;refine Cov.region rfl ?_;refine Cov.q .ro (.move rfl) rfl ?_;refine Cov.region_end ?_
  refine Cov.cond rfl (fun c11 => ?_) (fun c11 => ?_)
  ·have r12 := ifT r10 c11; clear r10
   refine Cov.seq ?_;refine Cov.region rfl ?_;refine Cov.q .ro (.assign rfl) rfl ?_;refine Cov.region_end ?_
   cases r12
   refine Cov.retS (c := ⟨87, none⟩) (.inr ⟨_, rfl⟩) [.tmp 4] [_] rfl Try.func87 Try.results87 ⟨RV.tmp rfl, trivial⟩ (fun _ h => List.mem_cons_of_mem _ h) ⟨rfl, rfl, rfl⟩
  ·have r13 := ifBF r10 c11; clear r10
   refine Cov.skip ?_;refine Cov.seq ?_;refine Cov.region rfl ?_;refine Cov.q .ro (.assign rfl) rfl ?_;refine Cov.region_end ?_
   cases r13
   refine Cov.retS (c := ⟨87, none⟩) (.inr ⟨_, rfl⟩) [.tmp 4] [_] rfl Try.func87 Try.results87 ⟨RV.tmp rfl, trivial⟩ (fun _ h => List.mem_cons_of_mem _ h) ⟨rfl, rfl, rfl⟩
 ·have r14 := ifBF r6 c9; clear r6
  refine Cov.skip ?_;refine Cov.seq ?_;refine Cov.seq ?_;refine Cov.region rfl ?_;refine Cov.q .ro (.move rfl) rfl ?_;refine Cov.region_end ?_
  refine Cov.cond rfl (fun c15 => ?_) (fun c15 => ?_)
  ·have r16 := ifT r14 c15; clear r14
   refine Cov.seq ?_;refine Cov.region rfl ?_;refine Cov.q .ro (.assign rfl) rfl ?_;refine Cov.region_end ?_
   cases r16
   refine Cov.retS (c := ⟨87, none⟩) (.inr ⟨_, rfl⟩) [.tmp 4] [_] rfl Try.func87 Try.results87 ⟨RV.tmp rfl, trivial⟩ (fun _ h => List.mem_cons_of_mem _ h) ⟨rfl, rfl, rfl⟩
  ·have r17 := ifBF r14 c15; clear r14
   refine Cov.skip ?_;refine Cov.seq ?_;refine Cov.seq ?_;refine Cov.region rfl ?_;refine Cov.q .ro (.move rfl) rfl ?_;refine Cov.q .ro (.move rfl) rfl ?_;refine Cov.q .ro (.lss_d rfl rfl) rfl ?_;refine Cov.region_end ?_
   refine Cov.cond_dec rfl (fun c18 => ?_) (fun c18 => ?_)
   ·have r19 := ifT r17 c18; clear r17
    refine Cov.seq ?_;refine Cov.region rfl ?_;refine Cov.q .ro (.assign rfl) rfl ?_;refine Cov.region_end ?_;refine Cov.prune [(4, _)] ⟨rfl, trivial⟩ ?_
    cases r19
    refine Cov.retS (c := ⟨87, none⟩) (.inr ⟨_, rfl⟩) [.tmp 4] [_] rfl Try.func87 Try.results87 ⟨RV.tmp rfl, trivial⟩ (fun _ h => List.mem_cons_of_mem _ h) ⟨rfl, rfl, rfl⟩
   ·have r20 := ifF r17 c18; clear r17
    refine Cov.skip ?_;refine Cov.seq ?_;refine Cov.seq ?_;refine Cov.region rfl ?_;refine Cov.q .ro (.move rfl) rfl ?_;refine Cov.q .ro (.move rfl) rfl ?_;refine Cov.q .ro (.gtr_d rfl rfl) rfl ?_;refine Cov.region_end ?_;refine Cov.prune [(19, _)] ⟨rfl, trivial⟩ ?_
    refine Cov.cond_dec rfl (fun c21 => ?_) (fun c21 => ?_)
    ·have r22 := ifT r20 c21; clear r20
     refine Cov.seq ?_;refine Cov.region rfl ?_;refine Cov.q .ro (.assign rfl) rfl ?_;refine Cov.region_end ?_
     cases r22
     refine Cov.retS (c := ⟨87, none⟩) (.inr ⟨_, rfl⟩) [.tmp 4] [_] rfl Try.func87 Try.results87 ⟨RV.tmp rfl, trivial⟩ (fun _ h => List.mem_cons_of_mem _ h) ⟨rfl, rfl, rfl⟩
    ·have r23 := ifF r20 c21; clear r20
     refine Cov.skip ?_;refine Cov.seq ?_;refine Cov.region rfl ?_;refine Cov.q .ro (.assign rfl) rfl ?_;refine Cov.region_end ?_
     cases r23
     refine Cov.retS (c := ⟨87, none⟩) (.inr ⟨_, rfl⟩) [.tmp 4] [_] rfl Try.func87 Try.results87 ⟨RV.tmp rfl, trivial⟩ (fun _ h => List.mem_cons_of_mem _ h) ⟨rfl, rfl, rfl⟩
set_option maxHeartbeats 4000000 in
set_option maxRecDepth 100000 in
theorem keyword_by_apiEntrystring_f1_c {Fs : List Hp} {G : Hp} {x0_0 : ByteArray} {x0_1 : Int} {x1_0 : ByteArray} {x1_1 : Int} {p2 : Value} {r : Int} (hG : G ∈ Fs) (hp2 : Rp G p2 [.func (.func 83) #[] #[]]) (h : keyword_by_apiEntrystring_f1 (x0_0, x0_1) (x1_0, x1_1) = some r) : RetS Try.prog 86 #[.agg #[.string x0_0, .int .i64 x0_1], .agg #[.string x1_0, .int .i64 x1_1], p2] Fs [] [] (fun v bo so => v = .int .i64 r ∧ bo = [] ∧ so = []) := by
 unfold keyword_by_apiEntrystring_f1 at h
 try dsimp only at h
 refine RetS.of (vs := [_, _, _]) Try.func86 rfl Try.ntmps86 [(0, _), (1, _), (2, _)] ⟨rfl, rfl, rfl, trivial⟩ rfl hG fun w0 S0 hS0 B0 => ?_
 refine Cov.seq ?_;refine Cov.region rfl ?_
 refine Cov.box [_, _] .ro rfl rfl rfl (fun b1 hb1 => ?_)
 refine Cov.box [_, _] .ro rfl rfl rfl (fun b2 hb2 => ?_)
 refine Cov.q .ro (.assign rfl) rfl ?_;refine Cov.region_end ?_;refine Cov.seq ?_;refine Cov.drawL (.q 0 (.q 1 (.q 3 (.q 4 (.e 2 1 (.e 5 1 (.e 6 1 (.q 7 .nil)))))))) [_, _] (by kernel_rfl) (by kernel_rfl) (pick_mem [0, 1] rfl) ?_;refine Cov.dq (.load_rp hp2 List.mem_cons_self rfl ty130 rfl) rfl ?_;refine Cov.dq (.load_own_a 1 [_, _] rfl rfl ty63 rfl) rfl ?_;refine Cov.dq (.load_rp hp2 List.mem_cons_self rfl ty130 rfl) rfl ?_;refine Cov.dq (.load_own_a 0 [_, _] rfl rfl ty63 rfl) rfl ?_
 obtain ⟨u3, hu3, r4⟩ := bind_some h; clear h
 refine Cov.callS (b1 := []) (b2 := [_, _]) (s1 := []) [_] [] .d1 rfl rfl Try.call83 rfl rfl (keyword_order_f1_c (G := G) List.mem_cons_self  hu3) rfl (fun v6 bo so h5 => ?_)
 obtain ⟨rfl, rfl, rfl⟩ := h5
 refine Cov.same (bl' := [_, _]) (sl' := []) rfl rfl rfl ?_;refine Cov.clsL (HpLe.refl _) (pick_mem [0, 1] rfl) ?_
 obtain ⟨u7, hu7, r8⟩ := bind_some r4; clear r4
 refine Cov.callS (b1 := []) (b2 := [_, _]) (s1 := []) [_] [] .d1 rfl rfl Try.call83 rfl rfl (keyword_order_f1_c (G := G) List.mem_cons_self  hu7) rfl (fun v10 bo so h9 => ?_)
 obtain ⟨rfl, rfl, rfl⟩ := h9
 refine Cov.same (bl' := [_, _]) (sl' := []) rfl rfl rfl ?_;refine Cov.clsL (HpLe.refl _) (pick_mem [0, 1] rfl) ?_
 obtain ⟨u11, hu11, r12⟩ := bind_some r8; clear r8
 refine Cov.callS (b1 := []) (b2 := [_, _]) (s1 := []) [_, _] [] .d1 rfl rfl Try.call87 rfl rfl (cmp_Compare_string_c (G := G) List.mem_cons_self  hu11) rfl (fun v14 bo so h13 => ?_)
 obtain ⟨rfl, rfl, rfl⟩ := h13
 refine Cov.same (bl' := [_, _]) (sl' := []) rfl rfl rfl ?_;refine Cov.clsL (HpLe.refl _) (pick_mem [0, 1] rfl) ?_;refine Cov.dq (.assign rfl) rfl ?_;refine Cov.draw_end ?_
 cases r12
 refine Cov.drop 2 0 [] _ rfl rfl ?_
 refine Cov.retS (c := ⟨86, none⟩) (.inr ⟨_, rfl⟩) [.tmp 5] [_] rfl Try.func86 Try.results86 ⟨RV.tmp rfl, trivial⟩ (fun _ h => List.mem_cons_of_mem _ h) ⟨rfl, rfl, rfl⟩
set_option maxHeartbeats 4000000 in
set_option maxRecDepth 100000 in
theorem keyword_by_apiEntrystring_c {Fs : List Hp} {G : Hp}  {r : Unit} (hG : G ∈ Fs)  (h : keyword_by_apiEntrystring = some r) : RetW Try.prog 82 #[.func (.func 83) #[] #[]] Fs [] [] (fun v bo so G => ∃ pc0_0 : Value, v = .func (.func 86) #[] [pc0_0].toArray ∧ bo = [] ∧ so = [] ∧ Rp G pc0_0 [.func (.func 83) #[] #[]]) := by
 unfold keyword_by_apiEntrystring at h
 try dsimp only at h
 refine RetW.of (vs := [_]) Try.func82 rfl Try.ntmps82 [(0, _)] ⟨rfl, trivial⟩ rfl hG fun w0 S0 hS0 B0 => ?_
 refine Cov.seq ?_;refine Cov.region rfl ?_
 refine Cov.box [_] .ro rfl rfl rfl (fun b1 hb1 => ?_)
 refine Cov.q .ro (.assign rfl) rfl ?_;refine Cov.region_end ?_;refine Cov.seq ?_;refine Cov.region rfl ?_;refine Cov.q .ro (.makeFunc (vf := []) (vc := [_]) rfl rfl) rfl ?_;refine Cov.q .ro (.assign rfl) rfl ?_;refine Cov.region_end ?_
 refine Cov.freezeBR 0 rfl [] rfl B0 (fun G2 e3 B4 p5 => ?_)
 cases h
 refine Cov.retW (c := ⟨82, none⟩) (.inr ⟨_, rfl⟩) [.tmp 2] [_] rfl Try.func82 Try.results82 ⟨RV.tmp rfl, trivial⟩ (fun _ h => List.mem_cons_of_mem _ h) List.mem_cons_self B4 (by subst hS0; simp [blks]) (fun G' hg => ⟨_, rfl, rfl, rfl, (Rp.mono hg p5)⟩)
set_option maxHeartbeats 4000000 in
set_option maxRecDepth 100000 in
theorem keyword_order_c {Fs : List Hp} {G : Hp} {x0_0 : ByteArray} {x0_1 : Int} {x1_0 : ByteArray} {x1_1 : Int} {r : Int} (hG : G ∈ Fs)  (h : keyword_order (x0_0, x0_1) (x1_0, x1_1) = some r) : RetS Try.prog 71 #[.agg #[.string x0_0, .int .i64 x0_1], .agg #[.string x1_0, .int .i64 x1_1]] Fs [] [] (fun v bo so => v = .int .i64 r ∧ bo = [] ∧ so = []) := by
 unfold keyword_order at h
 try dsimp only at h
 refine RetS.of (vs := [_, _]) Try.func71 rfl Try.ntmps71 [(0, _), (1, _)] ⟨rfl, rfl, trivial⟩ rfl hG fun w0 S0 hS0 B0 => ?_
 refine Cov.seq ?_;refine Cov.region rfl ?_
 refine Cov.box [_, _] .ro rfl rfl rfl (fun b1 hb1 => ?_)
 refine Cov.box [_, _] .ro rfl rfl rfl (fun b2 hb2 => ?_)
 refine Cov.q .ro (.assign rfl) rfl ?_;refine Cov.region_end ?_;refine Cov.seq ?_;refine Cov.drawL (.q 1 (.q 2 (.e 0 1 (.e 3 1 (.q 4 .nil))))) [_, _] (by kernel_rfl) (by kernel_rfl) (pick_mem [0, 1] rfl) ?_;refine Cov.dq (.load_own_a 1 [_, _] rfl rfl ty63 rfl) rfl ?_;refine Cov.dq (.load_own_a 0 [_, _] rfl rfl ty63 rfl) rfl ?_
 obtain ⟨u3, hu3, r4⟩ := bind_some h; clear h
 refine Cov.callW (b1 := []) (b2 := [_, _]) (s1 := []) [_] [] .d1 rfl rfl Try.call82 rfl rfl (keyword_by_apiEntrystring_c (G := G) List.mem_cons_self  hu3) rfl B0 (fun v6 bo so G7 e8 B9 h5 => ?_)
 obtain ⟨p11, rfl, rfl, rfl, hp12⟩ := h5
 refine Cov.same (bl' := [_, _]) (sl' := []) rfl rfl rfl ?_;refine Cov.clsL e8 (pick_mem [0, 1] rfl) ?_
 obtain ⟨u13, hu13, r14⟩ := bind_some r4; clear r4
 refine Cov.callS (b1 := []) (b2 := [_, _]) (s1 := []) [_, _] [_] .d1 rfl rfl Try.call86 rfl rfl (keyword_by_apiEntrystring_f1_c (G := G7) List.mem_cons_self hp12 hu13) rfl (fun v16 bo so h15 => ?_)
 obtain ⟨rfl, rfl, rfl⟩ := h15
 refine Cov.same (bl' := [_, _]) (sl' := []) rfl rfl rfl ?_;refine Cov.clsL e8 (pick_mem [0, 1] rfl) ?_;refine Cov.dq (.assign rfl) rfl ?_;refine Cov.draw_end ?_
 cases r14
 refine Cov.drop 2 0 [] _ rfl rfl ?_
 refine Cov.retS (c := ⟨71, none⟩) (.inr ⟨_, rfl⟩) [.tmp 4] [_] rfl Try.func71 Try.results71 ⟨RV.tmp rfl, trivial⟩ (fun _ h => List.mem_cons_of_mem _ h) ⟨rfl, rfl, rfl⟩
set_option maxHeartbeats 4000000 in
set_option maxRecDepth 100000 in
theorem keyword_ascends_c {Fs : List Hp} {G : Hp} {a0 : Option Addr} {k0 : Nat} {x0 : List (ByteArray × Int)} {r : Bool} (hG : G ∈ Fs) (s0 : SlR (Rep.pair Rep.str (Rep.int .i64)) G a0 k0 x0) (h : keyword_ascends x0 = some r) : RetS Try.prog 52 #[.slice a0 x0.length k0] Fs [] [] (fun v bo so => v = .bool r ∧ bo = [] ∧ so = []) := by
 unfold keyword_ascends at h
 try dsimp only at h
 refine RetS.of (vs := [_]) Try.func52 rfl Try.ntmps52 [(0, _)] ⟨rfl, trivial⟩ rfl hG fun w0 S0 hS0 B0 => ?_
 refine Cov.seq ?_;refine Cov.region rfl ?_;refine Cov.q .ro (.assign rfl) rfl ?_;refine Cov.region_end ?_;refine Cov.seq ?_;refine Cov.seq ?_;refine Cov.region rfl ?_;refine Cov.q .ro (.move rfl) rfl ?_;refine Cov.q .ro (.len_sl rfl rfl sl32) rfl ?_
 refine Cov.q .ro (.move rfl) rfl ?_;refine Cov.region_end ?_;refine Cov.block ?_
 refine Cov.loop2 (α := Nat × (List (ByteArray × Int))) (fun y => [(7, .int .i64 (y.1 : Int))]) [(0, _), (5, _), (6, _)] (fun y => []) (fun y => []) [] (fun y => []) [] (fun y => List.drop y.1 x0 = y.2 ∧ keyword_ascends_L1 x0 y.2 y.1  = some r) (fun y => y.2.length) (0, x0) ⟨rfl, h⟩ ⟨rfl, rfl, rfl, rfl, trivial⟩ rfl rfl rfl (fun y hI hb87 => ?_)
 obtain ⟨i83, w84⟩ := y
 obtain ⟨g85, r86⟩ := hI
 try dsimp only at g85 r86
 refine Cov.prune [(7, .int .i64 (i83 : Int)), (0, _), (5, _), (6, _)] ⟨rfl, rfl, rfl, rfl, trivial⟩ ?_;refine Cov.same (bl' := []) (sl' := []) (Fs' := G :: Fs) rfl rfl rfl ?_
 cases w84 with
 | nil =>
  rw [keyword_ascends_L1] at r86; try dsimp only at r86
  refine Cov.seq ?_;refine Cov.region rfl ?_;refine Cov.q .ro (.lss rfl rfl) rfl ?_;refine Cov.region_end ?_;refine Cov.seq ?_
  refine Cov.cond_dec rfl (fun c => absurd c (drop_nil g85)) (fun _ => ?_)
  refine Cov.exit rfl ?_;refine Cov.seq ?_;refine Cov.region rfl ?_;refine Cov.q .ro (.assign rfl) rfl ?_;refine Cov.region_end ?_
  cases r86
  refine Cov.retS (c := ⟨52, none⟩) (.inr ⟨_, rfl⟩) [.tmp 2] [_] rfl Try.func52 Try.results52 ⟨RV.tmp rfl, trivial⟩ (fun _ h => List.mem_cons_of_mem _ h) ⟨rfl, rfl, rfl⟩
 | cons x91 xs92 =>
  have r90 : keyword_ascends_B1 x0 (keyword_ascends_L1 x0 xs92 (i83 + 1)) x91 i83  = some r := r86; clear r86; unfold keyword_ascends_B1 at r90; try dsimp only at r90
  refine Cov.seq ?_;refine Cov.region rfl ?_;refine Cov.q .ro (.lss rfl rfl) rfl ?_;refine Cov.region_end ?_;refine Cov.seq ?_
  refine Cov.cond_dec rfl (fun _ => ?_) (fun c => absurd (drop_lt g85) c)
  refine Cov.skip ?_;refine Cov.seq ?_;refine Cov.block ?_;refine Cov.seq ?_;refine Cov.region rfl ?_;refine Cov.q .ro (.move rfl) rfl ?_
  obtain ⟨c93, p94, h95⟩ := SlR.get s0 (drop_idx g85)
  obtain ⟨_, _, rfl, rfl, rfl⟩ := h95
  refine Cov.q .ro (.idxR s0 rfl rfl (drop_idx g85) sl32 ty63.sz) rfl ?_;refine Cov.q .ro (.load_rp_a [_, _] p94 List.mem_cons_self rfl ty63 rfl) rfl ?_
  refine Cov.alloc .ro ty63 rfl (fun b96 hb96 => ?_)
  refine Cov.q .ro (.assign rfl) rfl ?_;refine Cov.store 0 [_, _] [_] .ro rfl rfl rfl ty63 rfl rfl rfl rfl ?_;refine Cov.region_end ?_;refine Cov.seq ?_;refine Cov.drawL (.q 0 (.e 1 1 (.q 2 (.q 3 (.q 4 (.q 5 (.q 6 (.q 7 (.q 8 (.q 9 (.q 10 (.q 11 (.q 12 (.e 13 1 (.q 14 (.q 15 (.q 16 .nil))))))))))))))))) [_] (by kernel_rfl) (by kernel_rfl) (pick_mem [0] rfl) ?_;refine Cov.dq (.load_own_a 0 [_, _] rfl rfl ty63 rfl) rfl ?_
  obtain ⟨u97, hu97, r98⟩ := bind_some r90; clear r90
  refine Cov.callS (b1 := []) (b2 := [_]) (s1 := []) [_] [] .d1 rfl rfl Try.call70 rfl rfl (keyword_valid_c (G := G) List.mem_cons_self  hu97) rfl (fun v100 bo so h99 => ?_)
  obtain ⟨rfl, rfl, rfl⟩ := h99
  refine Cov.same (bl' := [_]) (sl' := []) rfl rfl rfl ?_;refine Cov.clsL (HpLe.refl _) (pick_mem [0] rfl) ?_;refine Cov.dq (.not rfl) rfl ?_;refine Cov.dq (.move rfl) rfl ?_
  obtain ⟨u130, h131, r132⟩ := bind_some r98; clear r98
  refine Cov.cutD 13 (β := Unit) (fun y => [(28, .bool u130)]) [(7, _), (0, _), (5, _), (6, _)] (fun y => G :: Fs) (fun y => []) [_] (fun y => []) [] (fun y => True) ⟨rfl, rfl, rfl, rfl, trivial⟩ [0] rfl [] rfl ?_ ?_
  ·rintro _ _
   refine Cov.prune [(28, .bool u130), (7, _), (0, _), (5, _), (6, _)] ⟨rfl, rfl, rfl, rfl, rfl, trivial⟩ ?_;refine Cov.same (bl' := [_]) (sl' := []) (Fs' := G :: Fs) rfl rfl rfl ?_;refine Cov.draw_end ?_
   refine Cov.cond rfl (fun c135 => ?_) (fun c135 => ?_)
   ·have r136 := ifT r132 c135; clear r132
    refine Cov.seq ?_;refine Cov.region rfl ?_;refine Cov.q .ro (.assign rfl) rfl ?_;refine Cov.region_end ?_
    cases r136
    refine Cov.drop 1 0 [] _ rfl rfl ?_
    refine Cov.retS (c := ⟨52, none⟩) (.inr ⟨_, rfl⟩) [.tmp 2] [_] rfl Try.func52 Try.results52 ⟨RV.tmp rfl, trivial⟩ (fun _ h => List.mem_cons_of_mem _ h) ⟨rfl, rfl, rfl⟩
   ·have r137 := ifBF r132 c135; clear r132
    refine Cov.skip ?_;refine Cov.inBlock ?_;refine Cov.region rfl ?_;refine Cov.q .ro (.addw rfl rfl) rfl ?_;refine Cov.q .ro (.move rfl) rfl ?_;refine Cov.region_end ?_;refine Cov.drop 1 0 [] _ rfl rfl ?_
    refine Cov.prune _ ?_ (Cov.same rfl rfl rfl (hb87 ((i83 + 1), xs92) ⟨(drop_succ g85), r137⟩ (Nat.lt_succ_self _)))
    exact ⟨(congrArg (fun z => some (Value.int .i64 z)) (idx_wrap (SlR.len s0) g85)), rfl, rfl, rfl, trivial⟩
  ·intro hb129
   refine Cov.split_b 15 rfl (fun c128 => ?_) (fun c128 => ?_)
   ·have r138 := ifT h131 c128
    refine Cov.dgq_off rfl rfl rfl ?_;refine Cov.dgq_off rfl rfl rfl ?_;refine Cov.dgq_off rfl rfl rfl ?_;refine Cov.dgqu_off rfl rfl ?_;refine Cov.dgqu_off rfl rfl ?_;refine Cov.dgqu_off rfl rfl ?_;refine Cov.dgqu_off rfl rfl ?_;refine Cov.dgqu_off rfl rfl ?_;refine Cov.dgqu_off rfl rfl ?_
    refine Cov.dgeu_offL rfl rfl (HpLe.refl _) (pick_mem [0] rfl) ?_;refine Cov.dgqu_off rfl rfl ?_;refine Cov.dgq_off rfl rfl rfl ?_;refine Cov.dq (.pick_t rfl rfl) rfl ?_
    refine Cov.prune _ ?_ (Cov.same rfl rfl rfl (hb129 () trivial))
    exact ⟨sval r138, rfl, rfl, rfl, rfl, trivial⟩
   ·have r139 := ifBF h131 c128
    refine Cov.dgq_on rfl ?_;refine Cov.dq (.move rfl) rfl ?_;refine Cov.dgq_on rfl ?_;refine Cov.dq (.gtr rfl rfl) rfl ?_;refine Cov.dgq_on rfl ?_;refine Cov.dq (.move rfl) rfl ?_
    obtain ⟨u151, h152, r153⟩ := bind_some r139; clear r139
    refine Cov.cutD 9 (β := Unit) (fun y => [(27, .bool u151)]) [(7, _), (0, _), (5, _), (6, _), (15, _), (16, _), (17, _)] (fun y => G :: Fs) (fun y => []) [_] (fun y => []) [] (fun y => True) ⟨rfl, rfl, rfl, rfl, rfl, rfl, rfl, trivial⟩ [0] rfl [] rfl ?_ ?_
    ·rintro _ _
     refine Cov.prune [(27, .bool u151), (7, _), (0, _), (5, _), (6, _), (15, _), (16, _), (17, _)] ⟨rfl, rfl, rfl, rfl, rfl, rfl, rfl, rfl, trivial⟩ ?_;refine Cov.same (bl' := [_]) (sl' := []) (Fs' := G :: Fs) rfl rfl rfl ?_;refine Cov.dq (.pick_f rfl rfl) rfl ?_
     refine Cov.prune _ ?_ (Cov.same rfl rfl rfl (hb129 () trivial))
     exact ⟨sval r153, rfl, rfl, rfl, rfl, trivial⟩
    ·intro hb150
     refine Cov.split 18 rfl (fun c149 => ?_) (fun c149 => ?_)
     ·have r156 := ifT h152 c149
      refine Cov.dgq_on rfl ?_;refine Cov.dq (.move rfl) rfl ?_;refine Cov.dgq_on rfl ?_;refine Cov.dq (.move rfl) rfl ?_;refine Cov.dgq_on rfl ?_;refine Cov.dq (.subw rfl rfl) rfl ?_;refine Cov.dgq_on rfl ?_
      obtain ⟨u157, hu157, r158⟩ := bind_some r156; clear r156
      obtain ⟨c159, p160, h161⟩ := SlR.get s0 hu157
      obtain ⟨_, _, rfl, rfl, rfl⟩ := h161
      refine Cov.dq (.idxR s0 rfl rfl hu157 sl32 ty63.sz) rfl ?_;refine Cov.dgq_on rfl ?_;refine Cov.dq (.load_rp_a [_, _] p160 List.mem_cons_self rfl ty63 rfl) rfl ?_;refine Cov.dgq_on rfl ?_;refine Cov.dq (.load_own_a 0 [_, _] rfl rfl ty63 rfl) rfl ?_;refine Cov.dge_on rfl ?_
      obtain ⟨u162, hu162, r163⟩ := bind_some r158; clear r158
      refine Cov.callS (b1 := []) (b2 := [_]) (s1 := []) [_, _] [] .d1 rfl rfl Try.call71 rfl rfl (keyword_order_c (G := G) List.mem_cons_self  hu162) rfl (fun v165 bo so h164 => ?_)
      obtain ⟨rfl, rfl, rfl⟩ := h164
      refine Cov.same (bl' := [_]) (sl' := []) rfl rfl rfl ?_;refine Cov.clsL (HpLe.refl _) (pick_mem [0] rfl) ?_;refine Cov.dgq_on rfl ?_;refine Cov.dq (.geq rfl rfl) rfl ?_;refine Cov.dgq_on rfl ?_;refine Cov.dq (.pick_t rfl rfl) rfl ?_
      refine Cov.prune _ ?_ (Cov.same rfl rfl rfl (hb150 () trivial))
      exact ⟨sval r163, rfl, rfl, rfl, rfl, rfl, rfl, rfl, trivial⟩
     ·have r166 := ifF h152 c149
      refine Cov.dgq_off rfl rfl rfl ?_;refine Cov.dgq_off rfl rfl rfl ?_;refine Cov.dgq_off rfl rfl rfl ?_;refine Cov.dgq_off rfl rfl rfl ?_;refine Cov.dgq_off rfl rfl rfl ?_;refine Cov.dgq_off rfl rfl rfl ?_;refine Cov.dge_offL rfl rfl rfl (HpLe.refl _) (pick_mem [0] rfl) ?_;refine Cov.dgq_off rfl rfl rfl ?_;refine Cov.dgq_on rfl ?_
      refine Cov.dq (.pick_f rfl rfl) rfl ?_
      refine Cov.prune _ ?_ (Cov.same rfl rfl rfl (hb150 () trivial))
      exact ⟨sval r166, rfl, rfl, rfl, rfl, rfl, rfl, rfl, trivial⟩
set_option maxHeartbeats 4000000 in
set_option maxRecDepth 100000 in
theorem slices_Index_Lintint_c {Fs : List Hp} {G : Hp} {a0 : Option Addr} {k0 : Nat} {x0 : List Int} {x1 : Int} {r : Int} (hG : G ∈ Fs) (s0 : SlR (Rep.int .i64) G a0 k0 x0) (h : slices_Index_Lintint x0 x1 = some r) : RetS Try.prog 72 #[.slice a0 x0.length k0, .int .i64 x1] Fs [] [] (fun v bo so => v = .int .i64 r ∧ bo = [] ∧ so = []) := by
 unfold slices_Index_Lintint at h
 try dsimp only at h
 refine RetS.of (vs := [_, _]) Try.func72 rfl Try.ntmps72 [(0, _), (1, _)] ⟨rfl, rfl, trivial⟩ rfl hG fun w0 S0 hS0 B0 => ?_
 refine Cov.seq ?_;refine Cov.region rfl ?_;refine Cov.q .ro (.assign rfl) rfl ?_;refine Cov.region_end ?_;refine Cov.seq ?_;refine Cov.seq ?_;refine Cov.region rfl ?_;refine Cov.q .ro (.move rfl) rfl ?_;refine Cov.q .ro (.len_sl rfl rfl sl39) rfl ?_
 refine Cov.q .ro (.move rfl) rfl ?_;refine Cov.region_end ?_;refine Cov.block ?_
 refine Cov.loop2 (α := Nat × List Int) (fun y => [(8, .int .i64 (y.1 : Int))]) [(0, _), (1, _), (7, _)] (fun y => []) (fun y => []) [] (fun y => []) [] (fun y => List.drop y.1 x0 = y.2 ∧ slices_Index_Lintint_L1 x1 y.2 y.1  = some r) (fun y => y.2.length) (0, x0) ⟨rfl, h⟩ ⟨rfl, rfl, rfl, rfl, trivial⟩ rfl rfl rfl (fun y hI hb19 => ?_)
 obtain ⟨i15, w16⟩ := y
 obtain ⟨g17, r18⟩ := hI
 try dsimp only at g17 r18
 refine Cov.prune [(8, .int .i64 (i15 : Int)), (0, _), (1, _), (7, _)] ⟨rfl, rfl, rfl, rfl, trivial⟩ ?_;refine Cov.same (bl' := []) (sl' := []) (Fs' := G :: Fs) rfl rfl rfl ?_
 cases w16 with
 | nil =>
  rw [slices_Index_Lintint_L1] at r18; try dsimp only at r18
  refine Cov.seq ?_;refine Cov.region rfl ?_;refine Cov.q .ro (.lss rfl rfl) rfl ?_;refine Cov.region_end ?_;refine Cov.seq ?_
  refine Cov.cond_dec rfl (fun c => absurd c (drop_nil g17)) (fun _ => ?_)
  refine Cov.exit rfl ?_;refine Cov.seq ?_;refine Cov.region rfl ?_;refine Cov.q .ro (.assign rfl) rfl ?_;refine Cov.region_end ?_
  cases r18
  refine Cov.retS (c := ⟨72, none⟩) (.inr ⟨_, rfl⟩) [.tmp 4] [_] rfl Try.func72 Try.results72 ⟨RV.tmp rfl, trivial⟩ (fun _ h => List.mem_cons_of_mem _ h) ⟨rfl, rfl, rfl⟩
 | cons x24 xs25 =>
  have r23 : slices_Index_Lintint_B1 x1 (slices_Index_Lintint_L1 x1 xs25 (i15 + 1)) x24 i15  = some r := r18; clear r18; unfold slices_Index_Lintint_B1 at r23; try dsimp only at r23
  refine Cov.seq ?_;refine Cov.region rfl ?_;refine Cov.q .ro (.lss rfl rfl) rfl ?_;refine Cov.region_end ?_;refine Cov.seq ?_
  refine Cov.cond_dec rfl (fun _ => ?_) (fun c => absurd (drop_lt g17) c)
  refine Cov.skip ?_;refine Cov.seq ?_;refine Cov.block ?_;refine Cov.seq ?_;refine Cov.region rfl ?_;refine Cov.q .ro (.move rfl) rfl ?_;refine Cov.q .ro (.assign rfl) rfl ?_;refine Cov.region_end ?_;refine Cov.seq ?_
  refine Cov.region rfl ?_;refine Cov.q .ro (.move rfl) rfl ?_;refine Cov.q .ro (.move rfl) rfl ?_;refine Cov.q .ro (.move rfl) rfl ?_
  obtain ⟨c26, p27, h28⟩ := SlR.get s0 (drop_idx g17)
  obtain rfl := h28
  refine Cov.q .ro (.idxR s0 rfl rfl (drop_idx g17) sl39 ty3.sz) rfl ?_;refine Cov.q .ro (.load_rp p27 List.mem_cons_self rfl ty3 rfl) rfl ?_;refine Cov.q .ro (.eql rfl rfl) rfl ?_;refine Cov.region_end ?_
  refine Cov.cond_dec rfl (fun c29 => ?_) (fun c29 => ?_)
  ·have r30 := ifT r23 c29; clear r23
   refine Cov.seq ?_;refine Cov.region rfl ?_;refine Cov.q .ro (.move rfl) rfl ?_;refine Cov.q .ro (.assign rfl) rfl ?_;refine Cov.region_end ?_;refine Cov.prune [(4, _)] ⟨rfl, trivial⟩ ?_
   cases r30
   refine Cov.retS (c := ⟨72, none⟩) (.inr ⟨_, rfl⟩) [.tmp 4] [_] rfl Try.func72 Try.results72 ⟨RV.tmp rfl, trivial⟩ (fun _ h => List.mem_cons_of_mem _ h) ⟨rfl, rfl, rfl⟩
  ·have r31 := ifF r23 c29; clear r23
   refine Cov.skip ?_;refine Cov.inBlock ?_;refine Cov.region rfl ?_;refine Cov.q .ro (.addw rfl rfl) rfl ?_;refine Cov.q .ro (.move rfl) rfl ?_;refine Cov.region_end ?_
   refine Cov.prune _ ?_ (Cov.same rfl rfl rfl (hb19 ((i15 + 1), xs25) ⟨(drop_succ g17), r31⟩ (Nat.lt_succ_self _)))
   exact ⟨(congrArg (fun z => some (Value.int .i64 z)) (idx_wrap (SlR.len s0) g17)), rfl, rfl, rfl, trivial⟩
set_option maxHeartbeats 4000000 in
set_option maxRecDepth 100000 in
theorem slices_Contains_Lintint_c {Fs : List Hp} {G : Hp} {a0 : Option Addr} {k0 : Nat} {x0 : List Int} {x1 : Int} {r : Bool} (hG : G ∈ Fs) (s0 : SlR (Rep.int .i64) G a0 k0 x0) (h : slices_Contains_Lintint x0 x1 = some r) : RetS Try.prog 53 #[.slice a0 x0.length k0, .int .i64 x1] Fs [] [] (fun v bo so => v = .bool r ∧ bo = [] ∧ so = []) := by
 unfold slices_Contains_Lintint at h
 try dsimp only at h
 refine RetS.of (vs := [_, _]) Try.func53 rfl Try.ntmps53 [(0, _), (1, _)] ⟨rfl, rfl, trivial⟩ rfl hG fun w0 S0 hS0 B0 => ?_
 refine Cov.seq ?_;refine Cov.region rfl ?_;refine Cov.q .ro (.assign rfl) rfl ?_;refine Cov.region_end ?_;refine Cov.seq ?_;refine Cov.region rfl ?_;refine Cov.q .ro (.move rfl) rfl ?_;refine Cov.q .ro (.move rfl) rfl ?_
 obtain ⟨u1, hu1, r2⟩ := bind_some h; clear h
 refine Cov.callS (b1 := []) (b2 := []) (s1 := []) [_, _] [] .ro rfl rfl Try.call72 rfl rfl (slices_Index_Lintint_c (G := G) List.mem_cons_self s0 hu1) rfl (fun v4 bo so h3 => ?_)
 obtain ⟨rfl, rfl, rfl⟩ := h3
 refine Cov.same (bl' := []) (sl' := []) rfl rfl rfl ?_;refine Cov.q .ro (.geq rfl rfl) rfl ?_;refine Cov.q .ro (.assign rfl) rfl ?_;refine Cov.region_end ?_
 cases r2
 refine Cov.retS (c := ⟨53, none⟩) (.inr ⟨_, rfl⟩) [.tmp 4] [_] rfl Try.func53 Try.results53 ⟨RV.tmp rfl, trivial⟩ (fun _ h => List.mem_cons_of_mem _ h) ⟨rfl, rfl, rfl⟩
set_option maxHeartbeats 4000000 in
set_option maxRecDepth 100000 in
theorem keyword_Check_c {Fs : List Hp} {G : Hp} {x0_0 : Int} {a0_1 : Option Addr} {k0_1 : Nat} {x0_1 : List (Int × Int)} {x0_2 : Int} {a0_3 : Option Addr} {k0_3 : Nat} {x0_3 : List (List (ByteArray × Int))} {r : Int} (hG : G ∈ Fs) (s0_1 : SlR (Rep.pair (Rep.int .i64) (Rep.int .i64)) G a0_1 k0_1 x0_1) (s0_3 : SlR (Rep.sl (Rep.pair Rep.str (Rep.int .i64))) G a0_3 k0_3 x0_3) (h : keyword_Check ((x0_0, x0_1), x0_2, x0_3) = some r) : RetS Try.prog 28 #[.agg #[.int .i64 x0_0, .slice a0_1 x0_1.length k0_1, .int .i64 x0_2, .slice a0_3 x0_3.length k0_3]] Fs [] [] (fun v bo so => v = .int .i64 r ∧ bo = [] ∧ so = []) := by
 unfold keyword_Check at h
 try dsimp only at h
 refine RetS.of (vs := [_]) Try.func28 rfl Try.ntmps28 [(0, _)] ⟨rfl, trivial⟩ rfl hG fun w0 S0 hS0 B0 => ?_
 refine Cov.seq ?_;refine Cov.region rfl ?_
 refine Cov.box [_, _, _, _] .ro rfl rfl rfl (fun b1 hb1 => ?_)
 refine Cov.q .ro (.assign rfl) rfl ?_;refine Cov.region_end ?_;refine Cov.seq ?_;refine Cov.seq ?_;refine Cov.region rfl ?_;refine Cov.q .ro (.fieldAddr 0 rfl fl31_0 ty28.sz rfl) rfl ?_;refine Cov.q .ro (.load_own_a 0 [_, _] rfl rfl ty28 rfl) rfl ?_
 obtain ⟨u2, hu2, r3⟩ := bind_some h; clear h
 refine Cov.callS (b1 := []) (b2 := [_]) (s1 := []) [_] [] .ro rfl rfl Try.call41 rfl rfl (cuckoo_Check_c (G := G) List.mem_cons_self s0_1 hu2) rfl (fun v5 bo so h4 => ?_)
 obtain ⟨rfl, rfl, rfl⟩ := h4
 refine Cov.same (bl' := [_]) (sl' := []) rfl rfl rfl ?_;refine Cov.q .ro (.neq rfl rfl) rfl ?_;refine Cov.q .ro (.move rfl) rfl ?_
 obtain ⟨u12, h13, r14⟩ := bind_some r3; clear r3
 refine Cov.cutR 5 (β := Unit) (fun y => [(17, .bool u12)]) [(1, _)] (fun y => G :: Fs) (fun y => []) [_] (fun y => []) [] (fun y => True) ⟨rfl, trivial⟩ [0] rfl [] rfl ?_ ?_
 ·rintro _ _
  refine Cov.prune [(17, .bool u12), (1, _)] ⟨rfl, rfl, trivial⟩ ?_;refine Cov.same (bl' := [_]) (sl' := []) (Fs' := G :: Fs) rfl rfl rfl ?_;refine Cov.q .ro (.move rfl) rfl ?_;refine Cov.cutR 8 (β := Unit) (fun y => [(26, .bool (decide ((u12 = true) ∨ ((x0_3.length : Int) ≠ x0_0))))]) [(1, _)] (fun y => G :: Fs) (fun y => []) [_] (fun y => []) [] (fun y => True) ⟨rfl, trivial⟩ [0] rfl [] rfl ?_ ?_
  ·rintro _ _
   refine Cov.prune [(26, .bool (decide ((u12 = true) ∨ ((x0_3.length : Int) ≠ x0_0)))), (1, _)] ⟨rfl, rfl, trivial⟩ ?_;refine Cov.same (bl' := [_]) (sl' := []) (Fs' := G :: Fs) rfl rfl rfl ?_;refine Cov.region_end ?_
   refine Cov.cond_dec rfl (fun c21 => ?_) (fun c21 => ?_)
   ·have r22 := ifT r14 c21; clear r14
    refine Cov.seq ?_;refine Cov.region rfl ?_;refine Cov.q .ro (.assign rfl) rfl ?_;refine Cov.region_end ?_
    cases r22
    refine Cov.drop 1 0 [] _ rfl rfl ?_
    refine Cov.retS (c := ⟨28, none⟩) (.inr ⟨_, rfl⟩) [.tmp 2] [_] rfl Try.func28 Try.results28 ⟨RV.tmp rfl, trivial⟩ (fun _ h => List.mem_cons_of_mem _ h) ⟨rfl, rfl, rfl⟩
   ·have r23 := ifF r14 c21; clear r14
    refine Cov.skip ?_;refine Cov.seq ?_;refine Cov.region rfl ?_
    refine Cov.mkMap (Value.string) (Value.bool) .ro rfl (fun b24 hb24 => ?_)
    refine Cov.q .ro (.assign rfl) rfl ?_;refine Cov.region_end ?_;refine Cov.seq ?_;refine Cov.seq ?_;refine Cov.region rfl ?_;refine Cov.q .ro (.fieldAddr 3 rfl fl31_2 ty29.sz rfl) rfl ?_;refine Cov.q .ro (.load_own 1 rfl rfl ty29 rfl) rfl ?_;refine Cov.q .ro (.len_sl rfl rfl sl29) rfl ?_;refine Cov.q .ro (.move rfl) rfl ?_
    refine Cov.region_end ?_;refine Cov.block ?_;refine Cov.pull 1 rfl [_, _] rfl ?_;refine Cov.pull 1 rfl [_, _] rfl ?_
    refine Cov.loop2 (α := Nat × (List (List (ByteArray × Int))) × Hp × (List (ByteArray × Bool)) × Int × Int) (fun y => [(31, .int .i64 (y.1 : Int))]) [(1, _), (3, _), (29, _), (30, _)] (fun y => [y.2.2.1]) (fun y => [(b24, mObj (Value.string) (Value.bool) y.2.2.2.1), (b1, .cells #[.int .i64 y.2.2.2.2.1, .slice a0_1 x0_1.length k0_1, .int .i64 y.2.2.2.2.2, .slice a0_3 x0_3.length k0_3] 31 (0, 0))]) [] (fun y => []) [] (fun y => HpLe G y.2.2.1 ∧ Bd w0 S0 Fs y.2.2.1 ∧ List.drop y.1 x0_3 = y.2.1 ∧ keyword_Check_L2 x0_1 y.2.1 y.1 y.2.2.2.1 y.2.2.2.2.1 y.2.2.2.2.2 = some r) (fun y => y.2.1.length) (0, x0_3, G, ([] : List (ByteArray × Bool)), x0_0, x0_2) ⟨(HpLe.refl _), B0, rfl, r23⟩ ⟨rfl, rfl, rfl, rfl, rfl, trivial⟩ rfl rfl rfl (fun y hI hb212 => ?_)
    obtain ⟨i201, w202, G204, v208, v209, v210⟩ := y
    obtain ⟨e205, B206, g203, r211⟩ := hI
    try dsimp only at e205 B206 g203 r211
    refine Cov.prune [(31, .int .i64 (i201 : Int)), (1, _), (3, _), (29, _), (30, _)] ⟨rfl, rfl, rfl, rfl, rfl, trivial⟩ ?_;refine Cov.same (bl' := [(b24, mObj (Value.string) (Value.bool) v208), (b1, .cells #[.int .i64 v209, .slice a0_1 x0_1.length k0_1, .int .i64 v210, .slice a0_3 x0_3.length k0_3] 31 (0, 0))]) (sl' := []) (Fs' := G204 :: Fs) rfl rfl rfl ?_
    cases w202 with
    | nil =>
     rw [keyword_Check_L2] at r211; try dsimp only at r211
     refine Cov.seq ?_;refine Cov.region rfl ?_;refine Cov.q .ro (.lss rfl rfl) rfl ?_;refine Cov.region_end ?_;refine Cov.seq ?_
     refine Cov.cond_dec rfl (fun c => absurd c (drop_nil g203)) (fun _ => ?_)
     refine Cov.exit rfl ?_;refine Cov.seq ?_;refine Cov.region rfl ?_;refine Cov.q .ro (.assign rfl) rfl ?_;refine Cov.region_end ?_
     cases r211
     refine Cov.drop 2 0 [] _ rfl rfl ?_
     refine Cov.retS (c := ⟨28, none⟩) (.inr ⟨_, rfl⟩) [.tmp 2] [_] rfl Try.func28 Try.results28 ⟨RV.tmp rfl, trivial⟩ (fun _ h => List.mem_cons_of_mem _ h) ⟨rfl, rfl, rfl⟩
    | cons x217 xs218 =>
     have r216 : keyword_Check_B2 x0_1 (keyword_Check_L2 x0_1 xs218 (i201 + 1)) x217 i201 v208 v209 v210 = some r := r211; clear r211; unfold keyword_Check_B2 at r216; try dsimp only at r216
     refine Cov.seq ?_;refine Cov.region rfl ?_;refine Cov.q .ro (.lss rfl rfl) rfl ?_;refine Cov.region_end ?_;refine Cov.seq ?_
     refine Cov.cond_dec rfl (fun _ => ?_) (fun c => absurd (drop_lt g203) c)
     refine Cov.skip ?_;refine Cov.seq ?_;refine Cov.block ?_;refine Cov.seq ?_;refine Cov.region rfl ?_;refine Cov.q .ro (.move rfl) rfl ?_
     obtain ⟨c219, p220, h221⟩ := SlR.get (SlR.mono e205 s0_3) (drop_idx g203)
     obtain ⟨a222, k223, rfl, s224⟩ := h221
     refine Cov.q .ro (.idxR (SlR.mono e205 s0_3) rfl rfl (drop_idx g203) sl29 ty32.sz) rfl ?_;refine Cov.q .ro (.load_rp p220 List.mem_cons_self rfl ty32 rfl) rfl ?_;refine Cov.q .ro (.assign rfl) rfl ?_;refine Cov.q .ro (.assign rfl) rfl ?_;refine Cov.region_end ?_;refine Cov.seq ?_;refine Cov.seq ?_;refine Cov.region rfl ?_;refine Cov.q .ro (.move rfl) rfl ?_
     refine Cov.q .ro (.len_sl rfl rfl sl32) rfl ?_;refine Cov.q .ro (.fieldAddr 2 rfl fl31_1 ty3.sz rfl) rfl ?_;refine Cov.q .ro (.load_own 1 rfl rfl ty3 rfl) rfl ?_;refine Cov.q .ro (.gtr rfl rfl) rfl ?_;refine Cov.q .ro (.move rfl) rfl ?_
     obtain ⟨u231, h232, r233⟩ := bind_some r216; clear r216
     refine Cov.cutR 4 (β := Unit) (fun y => [(45, .bool u231)]) [(31, _), (1, _), (3, _), (29, _), (30, _), (4, _), (5, _)] (fun y => G204 :: Fs) (fun y => []) [_, _] (fun y => []) [] (fun y => True) ⟨rfl, rfl, rfl, rfl, rfl, rfl, rfl, trivial⟩ [0, 1] rfl [] rfl ?_ ?_
     ·rintro _ _
      refine Cov.prune [(45, .bool u231), (31, _), (1, _), (3, _), (29, _), (30, _), (4, _), (5, _)] ⟨rfl, rfl, rfl, rfl, rfl, rfl, rfl, rfl, trivial⟩ ?_;refine Cov.same (bl' := [_, _]) (sl' := []) (Fs' := G204 :: Fs) rfl rfl rfl ?_;refine Cov.region_end ?_
      refine Cov.cond rfl (fun c236 => ?_) (fun c236 => ?_)
      ·have r237 := ifT r233 c236; clear r233
       refine Cov.seq ?_;refine Cov.region rfl ?_;refine Cov.q .ro (.assign rfl) rfl ?_;refine Cov.region_end ?_
       cases r237
       refine Cov.drop 2 0 [] _ rfl rfl ?_
       refine Cov.retS (c := ⟨28, none⟩) (.inr ⟨_, rfl⟩) [.tmp 2] [_] rfl Try.func28 Try.results28 ⟨RV.tmp rfl, trivial⟩ (fun _ h => List.mem_cons_of_mem _ h) ⟨rfl, rfl, rfl⟩
      ·have r238 := ifBF r233 c236; clear r233
       refine Cov.skip ?_;refine Cov.seq ?_;refine Cov.region rfl ?_;refine Cov.q .ro (.move rfl) rfl ?_;refine Cov.q .ro (.len_sl rfl rfl sl32) rfl ?_;refine Cov.q .ro (.move rfl) rfl ?_;refine Cov.region_end ?_;refine Cov.block ?_
       refine Cov.loop2 (α := Nat × (List (ByteArray × Int)) × Hp × (List (ByteArray × Bool))) (fun y => [(48, .int .i64 (y.1 : Int))]) [(31, _), (1, _), (3, _), (29, _), (30, _), (4, _), (46, _), (47, _)] (fun y => [y.2.2.1]) (fun y => [(b24, mObj (Value.string) (Value.bool) y.2.2.2)]) [_] (fun y => []) [] (fun y => HpLe G204 y.2.2.1 ∧ Bd w0 S0 Fs y.2.2.1 ∧ List.drop y.1 x217 = y.2.1 ∧ keyword_Check_L1 (keyword_Check_L2 x0_1 xs218 (i201 + 1)) (i201 : Int) v209 x0_1 v210 y.2.1 y.2.2.2 = some r) (fun y => y.2.1.length) (0, x217, G204, v208) ⟨(HpLe.refl _), B206, rfl, r238⟩ ⟨rfl, rfl, rfl, rfl, rfl, rfl, rfl, rfl, rfl, trivial⟩ rfl rfl rfl (fun y hI hb313 => ?_)
       obtain ⟨i304, w305, G307, v311⟩ := y
       obtain ⟨e308, B309, g306, r312⟩ := hI
       try dsimp only at e308 B309 g306 r312
       refine Cov.prune [(48, .int .i64 (i304 : Int)), (31, _), (1, _), (3, _), (29, _), (30, _), (4, _), (46, _), (47, _)] ⟨rfl, rfl, rfl, rfl, rfl, rfl, rfl, rfl, rfl, trivial⟩ ?_;refine Cov.same (bl' := [(b24, mObj (Value.string) (Value.bool) v311), _]) (sl' := []) (Fs' := G307 :: Fs) rfl rfl rfl ?_
       cases w305 with
       | nil =>
        rw [keyword_Check_L1] at r312; try dsimp only at r312
        refine Cov.seq ?_;refine Cov.region rfl ?_;refine Cov.q .ro (.lss rfl rfl) rfl ?_;refine Cov.region_end ?_;refine Cov.seq ?_
        refine Cov.cond_dec rfl (fun c => absurd c (drop_nil g306)) (fun _ => ?_)
        refine Cov.exit rfl ?_;refine Cov.inBlock ?_;refine Cov.region rfl ?_;refine Cov.q .ro (.addw rfl rfl) rfl ?_;refine Cov.q .ro (.move rfl) rfl ?_;refine Cov.region_end ?_
        refine Cov.prune _ ?_ (Cov.same rfl rfl rfl (hb212 ((i201 + 1), xs218, G307, v311, v209, v210) ⟨(HpLe.trans e205 e308), B309, (drop_succ g203), r312⟩ (Nat.lt_succ_self _)))
        exact ⟨(congrArg (fun z => some (Value.int .i64 z)) (idx_wrap (SlR.len s0_3) g203)), rfl, rfl, rfl, rfl, trivial⟩
       | cons x323 xs324 =>
        have r322 : keyword_Check_B1 (keyword_Check_L2 x0_1 xs218 (i201 + 1)) (i201 : Int) v209 x0_1 v210 (keyword_Check_L1 (keyword_Check_L2 x0_1 xs218 (i201 + 1)) (i201 : Int) v209 x0_1 v210 xs324) x323 v311 = some r := r312; clear r312; unfold keyword_Check_B1 at r322; try dsimp only at r322
        refine Cov.seq ?_;refine Cov.region rfl ?_;refine Cov.q .ro (.lss rfl rfl) rfl ?_;refine Cov.region_end ?_;refine Cov.seq ?_
        refine Cov.cond_dec rfl (fun _ => ?_) (fun c => absurd (drop_lt g306) c)
        refine Cov.skip ?_;refine Cov.seq ?_;refine Cov.block ?_;refine Cov.seq ?_;refine Cov.region rfl ?_
        obtain ⟨c325, p326, h327⟩ := SlR.get (SlR.mono e308 s224) (drop_idx g306)
        obtain ⟨_, _, rfl, rfl, rfl⟩ := h327
        refine Cov.q .ro (.idxR (SlR.mono e308 s224) rfl rfl (drop_idx g306) sl32 ty63.sz) rfl ?_;refine Cov.q .ro (.load_rp_a [_, _] p326 List.mem_cons_self rfl ty63 rfl) rfl ?_
        refine Cov.alloc .ro ty63 rfl (fun b328 hb328 => ?_)
        refine Cov.store 0 [_, _] [_, _, _] .ro rfl rfl rfl ty63 rfl rfl rfl rfl ?_;refine Cov.region_end ?_;refine Cov.seq ?_;refine Cov.seq ?_;refine Cov.region rfl ?_;refine Cov.q .ro (.move rfl) rfl ?_;refine Cov.q .ro (.fieldAddr 0 rfl fl63_0 ty9.sz rfl) rfl ?_;refine Cov.q .ro (.load_own 0 rfl rfl ty9 rfl) rfl ?_;refine Cov.q .ro (.mapGet 1 (f := Value.string) (g := Value.bool) (l := v311) (x := x323.1) (z := false) rfl rfl rfl Try.underlying104 Try.underlying9 ik_str ij_str (by kernel_rfl)) rfl ?_
        refine Cov.q .ro (.move rfl) rfl ?_
        obtain ⟨u349, h350, r351⟩ := bind_some r322; clear r322
        refine Cov.cutR 9 (β := Hp) (fun y => [(65, .bool u349)]) [(48, _), (31, _), (1, _), (3, _), (29, _), (30, _), (4, _), (46, _), (47, _), (7, _)] (fun y => y :: Fs) (fun y => []) [_, _, _] (fun y => []) [] (fun y => HpLe G307 y ∧ Bd w0 S0 Fs y) ⟨rfl, rfl, rfl, rfl, rfl, rfl, rfl, rfl, rfl, rfl, trivial⟩ [0, 1, 2] rfl [] rfl ?_ ?_
        ·rintro G352 ⟨e353, B354⟩
         refine Cov.prune [(65, .bool u349), (48, _), (31, _), (1, _), (3, _), (29, _), (30, _), (4, _), (46, _), (47, _), (7, _)] ⟨rfl, rfl, rfl, rfl, rfl, rfl, rfl, rfl, rfl, rfl, rfl, trivial⟩ ?_;refine Cov.same (bl' := [_, _, _]) (sl' := []) (Fs' := G352 :: Fs) rfl rfl rfl ?_;refine Cov.region_end ?_
         refine Cov.cond rfl (fun c356 => ?_) (fun c356 => ?_)
         ·have r357 := ifT r351 c356; clear r351
          refine Cov.seq ?_;refine Cov.region rfl ?_;refine Cov.q .ro (.assign rfl) rfl ?_;refine Cov.region_end ?_
          cases r357
          refine Cov.drop 3 0 [] _ rfl rfl ?_
          refine Cov.retS (c := ⟨28, none⟩) (.inr ⟨_, rfl⟩) [.tmp 2] [_] rfl Try.func28 Try.results28 ⟨RV.tmp rfl, trivial⟩ (fun _ h => List.mem_cons_of_mem _ h) ⟨rfl, rfl, rfl⟩
         ·have r358 := ifBF r351 c356; clear r351
          refine Cov.skip ?_;refine Cov.region rfl ?_;refine Cov.q .ro (.move rfl) rfl ?_;refine Cov.q .ro (.fieldAddr 0 rfl fl63_0 ty9.sz rfl) rfl ?_;refine Cov.q .ro (.load_own 0 rfl rfl ty9 rfl) rfl ?_;refine Cov.mapPut 1 (f := Value.string) (g := Value.bool) (l := v311) (x := x323.1) (y := true) (.inl rfl) .ro rfl rfl rfl rfl Try.underlying104 Try.underlying9 ik_str ij_str _ rfl ?_;refine Cov.region_end ?_;refine Cov.inBlock ?_;refine Cov.region rfl ?_
          refine Cov.q .ro (.addw rfl rfl) rfl ?_;refine Cov.q .ro (.move rfl) rfl ?_;refine Cov.region_end ?_;refine Cov.drop 1 0 [_, _] _ rfl rfl ?_
          refine Cov.prune _ ?_ (Cov.same rfl rfl rfl (hb313 ((i304 + 1), xs324, G352, (mput v311 x323.1 true)) ⟨(HpLe.trans e308 e353), B354, (drop_succ g306), r358⟩ (Nat.lt_succ_self _)))
          exact ⟨(congrArg (fun z => some (Value.int .i64 z)) (idx_wrap (SlR.len s224) g306)), rfl, rfl, rfl, rfl, rfl, rfl, rfl, rfl, trivial⟩
        ·intro hb348
         refine Cov.split_b 56 rfl (fun c347 => ?_) (fun c347 => ?_)
         ·have r359 := ifT h350 c347
          refine Cov.g_off rfl rfl rfl ?_;refine Cov.g_off rfl rfl rfl ?_;refine Cov.g_off rfl rfl rfl ?_;refine Cov.g_off rfl rfl rfl ?_;refine Cov.g_off rfl rfl rfl ?_;refine Cov.g_off rfl rfl rfl ?_;refine Cov.g_off rfl rfl rfl ?_;refine Cov.g_off rfl rfl rfl ?_;refine Cov.q .ro (.pick_t rfl rfl) rfl ?_
          refine Cov.prune _ ?_ (Cov.same rfl rfl rfl (hb348 G307 ⟨(HpLe.refl _), B309⟩))
          exact ⟨sval r359, rfl, rfl, rfl, rfl, rfl, rfl, rfl, rfl, rfl, rfl, trivial⟩
         ·have r360 := ifBF h350 c347
          refine Cov.g_on rfl ?_;refine Cov.q .ro (.fieldAddr 0 rfl fl31_0 ty28.sz rfl) rfl ?_;refine Cov.g_on rfl ?_;refine Cov.q .ro (.load_own_a 2 [_, _] rfl rfl ty28 rfl) rfl ?_;refine Cov.g_on rfl ?_;refine Cov.q .ro (.fieldAddr 0 rfl fl63_0 ty9.sz rfl) rfl ?_;refine Cov.g_on rfl ?_;refine Cov.q .ro (.load_own 0 rfl rfl ty9 rfl) rfl ?_;refine Cov.g_on rfl ?_
          obtain ⟨u361, hu361, r362⟩ := bind_some r360; clear r360
          refine Cov.callS (b1 := []) (b2 := [_, _, _]) (s1 := []) [_, _] [] .ro rfl rfl Try.call43 rfl rfl (keyword_homes_c (G := G307) List.mem_cons_self (SlR.mono (HpLe.trans e205 e308) s0_1) hu361) rfl (fun v364 bo so h363 => ?_)
          obtain ⟨a366, k367, cs368, rfl, rfl, rfl, o369⟩ := h363
          refine Cov.same (bl' := [_, _, _]) (sl' := [_]) rfl rfl rfl ?_;refine Cov.g_on rfl ?_;refine Cov.q .ro (.move rfl) rfl ?_;refine Cov.g_on rfl ?_
          refine Cov.freezeR 0 rfl rfl o369 [] rfl B309 (fun G370 e371 B372 s373 => ?_)
          obtain ⟨u375, hu375, r376⟩ := bind_some r362; clear r362
          refine Cov.callS (b1 := []) (b2 := [_, _, _]) (s1 := []) [_, _] [] .ro rfl rfl Try.call53 rfl rfl (slices_Contains_Lintint_c (G := G370) List.mem_cons_self s373 hu375) rfl (fun v378 bo so h377 => ?_)
          obtain ⟨rfl, rfl, rfl⟩ := h377
          refine Cov.same (bl' := [_, _, _]) (sl' := []) rfl rfl rfl ?_;refine Cov.g_on rfl ?_;refine Cov.q .ro (.not rfl) rfl ?_;refine Cov.q .ro (.pick_f rfl rfl) rfl ?_
          refine Cov.prune _ ?_ (Cov.same rfl rfl rfl (hb348 G370 ⟨e371, B372⟩))
          exact ⟨sval r376, rfl, rfl, rfl, rfl, rfl, rfl, rfl, rfl, rfl, rfl, trivial⟩
     ·intro hb230
      refine Cov.split 41 rfl (fun c229 => ?_) (fun c229 => ?_)
      ·have r379 := ifT h232 c229
       refine Cov.g_off rfl rfl rfl ?_;refine Cov.g_off rfl rfl rfl ?_;refine Cov.g_off rfl rfl rfl ?_;refine Cov.q .ro (.pick_t rfl rfl) rfl ?_
       refine Cov.prune _ ?_ (Cov.same rfl rfl rfl (hb230 () trivial))
       exact ⟨sval r379, rfl, rfl, rfl, rfl, rfl, rfl, rfl, trivial⟩
      ·have r380 := ifF h232 c229
       refine Cov.g_on rfl ?_;refine Cov.q .ro (.move rfl) rfl ?_;refine Cov.g_on rfl ?_
       obtain ⟨u381, hu381, r382⟩ := bind_some r380; clear r380
       refine Cov.callS (b1 := []) (b2 := [_, _]) (s1 := []) [_] [] .ro rfl rfl Try.call52 rfl rfl (keyword_ascends_c (G := G204) List.mem_cons_self s224 hu381) rfl (fun v384 bo so h383 => ?_)
       obtain ⟨rfl, rfl, rfl⟩ := h383
       refine Cov.same (bl' := [_, _]) (sl' := []) rfl rfl rfl ?_;refine Cov.g_on rfl ?_;refine Cov.q .ro (.not rfl) rfl ?_;refine Cov.q .ro (.pick_f rfl rfl) rfl ?_
       refine Cov.prune _ ?_ (Cov.same rfl rfl rfl (hb230 () trivial))
       exact ⟨sval r382, rfl, rfl, rfl, rfl, rfl, rfl, rfl, trivial⟩
  ·intro hb18
   refine Cov.split_b 18 rfl (fun c17 => ?_) (fun c17 => ?_)
   ·refine Cov.g_off rfl rfl rfl ?_
    refine Cov.g_off rfl rfl rfl ?_;refine Cov.g_off rfl rfl rfl ?_;refine Cov.g_off rfl rfl rfl ?_;refine Cov.g_off rfl rfl rfl ?_;refine Cov.g_off rfl rfl rfl ?_;refine Cov.g_off rfl rfl rfl ?_;refine Cov.q .ro (.pick_t rfl rfl) rfl ?_
    refine Cov.prune _ ?_ (Cov.same rfl rfl rfl (hb18 () trivial))
    exact ⟨dor_t c17, rfl, trivial⟩
   ·refine Cov.g_on rfl ?_
    refine Cov.q .ro (.fieldAddr 3 rfl fl31_2 ty29.sz rfl) rfl ?_;refine Cov.g_on rfl ?_;refine Cov.q .ro (.load_own 0 rfl rfl ty29 rfl) rfl ?_;refine Cov.g_on rfl ?_;refine Cov.q .ro (.len_sl rfl rfl sl29) rfl ?_;refine Cov.g_on rfl ?_;refine Cov.q .ro (.fieldAddr 0 rfl fl31_0 ty28.sz rfl) rfl ?_;refine Cov.g_on rfl ?_;refine Cov.q .ro (.fieldAddr 0 rfl fl28_0 ty3.sz rfl) rfl ?_
    refine Cov.g_on rfl ?_;refine Cov.q .ro (.load_own 0 rfl rfl ty3 rfl) rfl ?_;refine Cov.g_on rfl ?_;refine Cov.q .ro (.neq rfl rfl) rfl ?_;refine Cov.q .ro (.pick_f rfl rfl) rfl ?_
    refine Cov.prune _ ?_ (Cov.same rfl rfl rfl (hb18 () trivial))
    exact ⟨dor_f (bne_of c17), rfl, trivial⟩
 ·intro hb11
  refine Cov.split 12 rfl (fun c10 => ?_) (fun c10 => ?_)
  ·have r385 := ifT h13 c10
   refine Cov.g_off rfl rfl rfl ?_;refine Cov.g_off rfl rfl rfl ?_;refine Cov.g_off rfl rfl rfl ?_;refine Cov.g_off rfl rfl rfl ?_;refine Cov.q .ro (.pick_t rfl rfl) rfl ?_
   refine Cov.prune _ ?_ (Cov.same rfl rfl rfl (hb11 () trivial))
   exact ⟨sval r385, rfl, trivial⟩
  ·have r386 := ifF h13 c10
   refine Cov.g_on rfl ?_;refine Cov.q .ro (.fieldAddr 2 rfl fl31_1 ty3.sz rfl) rfl ?_;refine Cov.g_on rfl ?_;refine Cov.q .ro (.load_own 0 rfl rfl ty3 rfl) rfl ?_;refine Cov.g_on rfl ?_
   obtain ⟨u387, hu387, r388⟩ := bind_some r386; clear r386
   refine Cov.callS (b1 := []) (b2 := [_]) (s1 := []) [_] [] .ro rfl rfl Try.call51 rfl rfl (keyword_slotted_c (G := G) List.mem_cons_self  hu387) rfl (fun v390 bo so h389 => ?_)
   obtain ⟨rfl, rfl, rfl⟩ := h389
   refine Cov.same (bl' := [_]) (sl' := []) rfl rfl rfl ?_;refine Cov.g_on rfl ?_;refine Cov.q .ro (.not rfl) rfl ?_;refine Cov.q .ro (.pick_f rfl rfl) rfl ?_
   refine Cov.prune _ ?_ (Cov.same rfl rfl rfl (hb11 () trivial))
   exact ⟨sval r388, rfl, trivial⟩
set_option maxHeartbeats 4000000 in
set_option maxRecDepth 100000 in
theorem residue_Of_c {Fs : List Hp} {G : Hp} {x0_0 : Int} {r : (Int × Bool)} (hG : G ∈ Fs)  (h : residue_Of x0_0 = some r) : RetS Try.prog 54 #[.agg #[.int .i64 x0_0]] Fs [] [] (fun v bo so => v = .tuple #[.int .i64 r.1, .bool r.2] ∧ bo = [] ∧ so = []) := by
 unfold residue_Of at h
 try dsimp only at h
 refine RetS.of (vs := [_]) Try.func54 rfl Try.ntmps54 [(0, _)] ⟨rfl, trivial⟩ rfl hG fun w0 S0 hS0 B0 => ?_
 refine Cov.seq ?_;refine Cov.region rfl ?_
 refine Cov.box [_] .ro rfl rfl rfl (fun b1 hb1 => ?_)
 refine Cov.q .ro (.assign rfl) rfl ?_;refine Cov.q .ro (.assign rfl) rfl ?_;refine Cov.region_end ?_;refine Cov.seq ?_;refine Cov.seq ?_;refine Cov.region rfl ?_;refine Cov.q .ro (.fieldAddr 0 rfl fl54_0 ty3.sz rfl) rfl ?_;refine Cov.q .ro (.load_own 0 rfl rfl ty3 rfl) rfl ?_;refine Cov.q .ro (.lss rfl rfl) rfl ?_
 refine Cov.q .ro (.move rfl) rfl ?_;refine Cov.cutR 4 (β := Unit) (fun y => [(12, .bool (decide ((x0_0 < 2) ∨ (65521 < x0_0))))]) [(1, _)] (fun y => G :: Fs) (fun y => []) [_] (fun y => []) [] (fun y => True) ⟨rfl, trivial⟩ [0] rfl [] rfl ?_ ?_
 ·rintro _ _
  refine Cov.prune [(12, .bool (decide ((x0_0 < 2) ∨ (65521 < x0_0)))), (1, _)] ⟨rfl, rfl, trivial⟩ ?_;refine Cov.same (bl' := [_]) (sl' := []) (Fs' := G :: Fs) rfl rfl rfl ?_;refine Cov.region_end ?_
  refine Cov.cond_dec rfl (fun c6 => ?_) (fun c6 => ?_)
  ·have r7 := ifT h c6; clear h
   refine Cov.seq ?_;refine Cov.region rfl ?_;refine Cov.q .ro (.assign rfl) rfl ?_;refine Cov.q .ro (.assign rfl) rfl ?_;refine Cov.region_end ?_
   cases r7
   refine Cov.drop 1 0 [] _ rfl rfl ?_
   refine Cov.retS (c := ⟨54, none⟩) (.inr ⟨_, rfl⟩) [.tmp 2, .tmp 3] [_, _] rfl Try.func54 Try.results54 ⟨RV.tmp rfl, RV.tmp rfl, trivial⟩ (fun _ h => List.mem_cons_of_mem _ h) ⟨rfl, rfl, rfl⟩
  ·have r8 := ifF h c6; clear h
   refine Cov.skip ?_;refine Cov.seq ?_;refine Cov.seq ?_;refine Cov.region rfl ?_;refine Cov.q .ro (.assign rfl) rfl ?_;refine Cov.region_end ?_;refine Cov.cutB (β := Int) (fun y => []) [(1, _)] (fun y => G :: Fs) (fun y => [(b1, .cells #[.int .i64 y] 54 (0, 0))]) [] (fun y => []) [] (fun y => residue_Of_J1 y = some r) ⟨rfl, trivial⟩ [] rfl [] rfl ?_ ?_
   ·intro v36 hI
    have r38 := hI; clear hI
    refine Cov.prune [(1, _)] ⟨rfl, trivial⟩ ?_;refine Cov.same (bl' := [(b1, .cells #[.int .i64 v36] 54 (0, 0))]) (sl' := []) (Fs' := G :: Fs) rfl rfl rfl ?_
    unfold residue_Of_J1 at r38
    try dsimp only at r38
    refine Cov.seq ?_;refine Cov.region rfl ?_;refine Cov.q .ro (.fieldAddr 0 rfl fl54_0 ty3.sz rfl) rfl ?_;refine Cov.q .ro (.load_own 0 rfl rfl ty3 rfl) rfl ?_;refine Cov.q .ro (.assign rfl) rfl ?_;refine Cov.q .ro (.assign rfl) rfl ?_;refine Cov.region_end ?_
    cases r38
    refine Cov.drop 1 0 [] _ rfl rfl ?_
    refine Cov.retS (c := ⟨54, none⟩) (.inr ⟨_, rfl⟩) [.tmp 2, .tmp 3] [_, _] rfl Try.func54 Try.results54 ⟨RV.tmp rfl, RV.tmp rfl, trivial⟩ (fun _ h => List.mem_cons_of_mem _ h) ⟨rfl, rfl, rfl⟩
   ·intro hb39
    refine Cov.block ?_
    refine Cov.loop2 (α := Nat × Int) (fun y => [(4, .int .i64 y.2)]) [(1, _)] (fun y => []) (fun y => []) [_] (fun y => []) [] (fun y => residue_Of_L2 residue_Of_J1 x0_0 y.1 y.2 = some r) (fun y => y.1) (big, 2) r8 ⟨rfl, rfl, trivial⟩ rfl rfl rfl (fun y hI hb55 => ?_)
    obtain ⟨n51, v53⟩ := y
    have r54 := hI; clear hI
    try dsimp only at r54
    refine Cov.prune [(4, .int .i64 v53), (1, _)] ⟨rfl, rfl, trivial⟩ ?_;refine Cov.same (bl' := [_]) (sl' := []) (Fs' := G :: Fs) rfl rfl rfl ?_
    obtain ⟨m58, rfl⟩ : ∃ m, n51 = m + 1 := by cases n51 with | zero => exact absurd (show (none : Option _) = some _ from r54) (by simp) | succ m => exact ⟨m, rfl⟩
    have r57 : residue_Of_B2 residue_Of_J1 x0_0 (residue_Of_L2 residue_Of_J1 x0_0 m58) v53 = some r := r54; clear r54; unfold residue_Of_B2 at r57; try dsimp only at r57
    refine Cov.seq ?_;refine Cov.seq ?_;refine Cov.region rfl ?_;refine Cov.q .ro (.move rfl) rfl ?_;refine Cov.q .ro (.move rfl) rfl ?_;refine Cov.q .ro (.mulw rfl rfl) rfl ?_;refine Cov.q .ro (.fieldAddr 0 rfl fl54_0 ty3.sz rfl) rfl ?_;refine Cov.q .ro (.load_own 0 rfl rfl ty3 rfl) rfl ?_;refine Cov.q .ro (.leq rfl rfl) rfl ?_
    refine Cov.region_end ?_
    refine Cov.cond_dec rfl (fun c59 => ?_) (fun c59 => ?_)
    ·have r60 := ifT r57 c59; clear r57
     refine Cov.skip ?_;refine Cov.seq ?_;refine Cov.block ?_;refine Cov.seq ?_;refine Cov.region rfl ?_;refine Cov.q .ro (.fieldAddr 0 rfl fl54_0 ty3.sz rfl) rfl ?_;refine Cov.q .ro (.load_own 0 rfl rfl ty3 rfl) rfl ?_;refine Cov.q .ro (.move rfl) rfl ?_
     obtain ⟨u61, hu61, r62⟩ := bind_some r60; clear r60
     refine Cov.q .ro (.remt rfl rfl (nz_some hu61)) rfl ?_;refine Cov.q .ro (.eql rfl rfl) rfl ?_;refine Cov.region_end ?_
     refine Cov.cond_dec rfl (fun c63 => ?_) (fun c63 => ?_)
     ·have r64 := ifT r62 c63; clear r62
      refine Cov.seq ?_;refine Cov.region rfl ?_;refine Cov.q .ro (.assign rfl) rfl ?_;refine Cov.q .ro (.assign rfl) rfl ?_;refine Cov.region_end ?_;refine Cov.prune [(2, _), (3, _)] ⟨rfl, rfl, trivial⟩ ?_
      cases r64
      refine Cov.drop 1 0 [] _ rfl rfl ?_
      refine Cov.retS (c := ⟨54, none⟩) (.inr ⟨_, rfl⟩) [.tmp 2, .tmp 3] [_, _] rfl Try.func54 Try.results54 ⟨RV.tmp rfl, RV.tmp rfl, trivial⟩ (fun _ h => List.mem_cons_of_mem _ h) ⟨rfl, rfl, rfl⟩
     ·have r65 := ifF r62 c63; clear r62
      refine Cov.skip ?_;refine Cov.inBlock ?_;refine Cov.region rfl ?_;refine Cov.q .ro (.move rfl) rfl ?_;refine Cov.q .ro (.addw rfl rfl) rfl ?_;refine Cov.q .ro (.assign rfl) rfl ?_;refine Cov.region_end ?_;refine Cov.prune [(4, _), (1, _)] ⟨rfl, rfl, trivial⟩ ?_
      refine Cov.prune _ ?_ (Cov.same rfl rfl rfl (hb55 (m58, (w64 (v53 + 1))) r65 (Nat.lt_succ_self _)))
      exact ⟨rfl, rfl, trivial⟩
    ·have r66 := ifF r57 c59; clear r57
     refine Cov.exit rfl ?_
     refine Cov.prune _ ?_ (Cov.same rfl rfl rfl (hb39 (x0_0) r66))
     exact ⟨rfl, trivial⟩
 ·intro hb3
  refine Cov.split 8 rfl (fun c2 => ?_) (fun c2 => ?_)
  ·refine Cov.g_off rfl rfl rfl ?_
   refine Cov.g_off rfl rfl rfl ?_;refine Cov.g_off rfl rfl rfl ?_;refine Cov.q .ro (.pick_t rfl rfl) rfl ?_
   refine Cov.prune _ ?_ (Cov.same rfl rfl rfl (hb3 () trivial))
   exact ⟨dor_t c2, rfl, trivial⟩
  ·refine Cov.g_on rfl ?_
   refine Cov.q .ro (.fieldAddr 0 rfl fl54_0 ty3.sz rfl) rfl ?_;refine Cov.g_on rfl ?_;refine Cov.q .ro (.load_own 0 rfl rfl ty3 rfl) rfl ?_;refine Cov.g_on rfl ?_;refine Cov.q .ro (.gtr rfl rfl) rfl ?_;refine Cov.q .ro (.pick_f rfl rfl) rfl ?_
   refine Cov.prune _ ?_ (Cov.same rfl rfl rfl (hb3 () trivial))
   exact ⟨dor_f c2, rfl, trivial⟩
set_option maxHeartbeats 4000000 in
set_option maxRecDepth 100000 in
theorem field_Check_c {Fs : List Hp} {G : Hp} {x0_0 : Int} {r : Int} (hG : G ∈ Fs)  (h : field_Check x0_0 = some r) : RetS Try.prog 29 #[.agg #[.int .i64 x0_0]] Fs [] [] (fun v bo so => v = .int .i64 r ∧ bo = [] ∧ so = []) := by
 unfold field_Check at h
 try dsimp only at h
 refine RetS.of (vs := [_]) Try.func29 rfl Try.ntmps29 [(0, _)] ⟨rfl, trivial⟩ rfl hG fun w0 S0 hS0 B0 => ?_
 refine Cov.seq ?_;refine Cov.region rfl ?_
 refine Cov.box [_] .ro rfl rfl rfl (fun b1 hb1 => ?_)
 refine Cov.q .ro (.assign rfl) rfl ?_;refine Cov.region_end ?_;refine Cov.seq ?_;refine Cov.seq ?_;refine Cov.region rfl ?_;refine Cov.q .ro (.load_own_a 0 [_] rfl rfl ty54 rfl) rfl ?_
 obtain ⟨u2, hu2, r3⟩ := bind_some h; clear h
 refine Cov.callS (b1 := []) (b2 := [_]) (s1 := []) [_] [] .ro rfl rfl Try.call54 rfl rfl (residue_Of_c (G := G) List.mem_cons_self  hu2) rfl (fun v5 bo so h4 => ?_)
 obtain ⟨rfl, rfl, rfl⟩ := h4
 refine Cov.same (bl' := [_]) (sl' := []) rfl rfl rfl ?_;refine Cov.q .ro (.move rfl) rfl ?_;refine Cov.q .ro (.extract rfl rfl) rfl ?_;refine Cov.q .ro (.extract rfl rfl) rfl ?_;refine Cov.q .ro (.assign rfl) rfl ?_;refine Cov.q .ro (.assign rfl) rfl ?_;refine Cov.region_end ?_;refine Cov.seq ?_;refine Cov.region rfl ?_
 refine Cov.q .ro (.move rfl) rfl ?_;refine Cov.q .ro (.not rfl) rfl ?_;refine Cov.region_end ?_
 refine Cov.cond rfl (fun c6 => ?_) (fun c6 => ?_)
 ·have r7 := ifT r3 c6; clear r3
  refine Cov.seq ?_;refine Cov.region rfl ?_;refine Cov.q .ro (.assign rfl) rfl ?_;refine Cov.region_end ?_
  cases r7
  refine Cov.drop 1 0 [] _ rfl rfl ?_
  refine Cov.retS (c := ⟨29, none⟩) (.inr ⟨_, rfl⟩) [.tmp 2] [_] rfl Try.func29 Try.results29 ⟨RV.tmp rfl, trivial⟩ (fun _ h => List.mem_cons_of_mem _ h) ⟨rfl, rfl, rfl⟩
 ·have r8 := ifBF r3 c6; clear r3
  refine Cov.skip ?_;refine Cov.seq ?_;refine Cov.region rfl ?_;refine Cov.q .ro (.assign rfl) rfl ?_;refine Cov.region_end ?_
  cases r8
  refine Cov.drop 1 0 [] _ rfl rfl ?_
  refine Cov.retS (c := ⟨29, none⟩) (.inr ⟨_, rfl⟩) [.tmp 2] [_] rfl Try.func29 Try.results29 ⟨RV.tmp rfl, trivial⟩ (fun _ h => List.mem_cons_of_mem _ h) ⟨rfl, rfl, rfl⟩
end Go.Proofs.Ytmfppphlhgneeaa
end
