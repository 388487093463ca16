/- Chapter 28, the walks: scheme's form and units. Printed by wip/gen/c28.py. -/
import Derived.Test.YtcdmckcakldhmaaK13
import Derived.Test.YtcdmckcakldhmaaRows
namespace Go.Proofs.Ytcdmckcakldhmaa
open Go.RowKit

theorem ty3 : TyI Try.prog 3 false 1 8 [.int .i64 0] := ⟨by kernel_rfl, by kernel_rfl, by kernel_rfl, by kernel_rfl⟩
theorem ty5 : TyI Try.prog 5 false 1 1 [.int .u8 0] := ⟨by kernel_rfl, by kernel_rfl, by kernel_rfl, by kernel_rfl⟩
theorem ty22 : TyI Try.prog 22 false 1 24 [.slice none 0 0] := ⟨by kernel_rfl, by kernel_rfl, by kernel_rfl, by kernel_rfl⟩
theorem ty25 : TyI Try.prog 25 true 4 32 [.int .i64 0, .int .i64 0, .int .i64 0, .int .i64 0] := ⟨by kernel_rfl, by kernel_rfl, by kernel_rfl, by kernel_rfl⟩
theorem ty30 : TyI Try.prog 30 true 3 24 [.int .i64 0, .int .i64 0, .int .i64 0] := ⟨by kernel_rfl, by kernel_rfl, by kernel_rfl, by kernel_rfl⟩
theorem ty38 : TyI Try.prog 38 true 3 24 [.int .i64 0, .int .i64 0, .int .i64 0] := ⟨by kernel_rfl, by kernel_rfl, by kernel_rfl, by kernel_rfl⟩
theorem ty49 : TyI Try.prog 49 true 2 32 [.slice none 0 0, .int .i64 0] := ⟨by kernel_rfl, by kernel_rfl, by kernel_rfl, by kernel_rfl⟩
theorem ty57 : TyI Try.prog 57 true 3 24 [.int .i64 0, .int .i64 0, .int .i64 0] := ⟨by kernel_rfl, by kernel_rfl, by kernel_rfl, by kernel_rfl⟩
theorem fl25_0 : fldOf Try.prog 25 0 = some (0, 3) := by kernel_rfl
theorem fl25_1 : fldOf Try.prog 25 1 = some (1, 3) := by kernel_rfl
theorem fl25_2 : fldOf Try.prog 25 2 = some (2, 3) := by kernel_rfl
theorem fl25_3 : fldOf Try.prog 25 3 = some (3, 3) := by kernel_rfl
theorem fl30_0 : fldOf Try.prog 30 0 = some (0, 3) := by kernel_rfl
theorem fl30_1 : fldOf Try.prog 30 1 = some (1, 3) := by kernel_rfl
theorem fl30_2 : fldOf Try.prog 30 2 = some (2, 3) := by kernel_rfl
theorem fl49_0 : fldOf Try.prog 49 0 = some (0, 22) := by kernel_rfl
theorem fl49_1 : fldOf Try.prog 49 1 = some (1, 3) := by kernel_rfl
theorem fl56_2 : fldOf Try.prog 56 2 = some (2, 3) := by kernel_rfl
theorem pl25 : plOf Try.prog 25 = some [(0, 1), (1, 1), (2, 1), (3, 1)] := by kernel_rfl
theorem pl30 : plOf Try.prog 30 = some [(0, 1), (1, 1), (2, 1)] := by kernel_rfl
theorem pl49 : plOf Try.prog 49 = some [(0, 1), (1, 1)] := by kernel_rfl
theorem pl57 : plOf Try.prog 57 = some [(0, 1), (1, 1), (2, 1)] := by kernel_rfl
theorem sl22 : slOf Try.prog 22 = some 5 := by kernel_rfl
theorem sl37 : slOf Try.prog 37 = some 25 := by kernel_rfl
theorem sl40 : slOf Try.prog 40 = some 38 := by kernel_rfl
theorem sl50 : slOf Try.prog 50 = some 3 := by kernel_rfl
theorem ar38 : arOf Try.prog 38 = some (3, 3) := by kernel_rfl

/-- A scheme has a form. -/
def ShapeP (k s d g : Int) : Prop := (2 ≤ s ∧ s ≤ 10) ∧ ((k = 1 ∧ d = 0 ∧ g = 0) ∨ (k = 2 ∧ 1 ≤ d ∧ d ≤ s - 1 ∧ g = 0) ∨ (k = 3 ∧ 1 ≤ d ∧ d ≤ s ∧ 1 ≤ g ∧ g ≤ s ∧ 2 * g + d - 1 ≤ s))
instance (k s d g : Int) : Decidable (ShapeP k s d g) := by unfold ShapeP; infer_instance

theorem within_c {x y z : Int} {Fs : List Hp} : RetV Try.prog 29 #[.int .i64 x, .int .i64 y, .int .i64 z] Fs (fun v => v = .bool (decide (y ≤ x ∧ x ≤ z))) := by
  refine Ret.of (vs := [_, _, _]) Try.func29 rfl Try.ntmps29 [(0, _), (1, _), (2, _)] ⟨rfl, rfl, rfl, trivial⟩ rfl fun w0 => ?_
  refine Cov.seq ?_
  refine Cov.region rfl ?_
  refine Cov.q .ro (.assign rfl) rfl ?_
  refine Cov.region_end ?_
  refine Cov.seq ?_
  refine Cov.region rfl ?_
  refine Cov.q .ro (.move rfl) rfl ?_
  refine Cov.q .ro (.move rfl) rfl ?_
  refine Cov.q .ro (.geq rfl rfl) rfl ?_
  refine Cov.q .ro (.move rfl) rfl ?_
  refine Cov.split 10 rfl (fun h1 => ?_) (fun h1 => ?_)
  · refine Cov.g_on rfl ?_
    refine Cov.q .ro (.move rfl) rfl ?_
    refine Cov.g_on rfl ?_
    refine Cov.q .ro (.move rfl) rfl ?_
    refine Cov.g_on rfl ?_
    refine Cov.q .ro (.leq rfl rfl) rfl ?_
    refine Cov.q .ro (.pick_t rfl rfl) rfl ?_
    refine Cov.q .ro (.assign rfl) rfl ?_
    refine Cov.region_end ?_
    refine Cov.retv (c := ⟨29, none⟩) [.tmp 6] [_] rfl Try.func29 Try.results29 ⟨RV.tmp rfl, trivial⟩ (fun _ h => h) ?_
    first
      | exact congrArg Value.bool (decide_eq_true (by omega)).symm
      | exact congrArg Value.bool (decide_eq_false (by omega)).symm
      | exact congrArg Value.bool (decide_eq_decide.2 (by omega))
  · refine Cov.g_off rfl rfl rfl ?_
    refine Cov.g_off rfl rfl rfl ?_
    refine Cov.g_off rfl rfl rfl ?_
    refine Cov.q .ro (.pick_f rfl rfl) rfl ?_
    refine Cov.q .ro (.assign rfl) rfl ?_
    refine Cov.region_end ?_
    refine Cov.retv (c := ⟨29, none⟩) [.tmp 6] [_] rfl Try.func29 Try.results29 ⟨RV.tmp rfl, trivial⟩ (fun _ h => h) ?_
    first
      | exact congrArg Value.bool (decide_eq_true (by omega)).symm
      | exact congrArg Value.bool (decide_eq_false (by omega)).symm
      | exact congrArg Value.bool (decide_eq_decide.2 (by omega))

theorem shape_c {k s d g : Int} {Fs : List Hp} : RetV Try.prog 23 #[.agg #[.int .i64 k, .int .i64 s, .int .i64 d, .int .i64 g]] Fs (fun v => v = .bool (decide (ShapeP k s d g))) := by
  refine Ret.of (vs := [_]) Try.func23 rfl Try.ntmps23 [(0, _)] ⟨rfl, trivial⟩ rfl fun w0 => ?_
  refine Cov.seq ?_
  refine Cov.region rfl ?_
  refine Cov.box [_, _, _, _] .ro rfl rfl rfl (fun b1 hb1 => ?_)
  refine Cov.q .ro (.assign rfl) rfl ?_
  refine Cov.region_end ?_
  refine Cov.seq ?_
  refine Cov.seq ?_
  refine Cov.region rfl ?_
  refine Cov.q .ro (.fieldAddr 1 rfl fl25_1 ty3.sz rfl) rfl ?_
  refine Cov.q .ro (.load_own 0 rfl rfl ty3 rfl) rfl ?_
  refine Cov.callv [_, _, _] [] .ro rfl rfl Try.call29 within_c rfl (fun v2 hv2 => ?_)
  subst hv2
  refine Cov.q .ro (.not_d rfl) rfl ?_
  refine Cov.region_end ?_
  refine Cov.cond_dec rfl (fun h3 => ?_) (fun h3 => ?_)
  · refine Cov.seq ?_
    refine Cov.region rfl ?_
    refine Cov.q .ro (.assign rfl) rfl ?_
    refine Cov.region_end ?_
    refine Cov.retv (c := ⟨23, none⟩) [.tmp 2] [_] rfl Try.func23 Try.results23 ⟨RV.tmp rfl, trivial⟩ (fun _ h => h) ?_
    first
      | exact congrArg Value.bool (decide_eq_true (by unfold ShapeP; omega)).symm
      | exact congrArg Value.bool (decide_eq_false (by unfold ShapeP; omega)).symm
      | exact congrArg Value.bool (decide_eq_decide.2 (by unfold ShapeP; omega))
  · refine Cov.skip ?_
    refine Cov.seq ?_
    refine Cov.seq ?_
    refine Cov.region rfl ?_
    refine Cov.q .ro (.fieldAddr 0 rfl fl25_0 ty3.sz rfl) rfl ?_
    refine Cov.q .ro (.load_own 0 rfl rfl ty3 rfl) rfl ?_
    refine Cov.region_end ?_
    refine Cov.block ?_
    refine Cov.seq ?_
    refine Cov.region rfl ?_
    refine Cov.q .ro (.eql rfl rfl) rfl ?_
    refine Cov.q .ro (.assign rfl) rfl ?_
    refine Cov.region_end ?_
    refine Cov.cond_dec rfl (fun h4 => ?_) (fun h4 => ?_)
    · refine Cov.seq ?_
      refine Cov.region rfl ?_
      refine Cov.q .ro (.fieldAddr 2 rfl fl25_2 ty3.sz rfl) rfl ?_
      refine Cov.q .ro (.load_own 0 rfl rfl ty3 rfl) rfl ?_
      refine Cov.q .ro (.eql rfl rfl) rfl ?_
      refine Cov.q .ro (.move rfl) rfl ?_
      refine Cov.split 14 rfl (fun h5 => ?_) (fun h5 => ?_)
      · refine Cov.g_on rfl ?_
        refine Cov.q .ro (.fieldAddr 3 rfl fl25_3 ty3.sz rfl) rfl ?_
        refine Cov.g_on rfl ?_
        refine Cov.q .ro (.load_own 0 rfl rfl ty3 rfl) rfl ?_
        refine Cov.g_on rfl ?_
        refine Cov.q .ro (.eql rfl rfl) rfl ?_
        refine Cov.q .ro (.pick_t rfl rfl) rfl ?_
        refine Cov.q .ro (.assign rfl) rfl ?_
        refine Cov.region_end ?_
        refine Cov.prune [(2, _)] ⟨rfl, trivial⟩ ?_
        refine Cov.retv (c := ⟨23, none⟩) [.tmp 2] [_] rfl Try.func23 Try.results23 ⟨RV.tmp rfl, trivial⟩ (fun _ h => h) ?_
        first
          | exact congrArg Value.bool (decide_eq_true (by unfold ShapeP; omega)).symm
          | exact congrArg Value.bool (decide_eq_false (by unfold ShapeP; omega)).symm
          | exact congrArg Value.bool (decide_eq_decide.2 (by unfold ShapeP; omega))
      · refine Cov.g_off rfl rfl rfl ?_
        refine Cov.g_off rfl rfl rfl ?_
        refine Cov.g_off rfl rfl rfl ?_
        refine Cov.q .ro (.pick_f rfl rfl) rfl ?_
        refine Cov.q .ro (.assign rfl) rfl ?_
        refine Cov.region_end ?_
        refine Cov.prune [(2, _)] ⟨rfl, trivial⟩ ?_
        refine Cov.retv (c := ⟨23, none⟩) [.tmp 2] [_] rfl Try.func23 Try.results23 ⟨RV.tmp rfl, trivial⟩ (fun _ h => h) ?_
        first
          | exact congrArg Value.bool (decide_eq_true (by unfold ShapeP; omega)).symm
          | exact congrArg Value.bool (decide_eq_false (by unfold ShapeP; omega)).symm
          | exact congrArg Value.bool (decide_eq_decide.2 (by unfold ShapeP; omega))
    · refine Cov.seq ?_
      refine Cov.region rfl ?_
      refine Cov.q .ro (.eql rfl rfl) rfl ?_
      refine Cov.q .ro (.assign rfl) rfl ?_
      refine Cov.region_end ?_
      refine Cov.cond_dec rfl (fun h6 => ?_) (fun h6 => ?_)
      · refine Cov.seq ?_
        refine Cov.region rfl ?_
        refine Cov.q .ro (.fieldAddr 2 rfl fl25_2 ty3.sz rfl) rfl ?_
        refine Cov.q .ro (.load_own 0 rfl rfl ty3 rfl) rfl ?_
        refine Cov.q .ro (.fieldAddr 1 rfl fl25_1 ty3.sz rfl) rfl ?_
        refine Cov.q .ro (.load_own 0 rfl rfl ty3 rfl) rfl ?_
        refine Cov.q .ro (.sub rfl rfl (by omega)) rfl ?_
        refine Cov.callv [_, _, _] [] .ro rfl rfl Try.call29 within_c rfl (fun v7 hv7 => ?_)
        subst hv7
        refine Cov.q .ro (.move rfl) rfl ?_
        refine Cov.split 27 rfl (fun h8 => ?_) (fun h8 => ?_)
        · refine Cov.g_on rfl ?_
          refine Cov.q .ro (.fieldAddr 3 rfl fl25_3 ty3.sz rfl) rfl ?_
          refine Cov.g_on rfl ?_
          refine Cov.q .ro (.load_own 0 rfl rfl ty3 rfl) rfl ?_
          refine Cov.g_on rfl ?_
          refine Cov.q .ro (.eql rfl rfl) rfl ?_
          refine Cov.q .ro (.pick_t rfl rfl) rfl ?_
          refine Cov.q .ro (.assign rfl) rfl ?_
          refine Cov.region_end ?_
          refine Cov.prune [(2, _)] ⟨rfl, trivial⟩ ?_
          refine Cov.retv (c := ⟨23, none⟩) [.tmp 2] [_] rfl Try.func23 Try.results23 ⟨RV.tmp rfl, trivial⟩ (fun _ h => h) ?_
          first
            | exact congrArg Value.bool (decide_eq_true (by unfold ShapeP; omega)).symm
            | exact congrArg Value.bool (decide_eq_false (by unfold ShapeP; omega)).symm
            | exact congrArg Value.bool (decide_eq_decide.2 (by unfold ShapeP; omega))
        · refine Cov.g_off rfl rfl rfl ?_
          refine Cov.g_off rfl rfl rfl ?_
          refine Cov.g_off rfl rfl rfl ?_
          refine Cov.q .ro (.pick_f rfl rfl) rfl ?_
          refine Cov.q .ro (.assign rfl) rfl ?_
          refine Cov.region_end ?_
          refine Cov.prune [(2, _)] ⟨rfl, trivial⟩ ?_
          refine Cov.retv (c := ⟨23, none⟩) [.tmp 2] [_] rfl Try.func23 Try.results23 ⟨RV.tmp rfl, trivial⟩ (fun _ h => h) ?_
          first
            | exact congrArg Value.bool (decide_eq_true (by unfold ShapeP; omega)).symm
            | exact congrArg Value.bool (decide_eq_false (by unfold ShapeP; omega)).symm
            | exact congrArg Value.bool (decide_eq_decide.2 (by unfold ShapeP; omega))
      · refine Cov.seq ?_
        refine Cov.region rfl ?_
        refine Cov.q .ro (.eql rfl rfl) rfl ?_
        refine Cov.q .ro (.assign rfl) rfl ?_
        refine Cov.region_end ?_
        refine Cov.cond_dec rfl (fun h9 => ?_) (fun h9 => ?_)
        · refine Cov.seq ?_
          refine Cov.region rfl ?_
          refine Cov.q .ro (.fieldAddr 2 rfl fl25_2 ty3.sz rfl) rfl ?_
          refine Cov.q .ro (.load_own 0 rfl rfl ty3 rfl) rfl ?_
          refine Cov.q .ro (.fieldAddr 1 rfl fl25_1 ty3.sz rfl) rfl ?_
          refine Cov.q .ro (.load_own 0 rfl rfl ty3 rfl) rfl ?_
          refine Cov.callv [_, _, _] [] .ro rfl rfl Try.call29 within_c rfl (fun v10 hv10 => ?_)
          subst hv10
          refine Cov.q .ro (.move rfl) rfl ?_
          refine Cov.split 39 rfl (fun h11 => ?_) (fun h11 => ?_)
          · refine Cov.g_on rfl ?_
            refine Cov.q .ro (.fieldAddr 3 rfl fl25_3 ty3.sz rfl) rfl ?_
            refine Cov.g_on rfl ?_
            refine Cov.q .ro (.load_own 0 rfl rfl ty3 rfl) rfl ?_
            refine Cov.g_on rfl ?_
            refine Cov.q .ro (.fieldAddr 1 rfl fl25_1 ty3.sz rfl) rfl ?_
            refine Cov.g_on rfl ?_
            refine Cov.q .ro (.load_own 0 rfl rfl ty3 rfl) rfl ?_
            refine Cov.g_on rfl ?_
            refine Cov.callv [_, _, _] [] .ro rfl rfl Try.call29 within_c rfl (fun v12 hv12 => ?_)
            subst hv12
            refine Cov.q .ro (.pick_t rfl rfl) rfl ?_
            refine Cov.q .ro (.move rfl) rfl ?_
            refine Cov.split 46 rfl (fun h13 => ?_) (fun h13 => ?_)
            · refine Cov.g_on rfl ?_
              refine Cov.q .ro (.fieldAddr 3 rfl fl25_3 ty3.sz rfl) rfl ?_
              refine Cov.g_on rfl ?_
              refine Cov.q .ro (.load_own 0 rfl rfl ty3 rfl) rfl ?_
              refine Cov.g_on rfl ?_
              refine Cov.q .ro (.mul rfl rfl (by omega)) rfl ?_
              refine Cov.g_on rfl ?_
              refine Cov.q .ro (.fieldAddr 2 rfl fl25_2 ty3.sz rfl) rfl ?_
              refine Cov.g_on rfl ?_
              refine Cov.q .ro (.load_own 0 rfl rfl ty3 rfl) rfl ?_
              refine Cov.g_on rfl ?_
              refine Cov.q .ro (.add rfl rfl (by omega)) rfl ?_
              refine Cov.g_on rfl ?_
              refine Cov.q .ro (.sub rfl rfl (by omega)) rfl ?_
              refine Cov.g_on rfl ?_
              refine Cov.q .ro (.fieldAddr 1 rfl fl25_1 ty3.sz rfl) rfl ?_
              refine Cov.g_on rfl ?_
              refine Cov.q .ro (.load_own 0 rfl rfl ty3 rfl) rfl ?_
              refine Cov.g_on rfl ?_
              refine Cov.q .ro (.leq rfl rfl) rfl ?_
              refine Cov.q .ro (.pick_t rfl rfl) rfl ?_
              refine Cov.q .ro (.assign rfl) rfl ?_
              refine Cov.region_end ?_
              refine Cov.prune [(2, _)] ⟨rfl, trivial⟩ ?_
              refine Cov.retv (c := ⟨23, none⟩) [.tmp 2] [_] rfl Try.func23 Try.results23 ⟨RV.tmp rfl, trivial⟩ (fun _ h => h) ?_
              first
                | exact congrArg Value.bool (decide_eq_true (by unfold ShapeP; omega)).symm
                | exact congrArg Value.bool (decide_eq_false (by unfold ShapeP; omega)).symm
                | exact congrArg Value.bool (decide_eq_decide.2 (by unfold ShapeP; omega))
            · refine Cov.g_off rfl rfl rfl ?_
              refine Cov.g_off rfl rfl rfl ?_
              refine Cov.g_off rfl rfl rfl ?_
              refine Cov.g_off rfl rfl rfl ?_
              refine Cov.g_off rfl rfl rfl ?_
              refine Cov.g_off rfl rfl rfl ?_
              refine Cov.g_off rfl rfl rfl ?_
              refine Cov.g_off rfl rfl rfl ?_
              refine Cov.g_off rfl rfl rfl ?_
              refine Cov.g_off rfl rfl rfl ?_
              refine Cov.q .ro (.pick_f rfl rfl) rfl ?_
              refine Cov.q .ro (.assign rfl) rfl ?_
              refine Cov.region_end ?_
              refine Cov.prune [(2, _)] ⟨rfl, trivial⟩ ?_
              refine Cov.retv (c := ⟨23, none⟩) [.tmp 2] [_] rfl Try.func23 Try.results23 ⟨RV.tmp rfl, trivial⟩ (fun _ h => h) ?_
              first
                | exact congrArg Value.bool (decide_eq_true (by unfold ShapeP; omega)).symm
                | exact congrArg Value.bool (decide_eq_false (by unfold ShapeP; omega)).symm
                | exact congrArg Value.bool (decide_eq_decide.2 (by unfold ShapeP; omega))
          · refine Cov.g_off rfl rfl rfl ?_
            refine Cov.g_off rfl rfl rfl ?_
            refine Cov.g_off rfl rfl rfl ?_
            refine Cov.g_off rfl rfl rfl ?_
            refine Cov.g_off rfl rfl rfl ?_
            refine Cov.q .ro (.pick_f rfl rfl) rfl ?_
            refine Cov.q .ro (.move rfl) rfl ?_
            refine Cov.g_off rfl rfl rfl ?_
            refine Cov.g_off rfl rfl rfl ?_
            refine Cov.g_off rfl rfl rfl ?_
            refine Cov.g_off rfl rfl rfl ?_
            refine Cov.g_off rfl rfl rfl ?_
            refine Cov.g_off rfl rfl rfl ?_
            refine Cov.g_off rfl rfl rfl ?_
            refine Cov.g_off rfl rfl rfl ?_
            refine Cov.g_off rfl rfl rfl ?_
            refine Cov.g_off rfl rfl rfl ?_
            refine Cov.q .ro (.pick_f rfl rfl) rfl ?_
            refine Cov.q .ro (.assign rfl) rfl ?_
            refine Cov.region_end ?_
            refine Cov.prune [(2, _)] ⟨rfl, trivial⟩ ?_
            refine Cov.retv (c := ⟨23, none⟩) [.tmp 2] [_] rfl Try.func23 Try.results23 ⟨RV.tmp rfl, trivial⟩ (fun _ h => h) ?_
            first
              | exact congrArg Value.bool (decide_eq_true (by unfold ShapeP; omega)).symm
              | exact congrArg Value.bool (decide_eq_false (by unfold ShapeP; omega)).symm
              | exact congrArg Value.bool (decide_eq_decide.2 (by unfold ShapeP; omega))
        · refine Cov.skip ?_
          refine Cov.inBlock ?_
          refine Cov.seq ?_
          refine Cov.region rfl ?_
          refine Cov.q .ro (.assign rfl) rfl ?_
          refine Cov.region_end ?_
          refine Cov.prune [(2, _)] ⟨rfl, trivial⟩ ?_
          refine Cov.retv (c := ⟨23, none⟩) [.tmp 2] [_] rfl Try.func23 Try.results23 ⟨RV.tmp rfl, trivial⟩ (fun _ h => h) ?_
          first
            | exact congrArg Value.bool (decide_eq_true (by unfold ShapeP; omega)).symm
            | exact congrArg Value.bool (decide_eq_false (by unfold ShapeP; omega)).symm
            | exact congrArg Value.bool (decide_eq_decide.2 (by unfold ShapeP; omega))

theorem rshape_c {k s d g : Int} {Fs : List Hp} : RetV Try.prog 22 #[.agg #[.int .i64 k, .int .i64 s, .int .i64 d, .int .i64 g]] Fs (fun v => v = .bool (decide (ShapeP k s d g))) := by
  refine Ret.of (vs := [_]) Try.func22 rfl Try.ntmps22 [(0, _)] ⟨rfl, trivial⟩ rfl fun w0 => ?_
  refine Cov.seq ?_
  refine Cov.region rfl ?_
  refine Cov.box [_, _, _, _] .ro rfl rfl rfl (fun b1 hb1 => ?_)
  refine Cov.q .ro (.assign rfl) rfl ?_
  refine Cov.region_end ?_
  refine Cov.seq ?_
  refine Cov.seq ?_
  refine Cov.region rfl ?_
  refine Cov.q .ro (.fieldAddr 1 rfl fl25_1 ty3.sz rfl) rfl ?_
  refine Cov.q .ro (.load_own 0 rfl rfl ty3 rfl) rfl ?_
  refine Cov.q .ro (.lss rfl rfl) rfl ?_
  refine Cov.q .ro (.move rfl) rfl ?_
  refine Cov.split 6 rfl (fun h2 => ?_) (fun h2 => ?_)
  · refine Cov.g_off rfl rfl rfl ?_
    refine Cov.g_off rfl rfl rfl ?_
    refine Cov.g_off rfl rfl rfl ?_
    refine Cov.q .ro (.pick_t rfl rfl) rfl ?_
    refine Cov.region_end ?_
    refine Cov.cond_true rfl ?_
    refine Cov.seq ?_
    refine Cov.region rfl ?_
    refine Cov.q .ro (.assign rfl) rfl ?_
    refine Cov.region_end ?_
    refine Cov.retv (c := ⟨22, none⟩) [.tmp 2] [_] rfl Try.func22 Try.results22 ⟨RV.tmp rfl, trivial⟩ (fun _ h => h) ?_
    first
      | exact congrArg Value.bool (decide_eq_true (by unfold ShapeP; omega)).symm
      | exact congrArg Value.bool (decide_eq_false (by unfold ShapeP; omega)).symm
      | exact congrArg Value.bool (decide_eq_decide.2 (by unfold ShapeP; omega))
  · refine Cov.g_on rfl ?_
    refine Cov.q .ro (.fieldAddr 1 rfl fl25_1 ty3.sz rfl) rfl ?_
    refine Cov.g_on rfl ?_
    refine Cov.q .ro (.load_own 0 rfl rfl ty3 rfl) rfl ?_
    refine Cov.g_on rfl ?_
    refine Cov.q .ro (.gtr rfl rfl) rfl ?_
    refine Cov.q .ro (.pick_f rfl rfl) rfl ?_
    refine Cov.region_end ?_
    refine Cov.cond_dec rfl (fun h3 => ?_) (fun h3 => ?_)
    · refine Cov.seq ?_
      refine Cov.region rfl ?_
      refine Cov.q .ro (.assign rfl) rfl ?_
      refine Cov.region_end ?_
      refine Cov.retv (c := ⟨22, none⟩) [.tmp 2] [_] rfl Try.func22 Try.results22 ⟨RV.tmp rfl, trivial⟩ (fun _ h => h) ?_
      first
        | exact congrArg Value.bool (decide_eq_true (by unfold ShapeP; omega)).symm
        | exact congrArg Value.bool (decide_eq_false (by unfold ShapeP; omega)).symm
        | exact congrArg Value.bool (decide_eq_decide.2 (by unfold ShapeP; omega))
    · refine Cov.skip ?_
      refine Cov.seq ?_
      refine Cov.seq ?_
      refine Cov.region rfl ?_
      refine Cov.q .ro (.fieldAddr 0 rfl fl25_0 ty3.sz rfl) rfl ?_
      refine Cov.q .ro (.load_own 0 rfl rfl ty3 rfl) rfl ?_
      refine Cov.region_end ?_
      refine Cov.block ?_
      refine Cov.seq ?_
      refine Cov.region rfl ?_
      refine Cov.q .ro (.eql rfl rfl) rfl ?_
      refine Cov.q .ro (.assign rfl) rfl ?_
      refine Cov.region_end ?_
      refine Cov.cond_dec rfl (fun h4 => ?_) (fun h4 => ?_)
      · refine Cov.seq ?_
        refine Cov.region rfl ?_
        refine Cov.q .ro (.fieldAddr 2 rfl fl25_2 ty3.sz rfl) rfl ?_
        refine Cov.q .ro (.load_own 0 rfl rfl ty3 rfl) rfl ?_
        refine Cov.q .ro (.eql rfl rfl) rfl ?_
        refine Cov.q .ro (.move rfl) rfl ?_
        refine Cov.split 18 rfl (fun h5 => ?_) (fun h5 => ?_)
        · refine Cov.g_on rfl ?_
          refine Cov.q .ro (.fieldAddr 3 rfl fl25_3 ty3.sz rfl) rfl ?_
          refine Cov.g_on rfl ?_
          refine Cov.q .ro (.load_own 0 rfl rfl ty3 rfl) rfl ?_
          refine Cov.g_on rfl ?_
          refine Cov.q .ro (.eql rfl rfl) rfl ?_
          refine Cov.q .ro (.pick_t rfl rfl) rfl ?_
          refine Cov.q .ro (.assign rfl) rfl ?_
          refine Cov.region_end ?_
          refine Cov.prune [(2, _)] ⟨rfl, trivial⟩ ?_
          refine Cov.retv (c := ⟨22, none⟩) [.tmp 2] [_] rfl Try.func22 Try.results22 ⟨RV.tmp rfl, trivial⟩ (fun _ h => h) ?_
          first
            | exact congrArg Value.bool (decide_eq_true (by unfold ShapeP; omega)).symm
            | exact congrArg Value.bool (decide_eq_false (by unfold ShapeP; omega)).symm
            | exact congrArg Value.bool (decide_eq_decide.2 (by unfold ShapeP; omega))
        · refine Cov.g_off rfl rfl rfl ?_
          refine Cov.g_off rfl rfl rfl ?_
          refine Cov.g_off rfl rfl rfl ?_
          refine Cov.q .ro (.pick_f rfl rfl) rfl ?_
          refine Cov.q .ro (.assign rfl) rfl ?_
          refine Cov.region_end ?_
          refine Cov.prune [(2, _)] ⟨rfl, trivial⟩ ?_
          refine Cov.retv (c := ⟨22, none⟩) [.tmp 2] [_] rfl Try.func22 Try.results22 ⟨RV.tmp rfl, trivial⟩ (fun _ h => h) ?_
          first
            | exact congrArg Value.bool (decide_eq_true (by unfold ShapeP; omega)).symm
            | exact congrArg Value.bool (decide_eq_false (by unfold ShapeP; omega)).symm
            | exact congrArg Value.bool (decide_eq_decide.2 (by unfold ShapeP; omega))
      · refine Cov.seq ?_
        refine Cov.region rfl ?_
        refine Cov.q .ro (.eql rfl rfl) rfl ?_
        refine Cov.q .ro (.assign rfl) rfl ?_
        refine Cov.region_end ?_
        refine Cov.prune [(1, _), (2, _), (12, _), (23, _)] ⟨rfl, rfl, rfl, rfl, trivial⟩ ?_
        refine Cov.cond_dec rfl (fun h6 => ?_) (fun h6 => ?_)
        · refine Cov.seq ?_
          refine Cov.region rfl ?_
          refine Cov.q .ro (.fieldAddr 2 rfl fl25_2 ty3.sz rfl) rfl ?_
          refine Cov.q .ro (.load_own 0 rfl rfl ty3 rfl) rfl ?_
          refine Cov.q .ro (.geq rfl rfl) rfl ?_
          refine Cov.q .ro (.move rfl) rfl ?_
          refine Cov.split 28 rfl (fun h7 => ?_) (fun h7 => ?_)
          · refine Cov.g_on rfl ?_
            refine Cov.q .ro (.fieldAddr 2 rfl fl25_2 ty3.sz rfl) rfl ?_
            refine Cov.g_on rfl ?_
            refine Cov.q .ro (.load_own 0 rfl rfl ty3 rfl) rfl ?_
            refine Cov.g_on rfl ?_
            refine Cov.q .ro (.fieldAddr 1 rfl fl25_1 ty3.sz rfl) rfl ?_
            refine Cov.g_on rfl ?_
            refine Cov.q .ro (.load_own 0 rfl rfl ty3 rfl) rfl ?_
            refine Cov.g_on rfl ?_
            refine Cov.q .ro (.sub rfl rfl (by omega)) rfl ?_
            refine Cov.g_on rfl ?_
            refine Cov.q .ro (.leq rfl rfl) rfl ?_
            refine Cov.q .ro (.pick_t rfl rfl) rfl ?_
            refine Cov.q .ro (.move rfl) rfl ?_
            refine Cov.split 36 rfl (fun h8 => ?_) (fun h8 => ?_)
            · refine Cov.g_on rfl ?_
              refine Cov.q .ro (.fieldAddr 3 rfl fl25_3 ty3.sz rfl) rfl ?_
              refine Cov.g_on rfl ?_
              refine Cov.q .ro (.load_own 0 rfl rfl ty3 rfl) rfl ?_
              refine Cov.g_on rfl ?_
              refine Cov.q .ro (.eql rfl rfl) rfl ?_
              refine Cov.q .ro (.pick_t rfl rfl) rfl ?_
              refine Cov.q .ro (.assign rfl) rfl ?_
              refine Cov.region_end ?_
              refine Cov.prune [(2, _)] ⟨rfl, trivial⟩ ?_
              refine Cov.retv (c := ⟨22, none⟩) [.tmp 2] [_] rfl Try.func22 Try.results22 ⟨RV.tmp rfl, trivial⟩ (fun _ h => h) ?_
              first
                | exact congrArg Value.bool (decide_eq_true (by unfold ShapeP; omega)).symm
                | exact congrArg Value.bool (decide_eq_false (by unfold ShapeP; omega)).symm
                | exact congrArg Value.bool (decide_eq_decide.2 (by unfold ShapeP; omega))
            · refine Cov.g_off rfl rfl rfl ?_
              refine Cov.g_off rfl rfl rfl ?_
              refine Cov.g_off rfl rfl rfl ?_
              refine Cov.q .ro (.pick_f rfl rfl) rfl ?_
              refine Cov.q .ro (.assign rfl) rfl ?_
              refine Cov.region_end ?_
              refine Cov.prune [(2, _)] ⟨rfl, trivial⟩ ?_
              refine Cov.retv (c := ⟨22, none⟩) [.tmp 2] [_] rfl Try.func22 Try.results22 ⟨RV.tmp rfl, trivial⟩ (fun _ h => h) ?_
              first
                | exact congrArg Value.bool (decide_eq_true (by unfold ShapeP; omega)).symm
                | exact congrArg Value.bool (decide_eq_false (by unfold ShapeP; omega)).symm
                | exact congrArg Value.bool (decide_eq_decide.2 (by unfold ShapeP; omega))
          · refine Cov.g_off rfl rfl rfl ?_
            refine Cov.g_off rfl rfl rfl ?_
            refine Cov.g_off rfl rfl rfl ?_
            refine Cov.g_off rfl rfl rfl ?_
            refine Cov.g_off rfl rfl rfl ?_
            refine Cov.g_off rfl rfl rfl ?_
            refine Cov.q .ro (.pick_f rfl rfl) rfl ?_
            refine Cov.q .ro (.move rfl) rfl ?_
            refine Cov.g_off rfl rfl rfl ?_
            refine Cov.g_off rfl rfl rfl ?_
            refine Cov.g_off rfl rfl rfl ?_
            refine Cov.q .ro (.pick_f rfl rfl) rfl ?_
            refine Cov.q .ro (.assign rfl) rfl ?_
            refine Cov.region_end ?_
            refine Cov.prune [(2, _)] ⟨rfl, trivial⟩ ?_
            refine Cov.retv (c := ⟨22, none⟩) [.tmp 2] [_] rfl Try.func22 Try.results22 ⟨RV.tmp rfl, trivial⟩ (fun _ h => h) ?_
            first
              | exact congrArg Value.bool (decide_eq_true (by unfold ShapeP; omega)).symm
              | exact congrArg Value.bool (decide_eq_false (by unfold ShapeP; omega)).symm
              | exact congrArg Value.bool (decide_eq_decide.2 (by unfold ShapeP; omega))
        · refine Cov.seq ?_
          refine Cov.region rfl ?_
          refine Cov.q .ro (.eql rfl rfl) rfl ?_
          refine Cov.q .ro (.assign rfl) rfl ?_
          refine Cov.region_end ?_
          refine Cov.cond_dec rfl (fun h9 => ?_) (fun h9 => ?_)
          · refine Cov.seq ?_
            refine Cov.region rfl ?_
            refine Cov.q .ro (.fieldAddr 2 rfl fl25_2 ty3.sz rfl) rfl ?_
            refine Cov.q .ro (.load_own 0 rfl rfl ty3 rfl) rfl ?_
            refine Cov.q .ro (.geq rfl rfl) rfl ?_
            refine Cov.q .ro (.move rfl) rfl ?_
            refine Cov.split 46 rfl (fun h10 => ?_) (fun h10 => ?_)
            · refine Cov.g_on rfl ?_
              refine Cov.q .ro (.fieldAddr 3 rfl fl25_3 ty3.sz rfl) rfl ?_
              refine Cov.g_on rfl ?_
              refine Cov.q .ro (.load_own 0 rfl rfl ty3 rfl) rfl ?_
              refine Cov.g_on rfl ?_
              refine Cov.q .ro (.geq rfl rfl) rfl ?_
              refine Cov.q .ro (.pick_t rfl rfl) rfl ?_
              refine Cov.q .ro (.move rfl) rfl ?_
              refine Cov.split 51 rfl (fun h11 => ?_) (fun h11 => ?_)
              · refine Cov.g_on rfl ?_
                refine Cov.q .ro (.fieldAddr 2 rfl fl25_2 ty3.sz rfl) rfl ?_
                refine Cov.g_on rfl ?_
                refine Cov.q .ro (.load_own 0 rfl rfl ty3 rfl) rfl ?_
                refine Cov.g_on rfl ?_
                refine Cov.q .ro (.leq rfl rfl) rfl ?_
                refine Cov.q .ro (.pick_t rfl rfl) rfl ?_
                refine Cov.q .ro (.move rfl) rfl ?_
                refine Cov.split 56 rfl (fun h12 => ?_) (fun h12 => ?_)
                · refine Cov.g_on rfl ?_
                  refine Cov.q .ro (.fieldAddr 3 rfl fl25_3 ty3.sz rfl) rfl ?_
                  refine Cov.g_on rfl ?_
                  refine Cov.q .ro (.load_own 0 rfl rfl ty3 rfl) rfl ?_
                  refine Cov.g_on rfl ?_
                  refine Cov.q .ro (.leq rfl rfl) rfl ?_
                  refine Cov.q .ro (.pick_t rfl rfl) rfl ?_
                  refine Cov.q .ro (.move rfl) rfl ?_
                  refine Cov.split 61 rfl (fun h13 => ?_) (fun h13 => ?_)
                  · refine Cov.g_on rfl ?_
                    refine Cov.q .ro (.fieldAddr 3 rfl fl25_3 ty3.sz rfl) rfl ?_
                    refine Cov.g_on rfl ?_
                    refine Cov.q .ro (.load_own 0 rfl rfl ty3 rfl) rfl ?_
                    refine Cov.g_on rfl ?_
                    refine Cov.q .ro (.mul rfl rfl (by omega)) rfl ?_
                    refine Cov.g_on rfl ?_
                    refine Cov.q .ro (.fieldAddr 2 rfl fl25_2 ty3.sz rfl) rfl ?_
                    refine Cov.g_on rfl ?_
                    refine Cov.q .ro (.load_own 0 rfl rfl ty3 rfl) rfl ?_
                    refine Cov.g_on rfl ?_
                    refine Cov.q .ro (.add rfl rfl (by omega)) rfl ?_
                    refine Cov.g_on rfl ?_
                    refine Cov.q .ro (.sub rfl rfl (by omega)) rfl ?_
                    refine Cov.g_on rfl ?_
                    refine Cov.q .ro (.fieldAddr 1 rfl fl25_1 ty3.sz rfl) rfl ?_
                    refine Cov.g_on rfl ?_
                    refine Cov.q .ro (.load_own 0 rfl rfl ty3 rfl) rfl ?_
                    refine Cov.g_on rfl ?_
                    refine Cov.q .ro (.leq rfl rfl) rfl ?_
                    refine Cov.q .ro (.pick_t rfl rfl) rfl ?_
                    refine Cov.q .ro (.assign rfl) rfl ?_
                    refine Cov.region_end ?_
                    refine Cov.prune [(2, _)] ⟨rfl, trivial⟩ ?_
                    refine Cov.retv (c := ⟨22, none⟩) [.tmp 2] [_] rfl Try.func22 Try.results22 ⟨RV.tmp rfl, trivial⟩ (fun _ h => h) ?_
                    first
                      | exact congrArg Value.bool (decide_eq_true (by unfold ShapeP; omega)).symm
                      | exact congrArg Value.bool (decide_eq_false (by unfold ShapeP; omega)).symm
                      | exact congrArg Value.bool (decide_eq_decide.2 (by unfold ShapeP; omega))
                  · refine Cov.g_off rfl rfl rfl ?_
                    refine Cov.g_off rfl rfl rfl ?_
                    refine Cov.g_off rfl rfl rfl ?_
                    refine Cov.g_off rfl rfl rfl ?_
                    refine Cov.g_off rfl rfl rfl ?_
                    refine Cov.g_off rfl rfl rfl ?_
                    refine Cov.g_off rfl rfl rfl ?_
                    refine Cov.g_off rfl rfl rfl ?_
                    refine Cov.g_off rfl rfl rfl ?_
                    refine Cov.g_off rfl rfl rfl ?_
                    refine Cov.q .ro (.pick_f rfl rfl) rfl ?_
                    refine Cov.q .ro (.assign rfl) rfl ?_
                    refine Cov.region_end ?_
                    refine Cov.prune [(2, _)] ⟨rfl, trivial⟩ ?_
                    refine Cov.retv (c := ⟨22, none⟩) [.tmp 2] [_] rfl Try.func22 Try.results22 ⟨RV.tmp rfl, trivial⟩ (fun _ h => h) ?_
                    first
                      | exact congrArg Value.bool (decide_eq_true (by unfold ShapeP; omega)).symm
                      | exact congrArg Value.bool (decide_eq_false (by unfold ShapeP; omega)).symm
                      | exact congrArg Value.bool (decide_eq_decide.2 (by unfold ShapeP; omega))
                · refine Cov.g_off rfl rfl rfl ?_
                  refine Cov.g_off rfl rfl rfl ?_
                  refine Cov.g_off rfl rfl rfl ?_
                  refine Cov.q .ro (.pick_f rfl rfl) rfl ?_
                  refine Cov.q .ro (.move rfl) rfl ?_
                  refine Cov.g_off rfl rfl rfl ?_
                  refine Cov.g_off rfl rfl rfl ?_
                  refine Cov.g_off rfl rfl rfl ?_
                  refine Cov.g_off rfl rfl rfl ?_
                  refine Cov.g_off rfl rfl rfl ?_
                  refine Cov.g_off rfl rfl rfl ?_
                  refine Cov.g_off rfl rfl rfl ?_
                  refine Cov.g_off rfl rfl rfl ?_
                  refine Cov.g_off rfl rfl rfl ?_
                  refine Cov.g_off rfl rfl rfl ?_
                  refine Cov.q .ro (.pick_f rfl rfl) rfl ?_
                  refine Cov.q .ro (.assign rfl) rfl ?_
                  refine Cov.region_end ?_
                  refine Cov.prune [(2, _)] ⟨rfl, trivial⟩ ?_
                  refine Cov.retv (c := ⟨22, none⟩) [.tmp 2] [_] rfl Try.func22 Try.results22 ⟨RV.tmp rfl, trivial⟩ (fun _ h => h) ?_
                  first
                    | exact congrArg Value.bool (decide_eq_true (by unfold ShapeP; omega)).symm
                    | exact congrArg Value.bool (decide_eq_false (by unfold ShapeP; omega)).symm
                    | exact congrArg Value.bool (decide_eq_decide.2 (by unfold ShapeP; omega))
              · refine Cov.g_off rfl rfl rfl ?_
                refine Cov.g_off rfl rfl rfl ?_
                refine Cov.g_off rfl rfl rfl ?_
                refine Cov.q .ro (.pick_f rfl rfl) rfl ?_
                refine Cov.q .ro (.move rfl) rfl ?_
                refine Cov.g_off rfl rfl rfl ?_
                refine Cov.g_off rfl rfl rfl ?_
                refine Cov.g_off rfl rfl rfl ?_
                refine Cov.q .ro (.pick_f rfl rfl) rfl ?_
                refine Cov.q .ro (.move rfl) rfl ?_
                refine Cov.g_off rfl rfl rfl ?_
                refine Cov.g_off rfl rfl rfl ?_
                refine Cov.g_off rfl rfl rfl ?_
                refine Cov.g_off rfl rfl rfl ?_
                refine Cov.g_off rfl rfl rfl ?_
                refine Cov.g_off rfl rfl rfl ?_
                refine Cov.g_off rfl rfl rfl ?_
                refine Cov.g_off rfl rfl rfl ?_
                refine Cov.g_off rfl rfl rfl ?_
                refine Cov.g_off rfl rfl rfl ?_
                refine Cov.q .ro (.pick_f rfl rfl) rfl ?_
                refine Cov.q .ro (.assign rfl) rfl ?_
                refine Cov.region_end ?_
                refine Cov.prune [(2, _)] ⟨rfl, trivial⟩ ?_
                refine Cov.retv (c := ⟨22, none⟩) [.tmp 2] [_] rfl Try.func22 Try.results22 ⟨RV.tmp rfl, trivial⟩ (fun _ h => h) ?_
                first
                  | exact congrArg Value.bool (decide_eq_true (by unfold ShapeP; omega)).symm
                  | exact congrArg Value.bool (decide_eq_false (by unfold ShapeP; omega)).symm
                  | exact congrArg Value.bool (decide_eq_decide.2 (by unfold ShapeP; omega))
            · refine Cov.g_off rfl rfl rfl ?_
              refine Cov.g_off rfl rfl rfl ?_
              refine Cov.g_off rfl rfl rfl ?_
              refine Cov.q .ro (.pick_f rfl rfl) rfl ?_
              refine Cov.q .ro (.move rfl) rfl ?_
              refine Cov.g_off rfl rfl rfl ?_
              refine Cov.g_off rfl rfl rfl ?_
              refine Cov.g_off rfl rfl rfl ?_
              refine Cov.q .ro (.pick_f rfl rfl) rfl ?_
              refine Cov.q .ro (.move rfl) rfl ?_
              refine Cov.g_off rfl rfl rfl ?_
              refine Cov.g_off rfl rfl rfl ?_
              refine Cov.g_off rfl rfl rfl ?_
              refine Cov.q .ro (.pick_f rfl rfl) rfl ?_
              refine Cov.q .ro (.move rfl) rfl ?_
              refine Cov.g_off rfl rfl rfl ?_
              refine Cov.g_off rfl rfl rfl ?_
              refine Cov.g_off rfl rfl rfl ?_
              refine Cov.g_off rfl rfl rfl ?_
              refine Cov.g_off rfl rfl rfl ?_
              refine Cov.g_off rfl rfl rfl ?_
              refine Cov.g_off rfl rfl rfl ?_
              refine Cov.g_off rfl rfl rfl ?_
              refine Cov.g_off rfl rfl rfl ?_
              refine Cov.g_off rfl rfl rfl ?_
              refine Cov.q .ro (.pick_f rfl rfl) rfl ?_
              refine Cov.q .ro (.assign rfl) rfl ?_
              refine Cov.region_end ?_
              refine Cov.prune [(2, _)] ⟨rfl, trivial⟩ ?_
              refine Cov.retv (c := ⟨22, none⟩) [.tmp 2] [_] rfl Try.func22 Try.results22 ⟨RV.tmp rfl, trivial⟩ (fun _ h => h) ?_
              first
                | exact congrArg Value.bool (decide_eq_true (by unfold ShapeP; omega)).symm
                | exact congrArg Value.bool (decide_eq_false (by unfold ShapeP; omega)).symm
                | exact congrArg Value.bool (decide_eq_decide.2 (by unfold ShapeP; omega))
          · refine Cov.skip ?_
            refine Cov.inBlock ?_
            refine Cov.seq ?_
            refine Cov.region rfl ?_
            refine Cov.q .ro (.assign rfl) rfl ?_
            refine Cov.region_end ?_
            refine Cov.retv (c := ⟨22, none⟩) [.tmp 2] [_] rfl Try.func22 Try.results22 ⟨RV.tmp rfl, trivial⟩ (fun _ h => h) ?_
            first
              | exact congrArg Value.bool (decide_eq_true (by unfold ShapeP; omega)).symm
              | exact congrArg Value.bool (decide_eq_false (by unfold ShapeP; omega)).symm
              | exact congrArg Value.bool (decide_eq_decide.2 (by unfold ShapeP; omega))

/-- How many elements a query has. -/
def unitsI (k s d g n : Int) : Int := if ShapeP k s d g ∧ 1 ≤ n ∧ n ≤ 1024 then (if k = 3 then (n + g - 1) / g else n) else 0

theorem storage_c {k s d g : Int} {Fs : List Hp} : RetV Try.prog 30 #[.agg #[.int .i64 k, .int .i64 s, .int .i64 d, .int .i64 g]] Fs (fun v => v = .agg #[.int .i64 s, .int .i64 d, .int .i64 g]) := by
  refine Ret.of (vs := [_]) Try.func30 rfl Try.ntmps30 [(0, _)] ⟨rfl, trivial⟩ rfl fun w0 => ?_
  refine Cov.seq ?_
  refine Cov.region rfl ?_
  refine Cov.box [_, _, _, _] .ro rfl rfl rfl (fun b1 hb1 => ?_)
  refine Cov.alloc .ro ty57 rfl (fun b2 hb2 => ?_)
  refine Cov.region_end ?_
  refine Cov.seq ?_
  refine Cov.region rfl ?_
  refine Cov.q .ro (.fieldAddr 1 rfl fl25_1 ty3.sz rfl) rfl ?_
  refine Cov.q .ro (.load_own 1 rfl rfl ty3 rfl) rfl ?_
  refine Cov.q .ro (.fieldAddr 2 rfl fl25_2 ty3.sz rfl) rfl ?_
  refine Cov.q .ro (.load_own 1 rfl rfl ty3 rfl) rfl ?_
  refine Cov.q .ro (.fieldAddr 3 rfl fl25_3 ty3.sz rfl) rfl ?_
  refine Cov.q .ro (.load_own 1 rfl rfl ty3 rfl) rfl ?_
  refine Cov.q .ro (.build [_, _, _] [(0, _), (1, _), (2, _)] ty57 pl57 rfl rfl) rfl ?_
  refine Cov.store 0 [_, _, _] [_, _] .ro rfl rfl rfl ty57 rfl rfl rfl rfl ?_
  refine Cov.region_end ?_
  refine Cov.retv (c := ⟨30, none⟩) [.cell 2 57] [_] rfl Try.func30 Try.results30 ⟨RV.cell_a 0 [_, _, _] rfl rfl ty57 rfl, trivial⟩ (fun _ h => h) ?_
  rfl

theorem gunits_c {s d g n : Int} {Fs : List Hp} (h1 : 1 ≤ n ∧ n ≤ 1024) (h2 : 1 ≤ g ∧ g ≤ 10) : RetV Try.prog 31 #[.agg #[.int .i64 s, .int .i64 d, .int .i64 g], .int .i64 n] Fs (fun v => v = .int .i64 ((n + g - 1) / g)) := by
  refine Ret.of (vs := [_, _]) Try.func31 rfl Try.ntmps31 [(0, _), (1, _)] ⟨rfl, rfl, trivial⟩ rfl fun w0 => ?_
  refine Cov.seq ?_
  refine Cov.region rfl ?_
  refine Cov.box [_, _, _] .ro rfl rfl rfl (fun b1 hb1 => ?_)
  refine Cov.q .ro (.assign rfl) rfl ?_
  refine Cov.region_end ?_
  refine Cov.seq ?_
  refine Cov.region rfl ?_
  refine Cov.q .ro (.move rfl) rfl ?_
  refine Cov.q .ro (.fieldAddr 2 rfl fl56_2 ty3.sz rfl) rfl ?_
  refine Cov.q .ro (.load_own 0 rfl rfl ty3 rfl) rfl ?_
  refine Cov.q .ro (.add rfl rfl (by omega)) rfl ?_
  refine Cov.q .ro (.sub rfl rfl (by omega)) rfl ?_
  refine Cov.q .ro (.fieldAddr 2 rfl fl56_2 ty3.sz rfl) rfl ?_
  refine Cov.q .ro (.load_own 0 rfl rfl ty3 rfl) rfl ?_
  refine Cov.q .ro (.quo rfl rfl (by omega)) rfl ?_
  refine Cov.q .ro (.assign rfl) rfl ?_
  refine Cov.region_end ?_
  refine Cov.retv (c := ⟨31, none⟩) [.tmp 4] [_] rfl Try.func31 Try.results31 ⟨RV.tmp rfl, trivial⟩ (fun _ h => h) ?_
  rfl

theorem sunits_c {k s d g n : Int} {Fs : List Hp} : RetV Try.prog 24 #[.agg #[.int .i64 k, .int .i64 s, .int .i64 d, .int .i64 g], .int .i64 n] Fs (fun v => v = .int .i64 (unitsI k s d g n)) := by
  refine Ret.of (vs := [_, _]) Try.func24 rfl Try.ntmps24 [(0, _), (1, _)] ⟨rfl, rfl, trivial⟩ rfl fun w0 => ?_
  refine Cov.seq ?_
  refine Cov.region rfl ?_
  refine Cov.box [_, _, _, _] .ro rfl rfl rfl (fun b1 hb1 => ?_)
  refine Cov.q .ro (.assign rfl) rfl ?_
  refine Cov.region_end ?_
  refine Cov.seq ?_
  refine Cov.block ?_
  refine Cov.seq ?_
  refine Cov.region rfl ?_
  refine Cov.q .ro (.load_own_a 0 [_, _, _, _] rfl rfl ty25 rfl) rfl ?_
  refine Cov.callv [_] [] .ro rfl rfl Try.call23 shape_c rfl (fun v2 hv2 => ?_)
  subst hv2
  refine Cov.q .ro (.not_d rfl) rfl ?_
  refine Cov.q .ro (.move rfl) rfl ?_
  refine Cov.split 9 rfl (fun h3 => ?_) (fun h3 => ?_)
  · refine Cov.g_off rfl rfl rfl ?_
    refine Cov.g_off rfl rfl rfl ?_
    refine Cov.g_off rfl rfl rfl ?_
    refine Cov.q .ro (.pick_t rfl rfl) rfl ?_
    refine Cov.q .ro (.assign rfl) rfl ?_
    refine Cov.region_end ?_
    refine Cov.cond_true rfl ?_
    refine Cov.seq ?_
    refine Cov.region rfl ?_
    refine Cov.q .ro (.assign rfl) rfl ?_
    refine Cov.region_end ?_
    refine Cov.retv (c := ⟨24, none⟩) [.tmp 4] [_] rfl Try.func24 Try.results24 ⟨RV.tmp rfl, trivial⟩ (fun _ h => h) ?_
    show Value.int .i64 _ = Value.int .i64 _
    congr 1
    unfold unitsI
    split <;> (try split) <;> first | rfl | (exfalso; simp_all; done) | (exfalso; simp_all; omega)
  · refine Cov.g_on rfl ?_
    refine Cov.q .ro (.move rfl) rfl ?_
    refine Cov.g_on rfl ?_
    refine Cov.callv [_, _, _] [] .ro rfl rfl Try.call29 within_c rfl (fun v4 hv4 => ?_)
    subst hv4
    refine Cov.g_on rfl ?_
    refine Cov.q .ro (.not_d rfl) rfl ?_
    refine Cov.q .ro (.pick_f rfl rfl) rfl ?_
    refine Cov.q .ro (.assign rfl) rfl ?_
    refine Cov.region_end ?_
    refine Cov.cond_dec rfl (fun h5 => ?_) (fun h5 => ?_)
    · refine Cov.seq ?_
      refine Cov.region rfl ?_
      refine Cov.q .ro (.assign rfl) rfl ?_
      refine Cov.region_end ?_
      refine Cov.retv (c := ⟨24, none⟩) [.tmp 4] [_] rfl Try.func24 Try.results24 ⟨RV.tmp rfl, trivial⟩ (fun _ h => h) ?_
      show Value.int .i64 _ = Value.int .i64 _
      congr 1
      unfold unitsI
      split <;> (try split) <;> first | rfl | (exfalso; simp_all; done) | (exfalso; simp_all; omega)
    · refine Cov.seq ?_
      refine Cov.region rfl ?_
      refine Cov.q .ro (.fieldAddr 0 rfl fl25_0 ty3.sz rfl) rfl ?_
      refine Cov.q .ro (.load_own 0 rfl rfl ty3 rfl) rfl ?_
      refine Cov.q .ro (.eql rfl rfl) rfl ?_
      refine Cov.q .ro (.assign rfl) rfl ?_
      refine Cov.region_end ?_
      refine Cov.prune [(1, _), (2, _), (4, _), (14, _)] ⟨rfl, rfl, rfl, rfl, trivial⟩ ?_
      refine Cov.cond_dec rfl (fun h6 => ?_) (fun h6 => ?_)
      · refine Cov.seq ?_
        refine Cov.region rfl ?_
        refine Cov.q .ro (.load_own_a 0 [_, _, _, _] rfl rfl ty25 rfl) rfl ?_
        refine Cov.callv [_] [] .ro rfl rfl Try.call30 storage_c rfl (fun v7 hv7 => ?_)
        subst hv7
        refine Cov.q .ro (.move rfl) rfl ?_
        refine Cov.callv [_, _] [] .ro rfl rfl Try.call31 (gunits_c (by omega) (by unfold ShapeP at *; omega)) rfl (fun v8 hv8 => ?_)
        subst hv8
        refine Cov.q .ro (.assign rfl) rfl ?_
        refine Cov.region_end ?_
        refine Cov.retv (c := ⟨24, none⟩) [.tmp 4] [_] rfl Try.func24 Try.results24 ⟨RV.tmp rfl, trivial⟩ (fun _ h => h) ?_
        show Value.int .i64 _ = Value.int .i64 _
        congr 1
        unfold unitsI
        split <;> (try split) <;> first | rfl | (exfalso; simp_all; done) | (exfalso; simp_all; omega)
      · refine Cov.skip ?_
        refine Cov.inBlock ?_
        refine Cov.seq ?_
        refine Cov.region rfl ?_
        refine Cov.q .ro (.move rfl) rfl ?_
        refine Cov.q .ro (.assign rfl) rfl ?_
        refine Cov.region_end ?_
        refine Cov.retv (c := ⟨24, none⟩) [.tmp 4] [_] rfl Try.func24 Try.results24 ⟨RV.tmp rfl, trivial⟩ (fun _ h => h) ?_
        show Value.int .i64 _ = Value.int .i64 _
        congr 1
        unfold unitsI
        split <;> (try split) <;> first | rfl | (exfalso; simp_all; done) | (exfalso; simp_all; omega)

theorem rsunits_c {k s d g n : Int} {Fs : List Hp} : RetV Try.prog 25 #[.agg #[.int .i64 k, .int .i64 s, .int .i64 d, .int .i64 g], .int .i64 n] Fs (fun v => v = .int .i64 (unitsI k s d g n)) := by
  refine Ret.of (vs := [_, _]) Try.func25 rfl Try.ntmps25 [(0, _), (1, _)] ⟨rfl, rfl, trivial⟩ rfl fun w0 => ?_
  refine Cov.seq ?_
  refine Cov.region rfl ?_
  refine Cov.box [_, _, _, _] .ro rfl rfl rfl (fun b1 hb1 => ?_)
  refine Cov.q .ro (.assign rfl) rfl ?_
  refine Cov.region_end ?_
  refine Cov.seq ?_
  refine Cov.seq ?_
  refine Cov.region rfl ?_
  refine Cov.q .ro (.load_own_a 0 [_, _, _, _] rfl rfl ty25 rfl) rfl ?_
  refine Cov.callv [_] [] .ro rfl rfl Try.call22 rshape_c rfl (fun v2 hv2 => ?_)
  subst hv2
  refine Cov.q .ro (.not_d rfl) rfl ?_
  refine Cov.q .ro (.move rfl) rfl ?_
  refine Cov.split 8 rfl (fun h3 => ?_) (fun h3 => ?_)
  · refine Cov.g_off rfl rfl rfl ?_
    refine Cov.g_off rfl rfl rfl ?_
    refine Cov.q .ro (.pick_t rfl rfl) rfl ?_
    refine Cov.q .ro (.move rfl) rfl ?_
    refine Cov.g_off rfl rfl rfl ?_
    refine Cov.g_off rfl rfl rfl ?_
    refine Cov.q .ro (.pick_t rfl rfl) rfl ?_
    refine Cov.region_end ?_
    refine Cov.cond_true rfl ?_
    refine Cov.seq ?_
    refine Cov.region rfl ?_
    refine Cov.q .ro (.assign rfl) rfl ?_
    refine Cov.region_end ?_
    refine Cov.retv (c := ⟨25, none⟩) [.tmp 4] [_] rfl Try.func25 Try.results25 ⟨RV.tmp rfl, trivial⟩ (fun _ h => h) ?_
    show Value.int .i64 _ = Value.int .i64 _
    congr 1
    unfold unitsI
    split <;> (try split) <;> first | rfl | (exfalso; simp_all; done) | (exfalso; simp_all; omega)
  · refine Cov.g_on rfl ?_
    refine Cov.q .ro (.move rfl) rfl ?_
    refine Cov.g_on rfl ?_
    refine Cov.q .ro (.lss rfl rfl) rfl ?_
    refine Cov.q .ro (.pick_f rfl rfl) rfl ?_
    refine Cov.q .ro (.move rfl) rfl ?_
    refine Cov.split 12 rfl (fun h4 => ?_) (fun h4 => ?_)
    · refine Cov.g_off rfl rfl rfl ?_
      refine Cov.g_off rfl rfl rfl ?_
      refine Cov.q .ro (.pick_t rfl rfl) rfl ?_
      refine Cov.region_end ?_
      refine Cov.cond_true rfl ?_
      refine Cov.seq ?_
      refine Cov.region rfl ?_
      refine Cov.q .ro (.assign rfl) rfl ?_
      refine Cov.region_end ?_
      refine Cov.retv (c := ⟨25, none⟩) [.tmp 4] [_] rfl Try.func25 Try.results25 ⟨RV.tmp rfl, trivial⟩ (fun _ h => h) ?_
      show Value.int .i64 _ = Value.int .i64 _
      congr 1
      unfold unitsI
      split <;> (try split) <;> first | rfl | (exfalso; simp_all; done) | (exfalso; simp_all; omega)
    · refine Cov.g_on rfl ?_
      refine Cov.q .ro (.move rfl) rfl ?_
      refine Cov.g_on rfl ?_
      refine Cov.q .ro (.gtr rfl rfl) rfl ?_
      refine Cov.q .ro (.pick_f rfl rfl) rfl ?_
      refine Cov.region_end ?_
      refine Cov.cond_dec rfl (fun h5 => ?_) (fun h5 => ?_)
      · refine Cov.seq ?_
        refine Cov.region rfl ?_
        refine Cov.q .ro (.assign rfl) rfl ?_
        refine Cov.region_end ?_
        refine Cov.retv (c := ⟨25, none⟩) [.tmp 4] [_] rfl Try.func25 Try.results25 ⟨RV.tmp rfl, trivial⟩ (fun _ h => h) ?_
        show Value.int .i64 _ = Value.int .i64 _
        congr 1
        unfold unitsI
        split <;> (try split) <;> first | rfl | (exfalso; simp_all; done) | (exfalso; simp_all; omega)
      · refine Cov.skip ?_
        refine Cov.seq ?_
        refine Cov.seq ?_
        refine Cov.region rfl ?_
        refine Cov.q .ro (.fieldAddr 0 rfl fl25_0 ty3.sz rfl) rfl ?_
        refine Cov.q .ro (.load_own 0 rfl rfl ty3 rfl) rfl ?_
        refine Cov.q .ro (.eql rfl rfl) rfl ?_
        refine Cov.region_end ?_
        refine Cov.prune [(1, _), (2, _), (4, _), (18, _)] ⟨rfl, rfl, rfl, rfl, trivial⟩ ?_
        refine Cov.cond_dec rfl (fun h6 => ?_) (fun h6 => ?_)
        · refine Cov.seq ?_
          refine Cov.region rfl ?_
          refine Cov.q .ro (.move rfl) rfl ?_
          refine Cov.q .ro (.fieldAddr 3 rfl fl25_3 ty3.sz rfl) rfl ?_
          refine Cov.q .ro (.load_own 0 rfl rfl ty3 rfl) rfl ?_
          refine Cov.q .ro (.add rfl rfl (by unfold ShapeP at *; omega)) rfl ?_
          refine Cov.q .ro (.sub rfl rfl (by unfold ShapeP at *; omega)) rfl ?_
          refine Cov.q .ro (.fieldAddr 3 rfl fl25_3 ty3.sz rfl) rfl ?_
          refine Cov.q .ro (.load_own 0 rfl rfl ty3 rfl) rfl ?_
          refine Cov.q .ro (.quo rfl rfl (by unfold ShapeP at *; omega)) rfl ?_
          refine Cov.q .ro (.assign rfl) rfl ?_
          refine Cov.region_end ?_
          refine Cov.retv (c := ⟨25, none⟩) [.tmp 4] [_] rfl Try.func25 Try.results25 ⟨RV.tmp rfl, trivial⟩ (fun _ h => h) ?_
          show Value.int .i64 _ = Value.int .i64 _
          congr 1
          unfold unitsI
          split <;> (try split) <;> first | rfl | (exfalso; simp_all; done) | (exfalso; simp_all; omega)
        · refine Cov.skip ?_
          refine Cov.seq ?_
          refine Cov.region rfl ?_
          refine Cov.q .ro (.move rfl) rfl ?_
          refine Cov.q .ro (.assign rfl) rfl ?_
          refine Cov.region_end ?_
          refine Cov.retv (c := ⟨25, none⟩) [.tmp 4] [_] rfl Try.func25 Try.results25 ⟨RV.tmp rfl, trivial⟩ (fun _ h => h) ?_
          show Value.int .i64 _ = Value.int .i64 _
          congr 1
          unfold unitsI
          split <;> (try split) <;> first | rfl | (exfalso; simp_all; done) | (exfalso; simp_all; omega)

/-- Dice: seeds l, of which the first k have been used. -/
structure DiceR (G : Hp) (v : Value) (l : List Int) : Prop where
  rd : U8s G v l
  rng : ∀ x ∈ l, 0 ≤ x ∧ x ≤ 255
  len : l.length ≤ 300
/-- What Pick gives. -/
def pk (l : List Int) (k : Nat) (m : Int) : Int := if k < l.length then l.getD k 0 % m else 0
def nx (l : List Int) (k : Nat) : Nat := if k < l.length then k + 1 else k
theorem pk_rng (l : List Int) (k : Nat) {m : Int} (hm : 1 ≤ m) : 0 ≤ pk l k m ∧ pk l k m < m := by
  unfold pk; split
  · exact ⟨Int.emod_nonneg _ (by omega), Int.emod_lt_of_pos _ (by omega)⟩
  · omega
theorem u8_get {l : List Int} (h : ∀ x ∈ l, 0 ≤ x ∧ x ≤ 255) (i : Nat) : 0 ≤ l.getD i 0 ∧ l.getD i 0 ≤ 255 := by
  rw [List.getD_eq_getElem?_getD]
  rcases Nat.lt_or_ge i l.length with h1 | h1
  · rw [List.getElem?_eq_getElem h1]; exact h _ (List.getElem_mem h1)
  · rw [List.getElem?_eq_none h1]; simp
theorem DiceR.take {G : Hp} {v : Value} {l : List Int} (h : U8s G v l) (hr : ∀ x ∈ l, 0 ≤ x ∧ x ≤ 255) (hl : 300 ≤ l.length) : DiceR G (subV v 0 300 1) (l.take 300) :=
  ⟨by have h1 := h.msub (a := 0) (b := 300) (by omega) hl; simpa only [List.drop_zero, Nat.sub_zero] using h1, fun x hx => hr x (List.mem_of_mem_take hx), by simp; omega⟩

theorem dnew_c {Fs : List Hp} {G : Hp} {sa : Option Addr} {sn sc : Nat} {l : List Int} (hG : G ∈ Fs) (hs : U8s G (.slice sa sn sc) l) (hr : ∀ x ∈ l, 0 ≤ x ∧ x ≤ 255) : Ret Try.prog 8 #[.slice sa sn sc] Fs [] (fun r _ bl sl => ∃ b a' n' c' l', l' = l.take 300 ∧ r = .pointer (some ⟨b, 0, none⟩) ∧ bl = [(b, .cells #[.slice a' n' c', .int .i64 ((0 : Nat) : Int)] 49 (0, 0))] ∧ sl = [] ∧ DiceR G (.slice a' n' c') l') := by
  refine Ret.of (vs := [_]) Try.func8 rfl Try.ntmps8 [(0, _)] ⟨rfl, trivial⟩ rfl fun w0 => ?_
  refine Cov.seq ?_
  refine Cov.region rfl ?_
  refine Cov.q .ro (.assign rfl) rfl ?_
  refine Cov.region_end ?_
  refine Cov.seq ?_
  refine Cov.seq ?_
  refine Cov.region rfl ?_
  refine Cov.q .ro (.move rfl) rfl ?_
  refine Cov.q .ro (.len_sl rfl hs.mlen sl22) rfl ?_
  refine Cov.q .ro (.gtr rfl rfl) rfl ?_
  refine Cov.region_end ?_
  refine Cov.cond_dec rfl (fun h1 => ?_) (fun h1 => ?_)
  · refine Cov.region rfl ?_
    refine Cov.q .ro (.move rfl) rfl ?_
    refine Cov.q .ro (.slice_m hs rfl sl22 ty5.sz .no (.yes rfl (by omega) rfl) (by omega) (by omega)) rfl ?_
    refine Cov.q .ro (.assign rfl) rfl ?_
    refine Cov.region_end ?_
    refine Cov.seq ?_
    refine Cov.region rfl ?_
    refine Cov.q .ro (.move rfl) rfl ?_
    refine Cov.q .ro (.build [_, _] [(0, _)] ty49 pl49 rfl rfl) rfl ?_
    refine Cov.box [_, _] .ro rfl rfl rfl (fun b2 hb2 => ?_)
    refine Cov.q .ro (.assign rfl) rfl ?_
    refine Cov.region_end ?_
    refine Cov.leave (c := ⟨8, none⟩) (.inr ⟨_, rfl⟩) [.tmp 2] [_] rfl Try.func8 Try.results8 ⟨RV.tmp rfl, trivial⟩ (fun _ h => h) (.inl rfl) (fresh_emp _) ?_
    exact ⟨_, _, _, _, l.take 300, rfl, rfl, rfl, rfl, DiceR.take hs hr (by omega)⟩
  · refine Cov.skip ?_
    refine Cov.seq ?_
    refine Cov.region rfl ?_
    refine Cov.q .ro (.move rfl) rfl ?_
    refine Cov.q .ro (.build [_, _] [(0, _)] ty49 pl49 rfl rfl) rfl ?_
    refine Cov.box [_, _] .ro rfl rfl rfl (fun b3 hb3 => ?_)
    refine Cov.q .ro (.assign rfl) rfl ?_
    refine Cov.region_end ?_
    refine Cov.leave (c := ⟨8, none⟩) (.inr ⟨_, rfl⟩) [.tmp 2] [_] rfl Try.func8 Try.results8 ⟨RV.tmp rfl, trivial⟩ (fun _ h => h) (.inl rfl) (fresh_emp _) ?_
    exact ⟨_, _, _, _, l, (List.take_of_length_le (by omega)).symm, rfl, rfl, rfl, ⟨hs, hr, by omega⟩⟩

theorem dpick_c {Fs : List Hp} {G : Hp} {b : Nat} {sa : Option Addr} {sn sc : Nat} {l : List Int} {k : Nat} {m : Int} (hG : G ∈ Fs) (hd : DiceR G (.slice sa sn sc) l) (hm : 1 ≤ m) : RetL Try.prog 13 #[.pointer (some ⟨b, 0, none⟩), .int .i64 m] Fs (b, .cells #[.slice sa sn sc, .int .i64 k] 49 (0, 0)) (fun r o' => r = .int .i64 (pk l k m) ∧ o' = .cells #[.slice sa sn sc, .int .i64 (nx l k : Nat)] 49 (0, 0)) := by
  refine Ret.of (vs := [_, _]) Try.func13 rfl Try.ntmps13 [(0, _), (1, _)] ⟨rfl, rfl, trivial⟩ rfl fun w0 => ?_
  refine Cov.seq ?_
  refine Cov.region rfl ?_
  refine Cov.q .ro (.assign rfl) rfl ?_
  refine Cov.region_end ?_
  refine Cov.seq ?_
  refine Cov.seq ?_
  refine Cov.draw (.q 0 (.q 1 (.q 2 (.q 3 (.q 4 (.q 5 (.q 6 (.q 7 (.q 8 (.q 9 .nil)))))))))) _ [_] (by kernel_rfl) (by kernel_rfl) (fun _ h => h) (pick_mem [0] rfl) ?_
  refine Cov.dq (.move rfl) rfl ?_
  refine Cov.dq (.nilCheck rfl rfl) rfl ?_
  refine Cov.dq (.fieldAddr 1 rfl fl49_1 ty3.sz rfl) rfl ?_
  refine Cov.dq (.load_own 0 rfl rfl ty3 rfl) rfl ?_
  refine Cov.dq (.move rfl) rfl ?_
  refine Cov.dq (.nilCheck rfl rfl) rfl ?_
  refine Cov.dq (.fieldAddr 0 rfl fl49_0 ty22.sz rfl) rfl ?_
  refine Cov.dq (.load_own 0 rfl rfl ty22 rfl) rfl ?_
  refine Cov.dq (.len_sl rfl hd.rd.mlen sl22) rfl ?_
  refine Cov.dq (.geq rfl rfl) rfl ?_
  refine Cov.draw_end ?_
  refine Cov.cond_dec rfl (fun h1 => ?_) (fun h1 => ?_)
  · refine Cov.seq ?_
    refine Cov.region rfl ?_
    refine Cov.q .ro (.assign rfl) rfl ?_
    refine Cov.region_end ?_
    refine Cov.retl (c := ⟨13, none⟩) 0 (.inr ⟨_, rfl⟩) [.tmp 4] [_] rfl Try.func13 Try.results13 ⟨RV.tmp rfl, trivial⟩ (fun _ h => h) rfl ?_
    have hk : ((k : Int) + 1 - 1).toNat = k := by omega
    simp only [retVal, pk, nx]
    try simp only [hk]
    split <;> first | (exfalso; omega) | exact ⟨rfl, rfl⟩
  · refine Cov.skip ?_
    refine Cov.seq ?_
    refine Cov.region rfl ?_
    refine Cov.q .ro (.move rfl) rfl ?_
    refine Cov.q .ro (.nilCheck rfl rfl) rfl ?_
    refine Cov.q .ro (.fieldAddr 1 rfl fl49_1 ty3.sz rfl) rfl ?_
    refine Cov.q .ro (.load_own 0 rfl rfl ty3 rfl) rfl ?_
    refine Cov.q .ro (.add rfl rfl (by have := hd.len; omega)) rfl ?_
    refine Cov.q .ro (.nilCheck rfl rfl) rfl ?_
    refine Cov.q .ro (.fieldAddr 1 rfl fl49_1 ty3.sz rfl) rfl ?_
    refine Cov.store 0 [_, _] [_] .ro rfl rfl rfl ty3 rfl rfl rfl rfl ?_
    refine Cov.region_end ?_
    refine Cov.prune [(0, _), (1, _), (4, _)] ⟨rfl, rfl, rfl, trivial⟩ ?_
    refine Cov.seq ?_
    refine Cov.draw (.q 0 (.q 1 (.q 2 (.q 3 (.q 4 (.q 5 (.q 6 (.q 7 (.q 8 (.q 9 (.q 10 (.q 11 (.q 12 (.q 13 (.q 14 .nil))))))))))))))) _ [_] (by kernel_rfl) (by kernel_rfl) (fun _ h => h) (pick_mem [0] rfl) ?_
    refine Cov.dq (.move rfl) rfl ?_
    refine Cov.dq (.nilCheck rfl rfl) rfl ?_
    refine Cov.dq (.fieldAddr 0 rfl fl49_0 ty22.sz rfl) rfl ?_
    refine Cov.dq (.load_own 0 rfl rfl ty22 rfl) rfl ?_
    refine Cov.dq (.move rfl) rfl ?_
    refine Cov.dq (.nilCheck rfl rfl) rfl ?_
    refine Cov.dq (.fieldAddr 1 rfl fl49_1 ty3.sz rfl) rfl ?_
    refine Cov.dq (.load_own 0 rfl rfl ty3 rfl) rfl ?_
    refine Cov.dq (.sub rfl rfl (by have := hd.len; omega)) rfl ?_
    refine Cov.dq (.indexAddr_m hd.rd rfl rfl sl22 ty5.sz (by omega) (by omega)) rfl ?_
    refine Cov.dq (.load_rp (Sl.mptr hd.rd 0 (by omega) (by omega)) hG rfl ty5 rfl) rfl ?_
    refine Cov.dq (.conv Try.underlying5 Try.underlying3 rfl (IntWalk.i64_in _ (by have := u8_get hd.rng ((k : Int) + 1 - 1).toNat; omega))) rfl ?_
    refine Cov.dq (.move rfl) rfl ?_
    refine Cov.dq (.rem rfl rfl (by have := u8_get hd.rng ((k : Int) + 1 - 1).toNat; omega)) rfl ?_
    refine Cov.dq (.assign rfl) rfl ?_
    refine Cov.draw_end ?_
    refine Cov.prune [(4, _)] ⟨rfl, trivial⟩ ?_
    refine Cov.retl (c := ⟨13, none⟩) 0 (.inr ⟨_, rfl⟩) [.tmp 4] [_] rfl Try.func13 Try.results13 ⟨RV.tmp rfl, trivial⟩ (fun _ h => h) rfl ?_
    have hk : ((k : Int) + 1 - 1).toNat = k := by omega
    simp only [retVal, pk, nx]
    try simp only [hk]
    split <;> first | (exfalso; omega) | exact ⟨rfl, rfl⟩

/-- What Scheme makes: (kind, servers, degree, group), and how many seeds have been used then. -/
def dsch (l : List Int) (k : Nat) : (Int × Int × Int × Int) × Nat :=
  let n := 3 + pk l k 4; let k1 := nx l k; let c := pk l k1 3; let k2 := nx l k1
  if c = 0 then ((1, n, 0, 0), k2)
  else if c = 1 then ((2, n, 1 + pk l k2 2, 0), nx l k2)
  else if n < 4 then ((3, n, 1 + pk l k2 2, 1), nx l k2)
  else let k3 := nx l k2
    if pk l k2 2 = 0 then ((3, n, 1 + pk l k3 2, 1), nx l k3) else ((3, n, 1, 2), k3)
theorem dsch_ok (l : List Int) (k : Nat) : ShapeP (dsch l k).1.1 (dsch l k).1.2.1 (dsch l k).1.2.2.1 (dsch l k).1.2.2.2 := by
  have h1 := pk_rng l k (m := 4) (by omega)
  have h2 := pk_rng l (nx l (nx l k)) (m := 2) (by omega)
  have h3 := pk_rng l (nx l (nx l (nx l k))) (m := 2) (by omega)
  generalize hr : dsch l k = r
  unfold dsch at hr
  simp only at hr
  split at hr
  · subst hr; exact (by unfold ShapeP; omega : ShapeP 1 (3 + pk l k 4) 0 0)
  · split at hr
    · subst hr; exact (by unfold ShapeP; omega : ShapeP 2 (3 + pk l k 4) (1 + pk l (nx l (nx l k)) 2) 0)
    · split at hr
      · subst hr; exact (by unfold ShapeP; omega : ShapeP 3 (3 + pk l k 4) (1 + pk l (nx l (nx l k)) 2) 1)
      · split at hr
        · subst hr; exact (by unfold ShapeP; omega : ShapeP 3 (3 + pk l k 4) (1 + pk l (nx l (nx l (nx l k))) 2) 1)
        · subst hr; exact (by unfold ShapeP; omega : ShapeP 3 (3 + pk l k 4) 1 2)

theorem dsch_c {Fs : List Hp} {G : Hp} {b : Nat} {sa : Option Addr} {sn sc : Nat} {l : List Int} {k : Nat} (hG : G ∈ Fs) (hd : DiceR G (.slice sa sn sc) l) : RetL Try.prog 9 #[.pointer (some ⟨b, 0, none⟩)] Fs (b, .cells #[.slice sa sn sc, .int .i64 k] 49 (0, 0)) (fun r o' => r = .agg #[.int .i64 (dsch l k).1.1, .int .i64 (dsch l k).1.2.1, .int .i64 (dsch l k).1.2.2.1, .int .i64 (dsch l k).1.2.2.2] ∧ o' = .cells #[.slice sa sn sc, .int .i64 ((dsch l k).2 : Nat)] 49 (0, 0)) := by
  refine Ret.of (vs := [_]) Try.func9 rfl Try.ntmps9 [(0, _)] ⟨rfl, trivial⟩ rfl fun w0 => ?_
  refine Cov.seq ?_
  refine Cov.region rfl ?_
  refine Cov.alloc .ro ty25 rfl (fun b1 hb1 => ?_)
  refine Cov.region_end ?_
  refine Cov.seq ?_
  refine Cov.region rfl ?_
  refine Cov.q .ro (.move rfl) rfl ?_
  refine Cov.calll 1 [_, _] [] .ro rfl rfl Try.call13 rfl (dpick_c hG hd (by omega)) rfl (fun v2 ov2 hv2 => ?_)
  obtain ⟨rfl, rfl⟩ := hv2
  refine Cov.same (bl' := [_, _]) rfl rfl rfl ?_
  refine Cov.q .ro (.add rfl rfl (by have h1 := pk_rng l k (m := 4) (by omega); have h2 := pk_rng l (nx l (nx l k)) (m := 2) (by omega); have h3 := pk_rng l (nx l (nx l (nx l k))) (m := 2) (by omega); omega)) rfl ?_
  refine Cov.q .ro (.assign rfl) rfl ?_
  refine Cov.region_end ?_
  refine Cov.seq ?_
  refine Cov.seq ?_
  refine Cov.region rfl ?_
  refine Cov.q .ro (.move rfl) rfl ?_
  refine Cov.calll 1 [_, _] [] .ro rfl rfl Try.call13 rfl (dpick_c hG hd (by omega)) rfl (fun v3 ov3 hv3 => ?_)
  obtain ⟨rfl, rfl⟩ := hv3
  refine Cov.same (bl' := [_, _]) rfl rfl rfl ?_
  refine Cov.region_end ?_
  refine Cov.block ?_
  refine Cov.seq ?_
  refine Cov.region rfl ?_
  refine Cov.q .ro (.eql rfl rfl) rfl ?_
  refine Cov.q .ro (.assign rfl) rfl ?_
  refine Cov.region_end ?_
  refine Cov.cond_dec rfl (fun h4 => ?_) (fun h4 => ?_)
  · refine Cov.seq ?_
    refine Cov.region rfl ?_
    refine Cov.q .ro (.move rfl) rfl ?_
    refine Cov.q .ro (.build [_, _, _, _] [(0, _), (1, _)] ty25 pl25 rfl rfl) rfl ?_
    refine Cov.store 0 [_, _, _, _] [_, _] .ro rfl rfl rfl ty25 rfl rfl rfl rfl ?_
    refine Cov.region_end ?_
    refine Cov.retl (c := ⟨9, none⟩) 1 (.inr ⟨_, rfl⟩) [.cell 2 25] [_] rfl Try.func9 Try.results9 ⟨RV.cell_a 0 [_, _, _, _] rfl rfl ty25 rfl, trivial⟩ (fun _ h => h) rfl ?_
    simp [retVal, dsch, *]
  · refine Cov.seq ?_
    refine Cov.region rfl ?_
    refine Cov.q .ro (.eql rfl rfl) rfl ?_
    refine Cov.q .ro (.assign rfl) rfl ?_
    refine Cov.region_end ?_
    refine Cov.cond_dec rfl (fun h5 => ?_) (fun h5 => ?_)
    · refine Cov.seq ?_
      refine Cov.region rfl ?_
      refine Cov.q .ro (.move rfl) rfl ?_
      refine Cov.q .ro (.move rfl) rfl ?_
      refine Cov.calll 1 [_, _] [] .ro rfl rfl Try.call13 rfl (dpick_c hG hd (by omega)) rfl (fun v6 ov6 hv6 => ?_)
      obtain ⟨rfl, rfl⟩ := hv6
      refine Cov.same (bl' := [_, _]) rfl rfl rfl ?_
      refine Cov.q .ro (.add rfl rfl (by have h1 := pk_rng l k (m := 4) (by omega); have h2 := pk_rng l (nx l (nx l k)) (m := 2) (by omega); have h3 := pk_rng l (nx l (nx l (nx l k))) (m := 2) (by omega); omega)) rfl ?_
      refine Cov.q .ro (.build [_, _, _, _] [(0, _), (1, _), (2, _)] ty25 pl25 rfl rfl) rfl ?_
      refine Cov.store 0 [_, _, _, _] [_, _] .ro rfl rfl rfl ty25 rfl rfl rfl rfl ?_
      refine Cov.region_end ?_
      refine Cov.prune [(0, _), (2, _), (3, _)] ⟨rfl, rfl, rfl, trivial⟩ ?_
      refine Cov.retl (c := ⟨9, none⟩) 1 (.inr ⟨_, rfl⟩) [.cell 2 25] [_] rfl Try.func9 Try.results9 ⟨RV.cell_a 0 [_, _, _, _] rfl rfl ty25 rfl, trivial⟩ (fun _ h => h) rfl ?_
      simp [retVal, dsch, *]
    · refine Cov.skip ?_
      refine Cov.inBlock ?_
      refine Cov.seq ?_
      refine Cov.seq ?_
      refine Cov.region rfl ?_
      refine Cov.q .ro (.move rfl) rfl ?_
      refine Cov.q .ro (.lss rfl rfl) rfl ?_
      refine Cov.q .ro (.move rfl) rfl ?_
      refine Cov.split 22 rfl (fun h7 => ?_) (fun h7 => ?_)
      · refine Cov.g_off rfl rfl rfl ?_
        refine Cov.g_off rfl rfl rfl ?_
        refine Cov.g_off rfl rfl rfl ?_
        refine Cov.q .ro (.pick_t rfl rfl) rfl ?_
        refine Cov.region_end ?_
        refine Cov.prune [(0, _), (2, _), (3, _), (26, _)] ⟨rfl, rfl, rfl, rfl, trivial⟩ ?_
        refine Cov.cond_true rfl ?_
        refine Cov.seq ?_
        refine Cov.region rfl ?_
        refine Cov.q .ro (.move rfl) rfl ?_
        refine Cov.q .ro (.move rfl) rfl ?_
        refine Cov.calll 1 [_, _] [] .ro rfl rfl Try.call13 rfl (dpick_c hG hd (by omega)) rfl (fun v8 ov8 hv8 => ?_)
        obtain ⟨rfl, rfl⟩ := hv8
        refine Cov.same (bl' := [_, _]) rfl rfl rfl ?_
        refine Cov.q .ro (.add rfl rfl (by have h1 := pk_rng l k (m := 4) (by omega); have h2 := pk_rng l (nx l (nx l k)) (m := 2) (by omega); have h3 := pk_rng l (nx l (nx l (nx l k))) (m := 2) (by omega); omega)) rfl ?_
        refine Cov.q .ro (.build [_, _, _, _] [(0, _), (1, _), (2, _), (3, _)] ty25 pl25 rfl rfl) rfl ?_
        refine Cov.store 0 [_, _, _, _] [_, _] .ro rfl rfl rfl ty25 rfl rfl rfl rfl ?_
        refine Cov.region_end ?_
        refine Cov.retl (c := ⟨9, none⟩) 1 (.inr ⟨_, rfl⟩) [.cell 2 25] [_] rfl Try.func9 Try.results9 ⟨RV.cell_a 0 [_, _, _, _] rfl rfl ty25 rfl, trivial⟩ (fun _ h => h) rfl ?_
        simp [retVal, dsch, *]
      · refine Cov.g_on rfl ?_
        refine Cov.q .ro (.move rfl) rfl ?_
        refine Cov.g_on rfl ?_
        refine Cov.calll 1 [_, _] [] .ro rfl rfl Try.call13 rfl (dpick_c hG hd (by omega)) rfl (fun v9 ov9 hv9 => ?_)
        obtain ⟨rfl, rfl⟩ := hv9
        refine Cov.same (bl' := [_, _]) rfl rfl rfl ?_
        refine Cov.g_on rfl ?_
        refine Cov.q .ro (.eql rfl rfl) rfl ?_
        refine Cov.q .ro (.pick_f rfl rfl) rfl ?_
        refine Cov.region_end ?_
        refine Cov.prune [(0, _), (2, _), (3, _), (26, _)] ⟨rfl, rfl, rfl, rfl, trivial⟩ ?_
        refine Cov.cond_dec rfl (fun h10 => ?_) (fun h10 => ?_)
        · refine Cov.seq ?_
          refine Cov.region rfl ?_
          refine Cov.q .ro (.move rfl) rfl ?_
          refine Cov.q .ro (.move rfl) rfl ?_
          refine Cov.calll 1 [_, _] [] .ro rfl rfl Try.call13 rfl (dpick_c hG hd (by omega)) rfl (fun v11 ov11 hv11 => ?_)
          obtain ⟨rfl, rfl⟩ := hv11
          refine Cov.same (bl' := [_, _]) rfl rfl rfl ?_
          refine Cov.q .ro (.add rfl rfl (by have h1 := pk_rng l k (m := 4) (by omega); have h2 := pk_rng l (nx l (nx l k)) (m := 2) (by omega); have h3 := pk_rng l (nx l (nx l (nx l k))) (m := 2) (by omega); omega)) rfl ?_
          refine Cov.q .ro (.build [_, _, _, _] [(0, _), (1, _), (2, _), (3, _)] ty25 pl25 rfl rfl) rfl ?_
          refine Cov.store 0 [_, _, _, _] [_, _] .ro rfl rfl rfl ty25 rfl rfl rfl rfl ?_
          refine Cov.region_end ?_
          refine Cov.retl (c := ⟨9, none⟩) 1 (.inr ⟨_, rfl⟩) [.cell 2 25] [_] rfl Try.func9 Try.results9 ⟨RV.cell_a 0 [_, _, _, _] rfl rfl ty25 rfl, trivial⟩ (fun _ h => h) rfl ?_
          simp [retVal, dsch, *]
        · refine Cov.skip ?_
          refine Cov.seq ?_
          refine Cov.region rfl ?_
          refine Cov.q .ro (.move rfl) rfl ?_
          refine Cov.q .ro (.build [_, _, _, _] [(0, _), (1, _), (2, _), (3, _)] ty25 pl25 rfl rfl) rfl ?_
          refine Cov.store 0 [_, _, _, _] [_, _] .ro rfl rfl rfl ty25 rfl rfl rfl rfl ?_
          refine Cov.region_end ?_
          refine Cov.retl (c := ⟨9, none⟩) 1 (.inr ⟨_, rfl⟩) [.cell 2 25] [_] rfl Try.func9 Try.results9 ⟨RV.cell_a 0 [_, _, _, _] rfl rfl ty25 rfl, trivial⟩ (fun _ h => h) rfl ?_
          simp [retVal, dsch, *]

/-- What Odd makes. -/
def dodd (l : List Int) (k : Nat) : (Int × Int × Int × Int) × Nat :=
  let s := (dsch l k).1; let k1 := (dsch l k).2; let c := pk l k1 6; let k2 := nx l k1
  if c = 0 then ((pk l k2 6, s.2.1, s.2.2.1, s.2.2.2), nx l k2)
  else if c = 1 then ((s.1, [0, 1, 2, 10, 11, -1].getD (pk l k2 6).toNat 0, s.2.2.1, s.2.2.2), nx l k2)
  else if c = 2 then ((s.1, s.2.1, [0, -1, s.2.1 - 1, s.2.1].getD (pk l k2 4).toNat 0, s.2.2.2), nx l k2)
  else if c = 3 then ((s.1, s.2.1, s.2.2.1, [0, 1, 3, -1].getD (pk l k2 4).toNat 0), nx l k2)
  else (s, k2)

theorem dodd_c {Fs : List Hp} {G : Hp} {b : Nat} {sa : Option Addr} {sn sc : Nat} {l : List Int} {k : Nat} (hG : G ∈ Fs) (hd : DiceR G (.slice sa sn sc) l) : RetL Try.prog 12 #[.pointer (some ⟨b, 0, none⟩)] Fs (b, .cells #[.slice sa sn sc, .int .i64 k] 49 (0, 0)) (fun r o' => r = .agg #[.int .i64 (dodd l k).1.1, .int .i64 (dodd l k).1.2.1, .int .i64 (dodd l k).1.2.2.1, .int .i64 (dodd l k).1.2.2.2] ∧ o' = .cells #[.slice sa sn sc, .int .i64 ((dodd l k).2 : Nat)] 49 (0, 0)) := by
  refine Ret.of (vs := [_]) Try.func12 rfl Try.ntmps12 [(0, _)] ⟨rfl, trivial⟩ rfl fun w0 => ?_
  refine Cov.seq ?_
  refine Cov.region rfl ?_
  refine Cov.alloc .ro ty25 rfl (fun b1 hb1 => ?_)
  refine Cov.region_end ?_
  refine Cov.seq ?_
  refine Cov.region rfl ?_
  refine Cov.q .ro (.move rfl) rfl ?_
  refine Cov.calll 1 [_] [] .ro rfl rfl Try.call9 rfl (dsch_c hG hd) rfl (fun v2 ov2 hv2 => ?_)
  obtain ⟨rfl, rfl⟩ := hv2
  refine Cov.same (bl' := [_, _]) rfl rfl rfl ?_
  refine Cov.alloc .ro ty25 rfl (fun b3 hb3 => ?_)
  refine Cov.store 0 [_, _, _, _] [_, _, _] .ro rfl rfl rfl ty25 rfl rfl rfl rfl ?_
  refine Cov.region_end ?_
  refine Cov.seq ?_
  refine Cov.seq ?_
  refine Cov.region rfl ?_
  refine Cov.q .ro (.move rfl) rfl ?_
  refine Cov.calll 2 [_, _] [] .ro rfl rfl Try.call13 rfl (dpick_c hG hd (by omega)) rfl (fun v4 ov4 hv4 => ?_)
  obtain ⟨rfl, rfl⟩ := hv4
  refine Cov.same (bl' := [_, _, _]) rfl rfl rfl ?_
  refine Cov.region_end ?_
  refine Cov.block ?_
  refine Cov.seq ?_
  refine Cov.region rfl ?_
  refine Cov.q .ro (.eql rfl rfl) rfl ?_
  refine Cov.q .ro (.assign rfl) rfl ?_
  refine Cov.region_end ?_
  refine Cov.cond_dec rfl (fun h5 => ?_) (fun h5 => ?_)
  · refine Cov.region rfl ?_
    refine Cov.q .ro (.move rfl) rfl ?_
    refine Cov.calll 2 [_, _] [] .ro rfl rfl Try.call13 rfl (dpick_c hG hd (by omega)) rfl (fun v6 ov6 hv6 => ?_)
    obtain ⟨rfl, rfl⟩ := hv6
    refine Cov.same (bl' := [_, _, _]) rfl rfl rfl ?_
    refine Cov.q .ro (.fieldAddr 0 rfl fl25_0 ty3.sz rfl) rfl ?_
    refine Cov.store 0 [_, _, _, _] [_, _, _] .ro rfl rfl rfl ty3 rfl rfl rfl rfl ?_
    refine Cov.region_end ?_
    refine Cov.inBlock ?_
    refine Cov.seq ?_
    refine Cov.region rfl ?_
    refine Cov.q .ro (.load_own_a 0 [_, _, _, _] rfl rfl ty25 rfl) rfl ?_
    refine Cov.store 1 [_, _, _, _] [_, _, _] .ro rfl rfl rfl ty25 rfl rfl rfl rfl ?_
    refine Cov.region_end ?_
    refine Cov.retl (c := ⟨12, none⟩) 2 (.inr ⟨_, rfl⟩) [.cell 2 25] [_] rfl Try.func12 Try.results12 ⟨RV.cell_a 1 [_, _, _, _] rfl rfl ty25 rfl, trivial⟩ (fun _ h => h) rfl ?_
    simp [retVal, dodd, *]
  · refine Cov.seq ?_
    refine Cov.region rfl ?_
    refine Cov.q .ro (.eql rfl rfl) rfl ?_
    refine Cov.q .ro (.assign rfl) rfl ?_
    refine Cov.region_end ?_
    refine Cov.cond_dec rfl (fun h7 => ?_) (fun h7 => ?_)
    · refine Cov.region rfl ?_
      refine Cov.lit [_, _, _, _, _, _] [(0, _), (1, _), (2, _), (3, _), (4, _), (5, _)] .ro sl50 ty3 rfl rfl rfl rfl rfl rfl (fun b8 hb8 => ?_)
      refine Cov.freeze_m (α := Int) 0 [(_), (_), (_), (_), (_), (_)] (fun x : Int => [(.int .i64 x : Value)]) rfl rfl rfl (fun _ => rfl) _ rfl (by simp) (fun G9 fG9 sG9 => ?_)
      refine Cov.q .ro (.move rfl) rfl ?_
      refine Cov.calll 2 [_, _] [] .ro rfl rfl Try.call13 rfl (dpick_c (List.mem_cons_of_mem _ hG) hd (by omega)) rfl (fun v10 ov10 hv10 => ?_)
      obtain ⟨rfl, rfl⟩ := hv10
      refine Cov.same (bl' := [_, _, _]) rfl rfl rfl ?_
      have hp := pk_rng l (nx l (dsch l k).2) (m := 6) (by omega)
      refine Cov.q .ro (.indexAddr_m sG9 rfl rfl sl50 ty3.sz (by omega) (by change _ < ((6 : Nat) : Int); omega)) rfl ?_
      refine Cov.q .ro (.load_rp (Sl.mptr sG9 (0) (by omega) (by change _ < ((6 : Nat) : Int); omega)) List.mem_cons_self rfl ty3 rfl) rfl ?_
      refine Cov.q .ro (.fieldAddr 1 rfl fl25_1 ty3.sz rfl) rfl ?_
      refine Cov.store 0 [_, _, _, _] [_, _, _] .ro rfl rfl rfl ty3 rfl rfl rfl rfl ?_
      refine Cov.region_end ?_
      refine Cov.prune [(2, _), (3, _)] ⟨rfl, rfl, trivial⟩ ?_
      refine Cov.inBlock ?_
      refine Cov.seq ?_
      refine Cov.region rfl ?_
      refine Cov.q .ro (.load_own_a 0 [_, _, _, _] rfl rfl ty25 rfl) rfl ?_
      refine Cov.store 1 [_, _, _, _] [_, _, _] .ro rfl rfl rfl ty25 rfl rfl rfl rfl ?_
      refine Cov.region_end ?_
      refine Cov.retl (c := ⟨12, none⟩) 2 (.inr ⟨_, rfl⟩) [.cell 2 25] [_] rfl Try.func12 Try.results12 ⟨RV.cell_a 1 [_, _, _, _] rfl rfl ty25 rfl, trivial⟩ (fun _ h => List.mem_cons_of_mem _ (h)) rfl ?_
      simp [retVal, dodd, *]
    · refine Cov.seq ?_
      refine Cov.region rfl ?_
      refine Cov.q .ro (.eql rfl rfl) rfl ?_
      refine Cov.q .ro (.assign rfl) rfl ?_
      refine Cov.region_end ?_
      refine Cov.cond_dec rfl (fun h11 => ?_) (fun h11 => ?_)
      · refine Cov.draw (.q 0 (.q 1 (.q 2 (.q 3 (.q 4 (.q 6 (.alt (.e 5 1 (.e 7 1 (.q 8 (.e 9 1 (.q 10 (.e 11 2 .nil)))))) (.e 7 1 (.e 5 1 (.q 8 (.e 9 1 (.q 10 (.e 11 2 .nil))))))))))))) _ [_, _] (by kernel_rfl) (by kernel_rfl) (fun _ h => h) (pick_mem [0, 1] rfl) ?_
        refine Cov.dq (.fieldAddr 1 rfl fl25_1 ty3.sz rfl) rfl ?_
        refine Cov.dq (.load_own 0 rfl rfl ty3 rfl) rfl ?_
        refine Cov.dq (.sub rfl rfl (by have hs := dsch_ok l k; unfold ShapeP at hs; omega)) rfl ?_
        refine Cov.dq (.fieldAddr 1 rfl fl25_1 ty3.sz rfl) rfl ?_
        refine Cov.dq (.load_own 0 rfl rfl ty3 rfl) rfl ?_
        refine Cov.dq (.move rfl) rfl ?_
        refine Cov.alt ?_ ?_
        · refine Cov.lit [_, _, _, _] [(0, _), (1, _), (2, _), (3, _)] .d1 sl50 ty3 rfl rfl rfl rfl rfl rfl (fun b12 hb12 => ?_)
          refine Cov.freeze_m (α := Int) 0 [(_), (_), (_), (_)] (fun x : Int => [(.int .i64 x : Value)]) rfl rfl rfl (fun _ => rfl) _ rfl (by simp) (fun G13 fG13 sG13 => ?_)
          refine Cov.cls (fun _ h => List.mem_cons_of_mem _ (h)) (pick_mem [0, 1] rfl) ?_
          refine Cov.calll 2 [_, _] [] .d1 rfl rfl Try.call13 rfl (dpick_c (List.mem_cons_of_mem _ hG) hd (by omega)) rfl (fun v14 ov14 hv14 => ?_)
          obtain ⟨rfl, rfl⟩ := hv14
          refine Cov.same (bl' := [_, _, _]) rfl rfl rfl ?_
          refine Cov.cls (fun _ h => List.mem_cons_of_mem _ (h)) (pick_mem [0, 1] rfl) ?_
          have hp := pk_rng l (nx l (dsch l k).2) (m := 4) (by omega)
          refine Cov.dq (.indexAddr_m sG13 rfl rfl sl50 ty3.sz (by omega) (by change _ < ((4 : Nat) : Int); omega)) rfl ?_
          refine Cov.q .d1 (.load_rp (Sl.mptr sG13 (0) (by omega) (by change _ < ((4 : Nat) : Int); omega)) List.mem_cons_self rfl ty3 rfl) rfl ?_
          refine Cov.cls (fun _ h => List.mem_cons_of_mem _ (h)) (pick_mem [0, 1] rfl) ?_
          refine Cov.dq (.fieldAddr 2 rfl fl25_2 ty3.sz rfl) rfl ?_
          refine Cov.store 0 [_, _, _, _] [_, _, _] .d2 rfl rfl rfl ty3 rfl rfl rfl rfl ?_
          refine Cov.draw_end ?_
          refine Cov.prune [(2, _), (3, _)] ⟨rfl, rfl, trivial⟩ ?_
          refine Cov.inBlock ?_
          refine Cov.seq ?_
          refine Cov.region rfl ?_
          refine Cov.q .ro (.load_own_a 0 [_, _, _, _] rfl rfl ty25 rfl) rfl ?_
          refine Cov.store 1 [_, _, _, _] [_, _, _] .ro rfl rfl rfl ty25 rfl rfl rfl rfl ?_
          refine Cov.region_end ?_
          refine Cov.retl (c := ⟨12, none⟩) 2 (.inr ⟨_, rfl⟩) [.cell 2 25] [_] rfl Try.func12 Try.results12 ⟨RV.cell_a 1 [_, _, _, _] rfl rfl ty25 rfl, trivial⟩ (fun _ h => List.mem_cons_of_mem _ (h)) rfl ?_
          simp [retVal, dodd, *]
        · refine Cov.calll 2 [_, _] [] .d1 rfl rfl Try.call13 rfl (dpick_c hG hd (by omega)) rfl (fun v15 ov15 hv15 => ?_)
          obtain ⟨rfl, rfl⟩ := hv15
          refine Cov.same (bl' := [_, _, _]) rfl rfl rfl ?_
          refine Cov.cls (fun _ h => h) (pick_mem [0, 1] rfl) ?_
          refine Cov.lit [_, _, _, _] [(0, _), (1, _), (2, _), (3, _)] .d1 sl50 ty3 rfl rfl rfl rfl rfl rfl (fun b16 hb16 => ?_)
          refine Cov.freeze_m (α := Int) 0 [(_), (_), (_), (_)] (fun x : Int => [(.int .i64 x : Value)]) rfl rfl rfl (fun _ => rfl) _ rfl (by simp) (fun G17 fG17 sG17 => ?_)
          refine Cov.cls (fun _ h => List.mem_cons_of_mem _ (h)) (pick_mem [0, 1] rfl) ?_
          have hp := pk_rng l (nx l (dsch l k).2) (m := 4) (by omega)
          refine Cov.dq (.indexAddr_m sG17 rfl rfl sl50 ty3.sz (by omega) (by change _ < ((4 : Nat) : Int); omega)) rfl ?_
          refine Cov.q .d1 (.load_rp (Sl.mptr sG17 (0) (by omega) (by change _ < ((4 : Nat) : Int); omega)) List.mem_cons_self rfl ty3 rfl) rfl ?_
          refine Cov.cls (fun _ h => List.mem_cons_of_mem _ (h)) (pick_mem [0, 1] rfl) ?_
          refine Cov.dq (.fieldAddr 2 rfl fl25_2 ty3.sz rfl) rfl ?_
          refine Cov.store 0 [_, _, _, _] [_, _, _] .d2 rfl rfl rfl ty3 rfl rfl rfl rfl ?_
          refine Cov.draw_end ?_
          refine Cov.prune [(2, _), (3, _)] ⟨rfl, rfl, trivial⟩ ?_
          refine Cov.inBlock ?_
          refine Cov.seq ?_
          refine Cov.region rfl ?_
          refine Cov.q .ro (.load_own_a 0 [_, _, _, _] rfl rfl ty25 rfl) rfl ?_
          refine Cov.store 1 [_, _, _, _] [_, _, _] .ro rfl rfl rfl ty25 rfl rfl rfl rfl ?_
          refine Cov.region_end ?_
          refine Cov.retl (c := ⟨12, none⟩) 2 (.inr ⟨_, rfl⟩) [.cell 2 25] [_] rfl Try.func12 Try.results12 ⟨RV.cell_a 1 [_, _, _, _] rfl rfl ty25 rfl, trivial⟩ (fun _ h => List.mem_cons_of_mem _ (h)) rfl ?_
          simp [retVal, dodd, *]
      · refine Cov.seq ?_
        refine Cov.region rfl ?_
        refine Cov.q .ro (.eql rfl rfl) rfl ?_
        refine Cov.q .ro (.assign rfl) rfl ?_
        refine Cov.region_end ?_
        refine Cov.cond_dec rfl (fun h18 => ?_) (fun h18 => ?_)
        · refine Cov.region rfl ?_
          refine Cov.lit [_, _, _, _] [(0, _), (1, _), (2, _), (3, _)] .ro sl50 ty3 rfl rfl rfl rfl rfl rfl (fun b19 hb19 => ?_)
          refine Cov.freeze_m (α := Int) 0 [(_), (_), (_), (_)] (fun x : Int => [(.int .i64 x : Value)]) rfl rfl rfl (fun _ => rfl) _ rfl (by simp) (fun G20 fG20 sG20 => ?_)
          refine Cov.q .ro (.move rfl) rfl ?_
          refine Cov.calll 2 [_, _] [] .ro rfl rfl Try.call13 rfl (dpick_c (List.mem_cons_of_mem _ hG) hd (by omega)) rfl (fun v21 ov21 hv21 => ?_)
          obtain ⟨rfl, rfl⟩ := hv21
          refine Cov.same (bl' := [_, _, _]) rfl rfl rfl ?_
          have hp := pk_rng l (nx l (dsch l k).2) (m := 4) (by omega)
          refine Cov.q .ro (.indexAddr_m sG20 rfl rfl sl50 ty3.sz (by omega) (by change _ < ((4 : Nat) : Int); omega)) rfl ?_
          refine Cov.q .ro (.load_rp (Sl.mptr sG20 (0) (by omega) (by change _ < ((4 : Nat) : Int); omega)) List.mem_cons_self rfl ty3 rfl) rfl ?_
          refine Cov.q .ro (.fieldAddr 3 rfl fl25_3 ty3.sz rfl) rfl ?_
          refine Cov.store 0 [_, _, _, _] [_, _, _] .ro rfl rfl rfl ty3 rfl rfl rfl rfl ?_
          refine Cov.region_end ?_
          refine Cov.prune [(2, _), (3, _)] ⟨rfl, rfl, trivial⟩ ?_
          refine Cov.inBlock ?_
          refine Cov.seq ?_
          refine Cov.region rfl ?_
          refine Cov.q .ro (.load_own_a 0 [_, _, _, _] rfl rfl ty25 rfl) rfl ?_
          refine Cov.store 1 [_, _, _, _] [_, _, _] .ro rfl rfl rfl ty25 rfl rfl rfl rfl ?_
          refine Cov.region_end ?_
          refine Cov.retl (c := ⟨12, none⟩) 2 (.inr ⟨_, rfl⟩) [.cell 2 25] [_] rfl Try.func12 Try.results12 ⟨RV.cell_a 1 [_, _, _, _] rfl rfl ty25 rfl, trivial⟩ (fun _ h => List.mem_cons_of_mem _ (h)) rfl ?_
          simp [retVal, dodd, *]
        · refine Cov.skip ?_
          refine Cov.inBlock ?_
          refine Cov.seq ?_
          refine Cov.region rfl ?_
          refine Cov.q .ro (.load_own_a 0 [_, _, _, _] rfl rfl ty25 rfl) rfl ?_
          refine Cov.store 1 [_, _, _, _] [_, _, _] .ro rfl rfl rfl ty25 rfl rfl rfl rfl ?_
          refine Cov.region_end ?_
          refine Cov.prune [(2, _)] ⟨rfl, trivial⟩ ?_
          refine Cov.retl (c := ⟨12, none⟩) 2 (.inr ⟨_, rfl⟩) [.cell 2 25] [_] rfl Try.func12 Try.results12 ⟨RV.cell_a 1 [_, _, _, _] rfl rfl ty25 rfl, trivial⟩ (fun _ h => h) rfl ?_
          simp [retVal, dodd, *]

theorem mulb {a b A B : Int} (ha : 0 ≤ a ∧ a ≤ A) (hb : 0 ≤ b ∧ b ≤ B) : 0 ≤ a * b ∧ a * b ≤ A * B :=
  ⟨Int.mul_nonneg ha.1 hb.1, Int.mul_le_mul ha.2 hb.2 hb.1 (by omega)⟩
theorem units_rng {k s d g n : Int} (hS : ShapeP k s d g) (hn : 1 ≤ n ∧ n ≤ 1024) : 1 ≤ unitsI k s d g n ∧ unitsI k s d g n ≤ 1024 := by
  unfold unitsI
  rw [if_pos ⟨hS, hn⟩]
  split
  · rename_i hk
    have hg : 1 ≤ g ∧ g ≤ 10 := by unfold ShapeP at hS; omega
    constructor
    · exact Int.le_ediv_of_mul_le (by omega) (by omega)
    · have : (n + g - 1) / g ≤ (n * g) / g := Int.ediv_le_ediv (by omega) (by
        have h1 : (n - 1) * (g - 1) ≥ 0 := Int.mul_nonneg (by omega) (by omega)
        have h2 : (n - 1) * (g - 1) = n * g - n - g + 1 := by rw [Int.sub_mul, Int.mul_sub, Int.mul_sub]; omega
        omega)
      rw [Int.mul_ediv_cancel n (by omega)] at this
      omega
  · exact hn
/-- The cost of some probes, or an error. -/
def costOf (k s d g n w p : Int) : (Int × Int × Int) × Int :=
  if ¬ ShapeP k s d g then ((0, 0, 0), 40)
  else if ¬ (1 ≤ n ∧ n ≤ 1024) then ((0, 0, 0), 1)
  else if ¬ ((1 ≤ w ∧ w ≤ 64) ∧ 1 ≤ p ∧ p ≤ 16) then ((0, 0, 0), 1)
  else ((p * s * unitsI k s d g n, p * s * w, p * s * unitsI k s d g n * w), 0)
theorem costOf_ok {k s d g n w p : Int} (hS : ShapeP k s d g) (hn : 1 ≤ n ∧ n ≤ 1024) (hw : 1 ≤ w ∧ w ≤ 64) (hp : 1 ≤ p ∧ p ≤ 16) : costOf k s d g n w p = ((p * s * unitsI k s d g n, p * s * w, p * s * unitsI k s d g n * w), 0) := by
  unfold costOf
  rw [if_neg (not_not_intro hS), if_neg (not_not_intro hn), if_neg (not_not_intro ⟨hw, hp⟩)]
/-- How many elements a query has, or an error. -/
def cunits (k s d g n : Int) : Int × Int := if ¬ ShapeP k s d g then (0, 40) else if ¬ (1 ≤ n ∧ n ≤ 1024) then (0, 1) else (unitsI k s d g n, 0)

theorem cunits_c {k s d g n : Int} {Fs : List Hp} : RetV Try.prog 14 #[.agg #[.int .i64 k, .int .i64 s, .int .i64 d, .int .i64 g], .int .i64 n] Fs (fun v => v = .tuple #[.int .i64 (cunits k s d g n).1, .int .i64 (cunits k s d g n).2]) := by
  refine Ret.of (vs := [_, _]) Try.func14 rfl Try.ntmps14 [(0, _), (1, _)] ⟨rfl, rfl, trivial⟩ rfl fun w0 => ?_
  refine Cov.seq ?_
  refine Cov.region rfl ?_
  refine Cov.box [_, _, _, _] .ro rfl rfl rfl (fun b1 hb1 => ?_)
  refine Cov.q .ro (.assign rfl) rfl ?_
  refine Cov.q .ro (.assign rfl) rfl ?_
  refine Cov.region_end ?_
  refine Cov.seq ?_
  refine Cov.block ?_
  refine Cov.seq ?_
  refine Cov.region rfl ?_
  refine Cov.q .ro (.load_own_a 0 [_, _, _, _] rfl rfl ty25 rfl) rfl ?_
  refine Cov.callv [_] [] .ro rfl rfl Try.call23 shape_c rfl (fun v2 hv2 => ?_)
  subst hv2
  refine Cov.q .ro (.not_d rfl) rfl ?_
  refine Cov.q .ro (.assign rfl) rfl ?_
  refine Cov.region_end ?_
  refine Cov.cond_dec rfl (fun h3 => ?_) (fun h3 => ?_)
  · refine Cov.seq ?_
    refine Cov.region rfl ?_
    refine Cov.q .ro (.assign rfl) rfl ?_
    refine Cov.q .ro (.assign rfl) rfl ?_
    refine Cov.region_end ?_
    refine Cov.retv (c := ⟨14, none⟩) [.tmp 4, .tmp 5] [_, _] rfl Try.func14 Try.results14 ⟨RV.tmp rfl, RV.tmp rfl, trivial⟩ (fun _ h => h) ?_
    simp only [retVal, cunits]
    split <;> (try split) <;> first | rfl | (exfalso; simp_all; done) | (exfalso; simp_all; omega)
  · refine Cov.seq ?_
    refine Cov.region rfl ?_
    refine Cov.q .ro (.move rfl) rfl ?_
    refine Cov.q .ro (.lss rfl rfl) rfl ?_
    refine Cov.q .ro (.move rfl) rfl ?_
    refine Cov.split 13 rfl (fun h4 => ?_) (fun h4 => ?_)
    · refine Cov.g_off rfl rfl rfl ?_
      refine Cov.g_off rfl rfl rfl ?_
      refine Cov.q .ro (.pick_t rfl rfl) rfl ?_
      refine Cov.q .ro (.assign rfl) rfl ?_
      refine Cov.region_end ?_
      refine Cov.cond_true rfl ?_
      refine Cov.seq ?_
      refine Cov.region rfl ?_
      refine Cov.q .ro (.assign rfl) rfl ?_
      refine Cov.q .ro (.assign rfl) rfl ?_
      refine Cov.region_end ?_
      refine Cov.retv (c := ⟨14, none⟩) [.tmp 4, .tmp 5] [_, _] rfl Try.func14 Try.results14 ⟨RV.tmp rfl, RV.tmp rfl, trivial⟩ (fun _ h => h) ?_
      simp only [retVal, cunits]
      split <;> (try split) <;> first | rfl | (exfalso; simp_all; done) | (exfalso; simp_all; omega)
    · refine Cov.g_on rfl ?_
      refine Cov.q .ro (.move rfl) rfl ?_
      refine Cov.g_on rfl ?_
      refine Cov.q .ro (.gtr rfl rfl) rfl ?_
      refine Cov.q .ro (.pick_f rfl rfl) rfl ?_
      refine Cov.q .ro (.assign rfl) rfl ?_
      refine Cov.region_end ?_
      refine Cov.cond_dec rfl (fun h5 => ?_) (fun h5 => ?_)
      · refine Cov.seq ?_
        refine Cov.region rfl ?_
        refine Cov.q .ro (.assign rfl) rfl ?_
        refine Cov.q .ro (.assign rfl) rfl ?_
        refine Cov.region_end ?_
        refine Cov.retv (c := ⟨14, none⟩) [.tmp 4, .tmp 5] [_, _] rfl Try.func14 Try.results14 ⟨RV.tmp rfl, RV.tmp rfl, trivial⟩ (fun _ h => h) ?_
        simp only [retVal, cunits]
        split <;> (try split) <;> first | rfl | (exfalso; simp_all; done) | (exfalso; simp_all; omega)
      · refine Cov.skip ?_
        refine Cov.inBlock ?_
        refine Cov.seq ?_
        refine Cov.region rfl ?_
        refine Cov.q .ro (.load_own_a 0 [_, _, _, _] rfl rfl ty25 rfl) rfl ?_
        refine Cov.q .ro (.move rfl) rfl ?_
        refine Cov.callv [_, _] [] .ro rfl rfl Try.call24 sunits_c rfl (fun v6 hv6 => ?_)
        subst hv6
        refine Cov.q .ro (.assign rfl) rfl ?_
        refine Cov.q .ro (.assign rfl) rfl ?_
        refine Cov.region_end ?_
        refine Cov.prune [(4, _), (5, _)] ⟨rfl, rfl, trivial⟩ ?_
        refine Cov.retv (c := ⟨14, none⟩) [.tmp 4, .tmp 5] [_, _] rfl Try.func14 Try.results14 ⟨RV.tmp rfl, RV.tmp rfl, trivial⟩ (fun _ h => h) ?_
        simp only [retVal, cunits]
        split <;> (try split) <;> first | rfl | (exfalso; simp_all; done) | (exfalso; simp_all; omega)

theorem rcunits_c {k s d g n : Int} {Fs : List Hp} : RetV Try.prog 15 #[.agg #[.int .i64 k, .int .i64 s, .int .i64 d, .int .i64 g], .int .i64 n] Fs (fun v => v = .tuple #[.int .i64 (cunits k s d g n).1, .int .i64 (cunits k s d g n).2]) := by
  refine Ret.of (vs := [_, _]) Try.func15 rfl Try.ntmps15 [(0, _), (1, _)] ⟨rfl, rfl, trivial⟩ rfl fun w0 => ?_
  refine Cov.seq ?_
  refine Cov.region rfl ?_
  refine Cov.box [_, _, _, _] .ro rfl rfl rfl (fun b1 hb1 => ?_)
  refine Cov.q .ro (.assign rfl) rfl ?_
  refine Cov.q .ro (.assign rfl) rfl ?_
  refine Cov.region_end ?_
  refine Cov.seq ?_
  refine Cov.seq ?_
  refine Cov.region rfl ?_
  refine Cov.q .ro (.load_own_a 0 [_, _, _, _] rfl rfl ty25 rfl) rfl ?_
  refine Cov.callv [_] [] .ro rfl rfl Try.call22 rshape_c rfl (fun v2 hv2 => ?_)
  subst hv2
  refine Cov.q .ro (.not_d rfl) rfl ?_
  refine Cov.region_end ?_
  refine Cov.cond_dec rfl (fun h3 => ?_) (fun h3 => ?_)
  · refine Cov.seq ?_
    refine Cov.region rfl ?_
    refine Cov.q .ro (.assign rfl) rfl ?_
    refine Cov.q .ro (.assign rfl) rfl ?_
    refine Cov.region_end ?_
    refine Cov.retv (c := ⟨15, none⟩) [.tmp 4, .tmp 5] [_, _] rfl Try.func15 Try.results15 ⟨RV.tmp rfl, RV.tmp rfl, trivial⟩ (fun _ h => h) ?_
    simp only [retVal, cunits]
    split <;> (try split) <;> first | rfl | (exfalso; simp_all; done) | (exfalso; simp_all; omega)
  · refine Cov.skip ?_
    refine Cov.seq ?_
    refine Cov.seq ?_
    refine Cov.region rfl ?_
    refine Cov.q .ro (.move rfl) rfl ?_
    refine Cov.q .ro (.lss rfl rfl) rfl ?_
    refine Cov.q .ro (.move rfl) rfl ?_
    refine Cov.split 11 rfl (fun h4 => ?_) (fun h4 => ?_)
    · refine Cov.g_off rfl rfl rfl ?_
      refine Cov.g_off rfl rfl rfl ?_
      refine Cov.q .ro (.pick_t rfl rfl) rfl ?_
      refine Cov.region_end ?_
      refine Cov.cond_true rfl ?_
      refine Cov.seq ?_
      refine Cov.region rfl ?_
      refine Cov.q .ro (.assign rfl) rfl ?_
      refine Cov.q .ro (.assign rfl) rfl ?_
      refine Cov.region_end ?_
      refine Cov.retv (c := ⟨15, none⟩) [.tmp 4, .tmp 5] [_, _] rfl Try.func15 Try.results15 ⟨RV.tmp rfl, RV.tmp rfl, trivial⟩ (fun _ h => h) ?_
      simp only [retVal, cunits]
      split <;> (try split) <;> first | rfl | (exfalso; simp_all; done) | (exfalso; simp_all; omega)
    · refine Cov.g_on rfl ?_
      refine Cov.q .ro (.move rfl) rfl ?_
      refine Cov.g_on rfl ?_
      refine Cov.q .ro (.gtr rfl rfl) rfl ?_
      refine Cov.q .ro (.pick_f rfl rfl) rfl ?_
      refine Cov.region_end ?_
      refine Cov.cond_dec rfl (fun h5 => ?_) (fun h5 => ?_)
      · refine Cov.seq ?_
        refine Cov.region rfl ?_
        refine Cov.q .ro (.assign rfl) rfl ?_
        refine Cov.q .ro (.assign rfl) rfl ?_
        refine Cov.region_end ?_
        refine Cov.retv (c := ⟨15, none⟩) [.tmp 4, .tmp 5] [_, _] rfl Try.func15 Try.results15 ⟨RV.tmp rfl, RV.tmp rfl, trivial⟩ (fun _ h => h) ?_
        simp only [retVal, cunits]
        split <;> (try split) <;> first | rfl | (exfalso; simp_all; done) | (exfalso; simp_all; omega)
      · refine Cov.skip ?_
        refine Cov.seq ?_
        refine Cov.region rfl ?_
        refine Cov.q .ro (.load_own_a 0 [_, _, _, _] rfl rfl ty25 rfl) rfl ?_
        refine Cov.q .ro (.move rfl) rfl ?_
        refine Cov.callv [_, _] [] .ro rfl rfl Try.call25 rsunits_c rfl (fun v6 hv6 => ?_)
        subst hv6
        refine Cov.q .ro (.assign rfl) rfl ?_
        refine Cov.q .ro (.assign rfl) rfl ?_
        refine Cov.region_end ?_
        refine Cov.prune [(4, _), (5, _)] ⟨rfl, rfl, trivial⟩ ?_
        refine Cov.retv (c := ⟨15, none⟩) [.tmp 4, .tmp 5] [_, _] rfl Try.func15 Try.results15 ⟨RV.tmp rfl, RV.tmp rfl, trivial⟩ (fun _ h => h) ?_
        simp only [retVal, cunits]
        split <;> (try split) <;> first | rfl | (exfalso; simp_all; done) | (exfalso; simp_all; omega)

theorem cof_c {k s d g n w p : Int} {Fs : List Hp} : RetV Try.prog 10 #[.agg #[.int .i64 k, .int .i64 s, .int .i64 d, .int .i64 g], .int .i64 n, .int .i64 w, .int .i64 p] Fs (fun v => v = .tuple #[.agg #[.int .i64 (costOf k s d g n w p).1.1, .int .i64 (costOf k s d g n w p).1.2.1, .int .i64 (costOf k s d g n w p).1.2.2], .int .i64 (costOf k s d g n w p).2]) := by
  refine Ret.of (vs := [_, _, _, _]) Try.func10 rfl Try.ntmps10 [(0, _), (1, _), (2, _), (3, _)] ⟨rfl, rfl, rfl, rfl, trivial⟩ rfl fun w0 => ?_
  refine Cov.seq ?_
  refine Cov.region rfl ?_
  refine Cov.box [_, _, _, _] .ro rfl rfl rfl (fun b1 hb1 => ?_)
  refine Cov.alloc .ro ty30 rfl (fun b2 hb2 => ?_)
  refine Cov.q .ro (.assign rfl) rfl ?_
  refine Cov.region_end ?_
  refine Cov.seq ?_
  refine Cov.region rfl ?_
  refine Cov.q .ro (.load_own_a 1 [_, _, _, _] rfl rfl ty25 rfl) rfl ?_
  refine Cov.q .ro (.move rfl) rfl ?_
  refine Cov.callv [_, _] [] .ro rfl rfl Try.call14 cunits_c rfl (fun v3 hv3 => ?_)
  subst hv3
  refine Cov.q .ro (.move rfl) rfl ?_
  refine Cov.q .ro (.extract rfl rfl) rfl ?_
  refine Cov.q .ro (.extract rfl rfl) rfl ?_
  refine Cov.q .ro (.assign rfl) rfl ?_
  refine Cov.q .ro (.assign rfl) rfl ?_
  refine Cov.region_end ?_
  refine Cov.seq ?_
  refine Cov.block ?_
  refine Cov.seq ?_
  refine Cov.region rfl ?_
  refine Cov.q .ro (.move rfl) rfl ?_
  refine Cov.q .ro (.neq rfl rfl) rfl ?_
  refine Cov.q .ro (.assign rfl) rfl ?_
  refine Cov.region_end ?_
  refine Cov.cond_dec rfl (fun h4 => ?_) (fun h4 => ?_)
  · refine Cov.seq ?_
    refine Cov.region rfl ?_
    refine Cov.q .ro (.build [_, _, _] [] ty30 pl30 rfl rfl) rfl ?_
    refine Cov.q .ro (.move rfl) rfl ?_
    refine Cov.store 0 [_, _, _] [_, _] .ro rfl rfl rfl ty30 rfl rfl rfl rfl ?_
    refine Cov.q .ro (.assign rfl) rfl ?_
    refine Cov.region_end ?_
    refine Cov.prune [(2, _), (3, _), (4, _), (8, _), (9, _), (10, _)] ⟨rfl, rfl, rfl, rfl, rfl, rfl, trivial⟩ ?_
    refine Cov.retv (c := ⟨10, none⟩) [.cell 8 30, .tmp 9] [_, _] rfl Try.func10 Try.results10 ⟨RV.cell_a 0 [_, _, _] rfl rfl ty30 rfl, RV.tmp rfl, trivial⟩ (fun _ h => h) ?_
    simp only [retVal, costOf]
    unfold cunits at *
    by_cases hS : ShapeP k s d g <;> by_cases hN : 1 ≤ n ∧ n ≤ 1024 <;> simp only [hS, hN, not_true_eq_false, not_false_eq_true, if_true, if_false, and_self, ne_eq] at * <;> first
      | (exfalso; omega)
      | rfl
      | (rw [if_pos (by omega)])
      | (rw [if_neg (by omega)])
  · refine Cov.seq ?_
    refine Cov.region rfl ?_
    refine Cov.q .ro (.move rfl) rfl ?_
    refine Cov.q .ro (.lss rfl rfl) rfl ?_
    refine Cov.q .ro (.move rfl) rfl ?_
    refine Cov.split 27 rfl (fun h5 => ?_) (fun h5 => ?_)
    · refine Cov.g_off rfl rfl rfl ?_
      refine Cov.g_off rfl rfl rfl ?_
      refine Cov.q .ro (.pick_t rfl rfl) rfl ?_
      refine Cov.q .ro (.move rfl) rfl ?_
      refine Cov.g_off rfl rfl rfl ?_
      refine Cov.g_off rfl rfl rfl ?_
      refine Cov.q .ro (.pick_t rfl rfl) rfl ?_
      refine Cov.q .ro (.move rfl) rfl ?_
      refine Cov.g_off rfl rfl rfl ?_
      refine Cov.g_off rfl rfl rfl ?_
      refine Cov.q .ro (.pick_t rfl rfl) rfl ?_
      refine Cov.q .ro (.assign rfl) rfl ?_
      refine Cov.region_end ?_
      refine Cov.prune [(2, _), (3, _), (4, _), (8, _), (9, _), (10, _), (24, _)] ⟨rfl, rfl, rfl, rfl, rfl, rfl, rfl, trivial⟩ ?_
      refine Cov.cond_true rfl ?_
      refine Cov.seq ?_
      refine Cov.region rfl ?_
      refine Cov.q .ro (.build [_, _, _] [] ty30 pl30 rfl rfl) rfl ?_
      refine Cov.store 0 [_, _, _] [_, _] .ro rfl rfl rfl ty30 rfl rfl rfl rfl ?_
      refine Cov.q .ro (.assign rfl) rfl ?_
      refine Cov.region_end ?_
      refine Cov.retv (c := ⟨10, none⟩) [.cell 8 30, .tmp 9] [_, _] rfl Try.func10 Try.results10 ⟨RV.cell_a 0 [_, _, _] rfl rfl ty30 rfl, RV.tmp rfl, trivial⟩ (fun _ h => h) ?_
      simp only [retVal, costOf]
      unfold cunits at *
      by_cases hS : ShapeP k s d g <;> by_cases hN : 1 ≤ n ∧ n ≤ 1024 <;> simp only [hS, hN, not_true_eq_false, not_false_eq_true, if_true, if_false, and_self, ne_eq] at * <;> first
        | (exfalso; omega)
        | rfl
        | (rw [if_pos (by omega)])
        | (rw [if_neg (by omega)])
    · refine Cov.g_on rfl ?_
      refine Cov.q .ro (.move rfl) rfl ?_
      refine Cov.g_on rfl ?_
      refine Cov.q .ro (.gtr rfl rfl) rfl ?_
      refine Cov.q .ro (.pick_f rfl rfl) rfl ?_
      refine Cov.q .ro (.move rfl) rfl ?_
      refine Cov.split 31 rfl (fun h6 => ?_) (fun h6 => ?_)
      · refine Cov.g_off rfl rfl rfl ?_
        refine Cov.g_off rfl rfl rfl ?_
        refine Cov.q .ro (.pick_t rfl rfl) rfl ?_
        refine Cov.q .ro (.move rfl) rfl ?_
        refine Cov.g_off rfl rfl rfl ?_
        refine Cov.g_off rfl rfl rfl ?_
        refine Cov.q .ro (.pick_t rfl rfl) rfl ?_
        refine Cov.q .ro (.assign rfl) rfl ?_
        refine Cov.region_end ?_
        refine Cov.prune [(2, _), (3, _), (4, _), (8, _), (9, _), (10, _), (24, _)] ⟨rfl, rfl, rfl, rfl, rfl, rfl, rfl, trivial⟩ ?_
        refine Cov.cond_true rfl ?_
        refine Cov.seq ?_
        refine Cov.region rfl ?_
        refine Cov.q .ro (.build [_, _, _] [] ty30 pl30 rfl rfl) rfl ?_
        refine Cov.store 0 [_, _, _] [_, _] .ro rfl rfl rfl ty30 rfl rfl rfl rfl ?_
        refine Cov.q .ro (.assign rfl) rfl ?_
        refine Cov.region_end ?_
        refine Cov.retv (c := ⟨10, none⟩) [.cell 8 30, .tmp 9] [_, _] rfl Try.func10 Try.results10 ⟨RV.cell_a 0 [_, _, _] rfl rfl ty30 rfl, RV.tmp rfl, trivial⟩ (fun _ h => h) ?_
        simp only [retVal, costOf]
        unfold cunits at *
        by_cases hS : ShapeP k s d g <;> by_cases hN : 1 ≤ n ∧ n ≤ 1024 <;> simp only [hS, hN, not_true_eq_false, not_false_eq_true, if_true, if_false, and_self, ne_eq] at * <;> first
          | (exfalso; omega)
          | rfl
          | (rw [if_pos (by omega)])
          | (rw [if_neg (by omega)])
      · refine Cov.g_on rfl ?_
        refine Cov.q .ro (.move rfl) rfl ?_
        refine Cov.g_on rfl ?_
        refine Cov.q .ro (.lss rfl rfl) rfl ?_
        refine Cov.q .ro (.pick_f rfl rfl) rfl ?_
        refine Cov.q .ro (.move rfl) rfl ?_
        refine Cov.split 35 rfl (fun h7 => ?_) (fun h7 => ?_)
        · refine Cov.g_off rfl rfl rfl ?_
          refine Cov.g_off rfl rfl rfl ?_
          refine Cov.q .ro (.pick_t rfl rfl) rfl ?_
          refine Cov.q .ro (.assign rfl) rfl ?_
          refine Cov.region_end ?_
          refine Cov.prune [(2, _), (3, _), (4, _), (8, _), (9, _), (10, _), (24, _)] ⟨rfl, rfl, rfl, rfl, rfl, rfl, rfl, trivial⟩ ?_
          refine Cov.cond_true rfl ?_
          refine Cov.seq ?_
          refine Cov.region rfl ?_
          refine Cov.q .ro (.build [_, _, _] [] ty30 pl30 rfl rfl) rfl ?_
          refine Cov.store 0 [_, _, _] [_, _] .ro rfl rfl rfl ty30 rfl rfl rfl rfl ?_
          refine Cov.q .ro (.assign rfl) rfl ?_
          refine Cov.region_end ?_
          refine Cov.retv (c := ⟨10, none⟩) [.cell 8 30, .tmp 9] [_, _] rfl Try.func10 Try.results10 ⟨RV.cell_a 0 [_, _, _] rfl rfl ty30 rfl, RV.tmp rfl, trivial⟩ (fun _ h => h) ?_
          simp only [retVal, costOf]
          unfold cunits at *
          by_cases hS : ShapeP k s d g <;> by_cases hN : 1 ≤ n ∧ n ≤ 1024 <;> simp only [hS, hN, not_true_eq_false, not_false_eq_true, if_true, if_false, and_self, ne_eq] at * <;> first
            | (exfalso; omega)
            | rfl
            | (rw [if_pos (by omega)])
            | (rw [if_neg (by omega)])
        · refine Cov.g_on rfl ?_
          refine Cov.q .ro (.move rfl) rfl ?_
          refine Cov.g_on rfl ?_
          refine Cov.q .ro (.gtr rfl rfl) rfl ?_
          refine Cov.q .ro (.pick_f rfl rfl) rfl ?_
          refine Cov.q .ro (.assign rfl) rfl ?_
          refine Cov.region_end ?_
          refine Cov.prune [(2, _), (3, _), (4, _), (8, _), (9, _), (10, _), (24, _)] ⟨rfl, rfl, rfl, rfl, rfl, rfl, rfl, trivial⟩ ?_
          refine Cov.cond_dec rfl (fun h8 => ?_) (fun h8 => ?_)
          · refine Cov.seq ?_
            refine Cov.region rfl ?_
            refine Cov.q .ro (.build [_, _, _] [] ty30 pl30 rfl rfl) rfl ?_
            refine Cov.store 0 [_, _, _] [_, _] .ro rfl rfl rfl ty30 rfl rfl rfl rfl ?_
            refine Cov.q .ro (.assign rfl) rfl ?_
            refine Cov.region_end ?_
            refine Cov.retv (c := ⟨10, none⟩) [.cell 8 30, .tmp 9] [_, _] rfl Try.func10 Try.results10 ⟨RV.cell_a 0 [_, _, _] rfl rfl ty30 rfl, RV.tmp rfl, trivial⟩ (fun _ h => h) ?_
            simp only [retVal, costOf]
            unfold cunits at *
            by_cases hS : ShapeP k s d g <;> by_cases hN : 1 ≤ n ∧ n ≤ 1024 <;> simp only [hS, hN, not_true_eq_false, not_false_eq_true, if_true, if_false, and_self, ne_eq] at * <;> first
              | (exfalso; omega)
              | rfl
              | (rw [if_pos (by omega)])
              | (rw [if_neg (by omega)])
          · refine Cov.skip ?_
            refine Cov.inBlock ?_
            refine Cov.seq ?_
            refine Cov.region rfl ?_
            refine Cov.q .ro (.move rfl) rfl ?_
            refine Cov.q .ro (.fieldAddr 1 rfl fl25_1 ty3.sz rfl) rfl ?_
            refine Cov.q .ro (.load_own 1 rfl rfl ty3 rfl) rfl ?_
            refine Cov.q .ro (.mul rfl rfl (by have hS : ShapeP k s d g := by { unfold cunits at *; by_cases hS : ShapeP k s d g; exact hS; simp_all }; have hN : 1 ≤ n ∧ n ≤ 1024 := by { unfold cunits at *; by_cases hN : 1 ≤ n ∧ n ≤ 1024; exact hN; simp_all }; have hU := units_rng hS hN; have hu : (cunits k s d g n).1 = unitsI k s d g n := by { unfold cunits; simp [hS, hN] }; have hs : 0 ≤ s ∧ s ≤ 10 := by { unfold ShapeP at hS; omega }; have h1 := mulb (a := p) (b := s) (A := 16) (B := 10) (by omega) hs; have h2 := mulb (a := p * s) (b := unitsI k s d g n) (A := 160) (B := 1024) (by omega) (by omega); have h3 := mulb (a := p * s) (b := w) (A := 160) (B := 64) (by omega) (by omega); have h4 := mulb (a := p * s * unitsI k s d g n) (b := w) (A := 163840) (B := 64) (by omega) (by omega); omega)) rfl ?_
            refine Cov.q .ro (.assign rfl) rfl ?_
            refine Cov.region_end ?_
            refine Cov.seq ?_
            refine Cov.region rfl ?_
            refine Cov.q .ro (.move rfl) rfl ?_
            refine Cov.q .ro (.move rfl) rfl ?_
            refine Cov.q .ro (.mul rfl rfl (by have hS : ShapeP k s d g := by { unfold cunits at *; by_cases hS : ShapeP k s d g; exact hS; simp_all }; have hN : 1 ≤ n ∧ n ≤ 1024 := by { unfold cunits at *; by_cases hN : 1 ≤ n ∧ n ≤ 1024; exact hN; simp_all }; have hU := units_rng hS hN; have hu : (cunits k s d g n).1 = unitsI k s d g n := by { unfold cunits; simp [hS, hN] }; have hs : 0 ≤ s ∧ s ≤ 10 := by { unfold ShapeP at hS; omega }; have h1 := mulb (a := p) (b := s) (A := 16) (B := 10) (by omega) hs; rw [hu]; have h2 := mulb (a := p * s) (b := unitsI k s d g n) (A := 160) (B := 1024) (by omega) (by omega); have h3 := mulb (a := p * s) (b := w) (A := 160) (B := 64) (by omega) (by omega); have h4 := mulb (a := p * s * unitsI k s d g n) (b := w) (A := 163840) (B := 64) (by omega) (by omega); omega)) rfl ?_
            refine Cov.q .ro (.move rfl) rfl ?_
            refine Cov.q .ro (.move rfl) rfl ?_
            refine Cov.q .ro (.mul rfl rfl (by have hS : ShapeP k s d g := by { unfold cunits at *; by_cases hS : ShapeP k s d g; exact hS; simp_all }; have hN : 1 ≤ n ∧ n ≤ 1024 := by { unfold cunits at *; by_cases hN : 1 ≤ n ∧ n ≤ 1024; exact hN; simp_all }; have hU := units_rng hS hN; have hu : (cunits k s d g n).1 = unitsI k s d g n := by { unfold cunits; simp [hS, hN] }; have hs : 0 ≤ s ∧ s ≤ 10 := by { unfold ShapeP at hS; omega }; have h1 := mulb (a := p) (b := s) (A := 16) (B := 10) (by omega) hs; have h2 := mulb (a := p * s) (b := unitsI k s d g n) (A := 160) (B := 1024) (by omega) (by omega); have h3 := mulb (a := p * s) (b := w) (A := 160) (B := 64) (by omega) (by omega); have h4 := mulb (a := p * s * unitsI k s d g n) (b := w) (A := 163840) (B := 64) (by omega) (by omega); omega)) rfl ?_
            refine Cov.q .ro (.move rfl) rfl ?_
            refine Cov.q .ro (.move rfl) rfl ?_
            refine Cov.q .ro (.mul rfl rfl (by have hS : ShapeP k s d g := by { unfold cunits at *; by_cases hS : ShapeP k s d g; exact hS; simp_all }; have hN : 1 ≤ n ∧ n ≤ 1024 := by { unfold cunits at *; by_cases hN : 1 ≤ n ∧ n ≤ 1024; exact hN; simp_all }; have hU := units_rng hS hN; have hu : (cunits k s d g n).1 = unitsI k s d g n := by { unfold cunits; simp [hS, hN] }; have hs : 0 ≤ s ∧ s ≤ 10 := by { unfold ShapeP at hS; omega }; have h1 := mulb (a := p) (b := s) (A := 16) (B := 10) (by omega) hs; rw [hu]; have h2 := mulb (a := p * s) (b := unitsI k s d g n) (A := 160) (B := 1024) (by omega) (by omega); have h3 := mulb (a := p * s) (b := w) (A := 160) (B := 64) (by omega) (by omega); have h4 := mulb (a := p * s * unitsI k s d g n) (b := w) (A := 163840) (B := 64) (by omega) (by omega); omega)) rfl ?_
            refine Cov.q .ro (.move rfl) rfl ?_
            refine Cov.q .ro (.mul rfl rfl (by have hS : ShapeP k s d g := by { unfold cunits at *; by_cases hS : ShapeP k s d g; exact hS; simp_all }; have hN : 1 ≤ n ∧ n ≤ 1024 := by { unfold cunits at *; by_cases hN : 1 ≤ n ∧ n ≤ 1024; exact hN; simp_all }; have hU := units_rng hS hN; have hu : (cunits k s d g n).1 = unitsI k s d g n := by { unfold cunits; simp [hS, hN] }; have hs : 0 ≤ s ∧ s ≤ 10 := by { unfold ShapeP at hS; omega }; have h1 := mulb (a := p) (b := s) (A := 16) (B := 10) (by omega) hs; rw [hu]; have h2 := mulb (a := p * s) (b := unitsI k s d g n) (A := 160) (B := 1024) (by omega) (by omega); have h3 := mulb (a := p * s) (b := w) (A := 160) (B := 64) (by omega) (by omega); have h4 := mulb (a := p * s * unitsI k s d g n) (b := w) (A := 163840) (B := 64) (by omega) (by omega); omega)) rfl ?_
            refine Cov.q .ro (.build [_, _, _] [(0, _), (1, _), (2, _)] ty30 pl30 rfl rfl) rfl ?_
            refine Cov.store 0 [_, _, _] [_, _] .ro rfl rfl rfl ty30 rfl rfl rfl rfl ?_
            refine Cov.q .ro (.assign rfl) rfl ?_
            refine Cov.region_end ?_
            refine Cov.prune [(8, _), (9, _)] ⟨rfl, rfl, trivial⟩ ?_
            refine Cov.retv (c := ⟨10, none⟩) [.cell 8 30, .tmp 9] [_, _] rfl Try.func10 Try.results10 ⟨RV.cell_a 0 [_, _, _] rfl rfl ty30 rfl, RV.tmp rfl, trivial⟩ (fun _ h => h) ?_
            simp only [retVal, costOf]
            unfold cunits at *
            by_cases hS : ShapeP k s d g <;> by_cases hN : 1 ≤ n ∧ n ≤ 1024 <;> simp only [hS, hN, not_true_eq_false, not_false_eq_true, if_true, if_false, and_self, ne_eq] at * <;> first
              | (exfalso; omega)
              | rfl
              | (rw [if_pos (by omega)])
              | (rw [if_neg (by omega)])

theorem rcof_c {k s d g n w p : Int} {Fs : List Hp} : RetV Try.prog 16 #[.agg #[.int .i64 k, .int .i64 s, .int .i64 d, .int .i64 g], .int .i64 n, .int .i64 w, .int .i64 p] Fs (fun v => v = .tuple #[.agg #[.int .i64 (costOf k s d g n w p).1.1, .int .i64 (costOf k s d g n w p).1.2.1, .int .i64 (costOf k s d g n w p).1.2.2], .int .i64 (costOf k s d g n w p).2]) := by
  refine Ret.of (vs := [_, _, _, _]) Try.func16 rfl Try.ntmps16 [(0, _), (1, _), (2, _), (3, _)] ⟨rfl, rfl, rfl, rfl, trivial⟩ rfl fun w0 => ?_
  refine Cov.seq ?_
  refine Cov.region rfl ?_
  refine Cov.box [_, _, _, _] .ro rfl rfl rfl (fun b1 hb1 => ?_)
  refine Cov.alloc .ro ty30 rfl (fun b2 hb2 => ?_)
  refine Cov.q .ro (.assign rfl) rfl ?_
  refine Cov.region_end ?_
  refine Cov.seq ?_
  refine Cov.region rfl ?_
  refine Cov.q .ro (.load_own_a 1 [_, _, _, _] rfl rfl ty25 rfl) rfl ?_
  refine Cov.q .ro (.move rfl) rfl ?_
  refine Cov.callv [_, _] [] .ro rfl rfl Try.call15 rcunits_c rfl (fun v3 hv3 => ?_)
  subst hv3
  refine Cov.q .ro (.move rfl) rfl ?_
  refine Cov.q .ro (.extract rfl rfl) rfl ?_
  refine Cov.q .ro (.extract rfl rfl) rfl ?_
  refine Cov.q .ro (.assign rfl) rfl ?_
  refine Cov.q .ro (.assign rfl) rfl ?_
  refine Cov.region_end ?_
  refine Cov.seq ?_
  refine Cov.seq ?_
  refine Cov.region rfl ?_
  refine Cov.q .ro (.move rfl) rfl ?_
  refine Cov.q .ro (.neq rfl rfl) rfl ?_
  refine Cov.region_end ?_
  refine Cov.cond_dec rfl (fun h4 => ?_) (fun h4 => ?_)
  · refine Cov.seq ?_
    refine Cov.region rfl ?_
    refine Cov.q .ro (.build [_, _, _] [] ty30 pl30 rfl rfl) rfl ?_
    refine Cov.q .ro (.move rfl) rfl ?_
    refine Cov.store 0 [_, _, _] [_, _] .ro rfl rfl rfl ty30 rfl rfl rfl rfl ?_
    refine Cov.q .ro (.assign rfl) rfl ?_
    refine Cov.region_end ?_
    refine Cov.prune [(2, _), (3, _), (4, _), (8, _), (9, _), (10, _)] ⟨rfl, rfl, rfl, rfl, rfl, rfl, trivial⟩ ?_
    refine Cov.retv (c := ⟨16, none⟩) [.cell 8 30, .tmp 9] [_, _] rfl Try.func16 Try.results16 ⟨RV.cell_a 0 [_, _, _] rfl rfl ty30 rfl, RV.tmp rfl, trivial⟩ (fun _ h => h) ?_
    simp only [retVal, costOf]
    unfold cunits at *
    by_cases hS : ShapeP k s d g <;> by_cases hN : 1 ≤ n ∧ n ≤ 1024 <;> simp only [hS, hN, not_true_eq_false, not_false_eq_true, if_true, if_false, and_self, ne_eq] at * <;> first
      | (exfalso; omega)
      | rfl
      | (rw [if_pos (by omega)])
      | (rw [if_neg (by omega)])
  · refine Cov.skip ?_
    refine Cov.seq ?_
    refine Cov.seq ?_
    refine Cov.region rfl ?_
    refine Cov.q .ro (.move rfl) rfl ?_
    refine Cov.q .ro (.lss rfl rfl) rfl ?_
    refine Cov.q .ro (.move rfl) rfl ?_
    refine Cov.split 25 rfl (fun h5 => ?_) (fun h5 => ?_)
    · refine Cov.g_off rfl rfl rfl ?_
      refine Cov.g_off rfl rfl rfl ?_
      refine Cov.q .ro (.pick_t rfl rfl) rfl ?_
      refine Cov.q .ro (.move rfl) rfl ?_
      refine Cov.g_off rfl rfl rfl ?_
      refine Cov.g_off rfl rfl rfl ?_
      refine Cov.q .ro (.pick_t rfl rfl) rfl ?_
      refine Cov.q .ro (.move rfl) rfl ?_
      refine Cov.g_off rfl rfl rfl ?_
      refine Cov.g_off rfl rfl rfl ?_
      refine Cov.q .ro (.pick_t rfl rfl) rfl ?_
      refine Cov.region_end ?_
      refine Cov.prune [(2, _), (3, _), (4, _), (8, _), (9, _), (10, _), (36, _)] ⟨rfl, rfl, rfl, rfl, rfl, rfl, rfl, trivial⟩ ?_
      refine Cov.cond_true rfl ?_
      refine Cov.seq ?_
      refine Cov.region rfl ?_
      refine Cov.q .ro (.build [_, _, _] [] ty30 pl30 rfl rfl) rfl ?_
      refine Cov.store 0 [_, _, _] [_, _] .ro rfl rfl rfl ty30 rfl rfl rfl rfl ?_
      refine Cov.q .ro (.assign rfl) rfl ?_
      refine Cov.region_end ?_
      refine Cov.retv (c := ⟨16, none⟩) [.cell 8 30, .tmp 9] [_, _] rfl Try.func16 Try.results16 ⟨RV.cell_a 0 [_, _, _] rfl rfl ty30 rfl, RV.tmp rfl, trivial⟩ (fun _ h => h) ?_
      simp only [retVal, costOf]
      unfold cunits at *
      by_cases hS : ShapeP k s d g <;> by_cases hN : 1 ≤ n ∧ n ≤ 1024 <;> simp only [hS, hN, not_true_eq_false, not_false_eq_true, if_true, if_false, and_self, ne_eq] at * <;> first
        | (exfalso; omega)
        | rfl
        | (rw [if_pos (by omega)])
        | (rw [if_neg (by omega)])
    · refine Cov.g_on rfl ?_
      refine Cov.q .ro (.move rfl) rfl ?_
      refine Cov.g_on rfl ?_
      refine Cov.q .ro (.gtr rfl rfl) rfl ?_
      refine Cov.q .ro (.pick_f rfl rfl) rfl ?_
      refine Cov.q .ro (.move rfl) rfl ?_
      refine Cov.split 29 rfl (fun h6 => ?_) (fun h6 => ?_)
      · refine Cov.g_off rfl rfl rfl ?_
        refine Cov.g_off rfl rfl rfl ?_
        refine Cov.q .ro (.pick_t rfl rfl) rfl ?_
        refine Cov.q .ro (.move rfl) rfl ?_
        refine Cov.g_off rfl rfl rfl ?_
        refine Cov.g_off rfl rfl rfl ?_
        refine Cov.q .ro (.pick_t rfl rfl) rfl ?_
        refine Cov.region_end ?_
        refine Cov.prune [(2, _), (3, _), (4, _), (8, _), (9, _), (10, _), (36, _)] ⟨rfl, rfl, rfl, rfl, rfl, rfl, rfl, trivial⟩ ?_
        refine Cov.cond_true rfl ?_
        refine Cov.seq ?_
        refine Cov.region rfl ?_
        refine Cov.q .ro (.build [_, _, _] [] ty30 pl30 rfl rfl) rfl ?_
        refine Cov.store 0 [_, _, _] [_, _] .ro rfl rfl rfl ty30 rfl rfl rfl rfl ?_
        refine Cov.q .ro (.assign rfl) rfl ?_
        refine Cov.region_end ?_
        refine Cov.retv (c := ⟨16, none⟩) [.cell 8 30, .tmp 9] [_, _] rfl Try.func16 Try.results16 ⟨RV.cell_a 0 [_, _, _] rfl rfl ty30 rfl, RV.tmp rfl, trivial⟩ (fun _ h => h) ?_
        simp only [retVal, costOf]
        unfold cunits at *
        by_cases hS : ShapeP k s d g <;> by_cases hN : 1 ≤ n ∧ n ≤ 1024 <;> simp only [hS, hN, not_true_eq_false, not_false_eq_true, if_true, if_false, and_self, ne_eq] at * <;> first
          | (exfalso; omega)
          | rfl
          | (rw [if_pos (by omega)])
          | (rw [if_neg (by omega)])
      · refine Cov.g_on rfl ?_
        refine Cov.q .ro (.move rfl) rfl ?_
        refine Cov.g_on rfl ?_
        refine Cov.q .ro (.lss rfl rfl) rfl ?_
        refine Cov.q .ro (.pick_f rfl rfl) rfl ?_
        refine Cov.q .ro (.move rfl) rfl ?_
        refine Cov.split 33 rfl (fun h7 => ?_) (fun h7 => ?_)
        · refine Cov.g_off rfl rfl rfl ?_
          refine Cov.g_off rfl rfl rfl ?_
          refine Cov.q .ro (.pick_t rfl rfl) rfl ?_
          refine Cov.region_end ?_
          refine Cov.prune [(2, _), (3, _), (4, _), (8, _), (9, _), (10, _), (36, _)] ⟨rfl, rfl, rfl, rfl, rfl, rfl, rfl, trivial⟩ ?_
          refine Cov.cond_true rfl ?_
          refine Cov.seq ?_
          refine Cov.region rfl ?_
          refine Cov.q .ro (.build [_, _, _] [] ty30 pl30 rfl rfl) rfl ?_
          refine Cov.store 0 [_, _, _] [_, _] .ro rfl rfl rfl ty30 rfl rfl rfl rfl ?_
          refine Cov.q .ro (.assign rfl) rfl ?_
          refine Cov.region_end ?_
          refine Cov.retv (c := ⟨16, none⟩) [.cell 8 30, .tmp 9] [_, _] rfl Try.func16 Try.results16 ⟨RV.cell_a 0 [_, _, _] rfl rfl ty30 rfl, RV.tmp rfl, trivial⟩ (fun _ h => h) ?_
          simp only [retVal, costOf]
          unfold cunits at *
          by_cases hS : ShapeP k s d g <;> by_cases hN : 1 ≤ n ∧ n ≤ 1024 <;> simp only [hS, hN, not_true_eq_false, not_false_eq_true, if_true, if_false, and_self, ne_eq] at * <;> first
            | (exfalso; omega)
            | rfl
            | (rw [if_pos (by omega)])
            | (rw [if_neg (by omega)])
        · refine Cov.g_on rfl ?_
          refine Cov.q .ro (.move rfl) rfl ?_
          refine Cov.g_on rfl ?_
          refine Cov.q .ro (.gtr rfl rfl) rfl ?_
          refine Cov.q .ro (.pick_f rfl rfl) rfl ?_
          refine Cov.region_end ?_
          refine Cov.prune [(2, _), (3, _), (4, _), (8, _), (9, _), (10, _), (36, _)] ⟨rfl, rfl, rfl, rfl, rfl, rfl, rfl, trivial⟩ ?_
          refine Cov.cond_dec rfl (fun h8 => ?_) (fun h8 => ?_)
          · refine Cov.seq ?_
            refine Cov.region rfl ?_
            refine Cov.q .ro (.build [_, _, _] [] ty30 pl30 rfl rfl) rfl ?_
            refine Cov.store 0 [_, _, _] [_, _] .ro rfl rfl rfl ty30 rfl rfl rfl rfl ?_
            refine Cov.q .ro (.assign rfl) rfl ?_
            refine Cov.region_end ?_
            refine Cov.retv (c := ⟨16, none⟩) [.cell 8 30, .tmp 9] [_, _] rfl Try.func16 Try.results16 ⟨RV.cell_a 0 [_, _, _] rfl rfl ty30 rfl, RV.tmp rfl, trivial⟩ (fun _ h => h) ?_
            simp only [retVal, costOf]
            unfold cunits at *
            by_cases hS : ShapeP k s d g <;> by_cases hN : 1 ≤ n ∧ n ≤ 1024 <;> simp only [hS, hN, not_true_eq_false, not_false_eq_true, if_true, if_false, and_self, ne_eq] at * <;> first
              | (exfalso; omega)
              | rfl
              | (rw [if_pos (by omega)])
              | (rw [if_neg (by omega)])
          · refine Cov.skip ?_
            refine Cov.seq ?_
            refine Cov.region rfl ?_
            refine Cov.q .ro (.move rfl) rfl ?_
            refine Cov.q .ro (.fieldAddr 1 rfl fl25_1 ty3.sz rfl) rfl ?_
            refine Cov.q .ro (.load_own 1 rfl rfl ty3 rfl) rfl ?_
            refine Cov.q .ro (.mul rfl rfl (by have hS : ShapeP k s d g := by { unfold cunits at *; by_cases hS : ShapeP k s d g; exact hS; simp_all }; have hN : 1 ≤ n ∧ n ≤ 1024 := by { unfold cunits at *; by_cases hN : 1 ≤ n ∧ n ≤ 1024; exact hN; simp_all }; have hU := units_rng hS hN; have hu : (cunits k s d g n).1 = unitsI k s d g n := by { unfold cunits; simp [hS, hN] }; have hs : 0 ≤ s ∧ s ≤ 10 := by { unfold ShapeP at hS; omega }; have h1 := mulb (a := p) (b := s) (A := 16) (B := 10) (by omega) hs; have h2 := mulb (a := p * s) (b := unitsI k s d g n) (A := 160) (B := 1024) (by omega) (by omega); have h3 := mulb (a := p * s) (b := w) (A := 160) (B := 64) (by omega) (by omega); have h4 := mulb (a := p * s * unitsI k s d g n) (b := w) (A := 163840) (B := 64) (by omega) (by omega); omega)) rfl ?_
            refine Cov.q .ro (.assign rfl) rfl ?_
            refine Cov.region_end ?_
            refine Cov.seq ?_
            refine Cov.region rfl ?_
            refine Cov.q .ro (.move rfl) rfl ?_
            refine Cov.q .ro (.move rfl) rfl ?_
            refine Cov.q .ro (.mul rfl rfl (by have hS : ShapeP k s d g := by { unfold cunits at *; by_cases hS : ShapeP k s d g; exact hS; simp_all }; have hN : 1 ≤ n ∧ n ≤ 1024 := by { unfold cunits at *; by_cases hN : 1 ≤ n ∧ n ≤ 1024; exact hN; simp_all }; have hU := units_rng hS hN; have hu : (cunits k s d g n).1 = unitsI k s d g n := by { unfold cunits; simp [hS, hN] }; have hs : 0 ≤ s ∧ s ≤ 10 := by { unfold ShapeP at hS; omega }; have h1 := mulb (a := p) (b := s) (A := 16) (B := 10) (by omega) hs; rw [hu]; have h2 := mulb (a := p * s) (b := unitsI k s d g n) (A := 160) (B := 1024) (by omega) (by omega); have h3 := mulb (a := p * s) (b := w) (A := 160) (B := 64) (by omega) (by omega); have h4 := mulb (a := p * s * unitsI k s d g n) (b := w) (A := 163840) (B := 64) (by omega) (by omega); omega)) rfl ?_
            refine Cov.q .ro (.move rfl) rfl ?_
            refine Cov.q .ro (.move rfl) rfl ?_
            refine Cov.q .ro (.mul rfl rfl (by have hS : ShapeP k s d g := by { unfold cunits at *; by_cases hS : ShapeP k s d g; exact hS; simp_all }; have hN : 1 ≤ n ∧ n ≤ 1024 := by { unfold cunits at *; by_cases hN : 1 ≤ n ∧ n ≤ 1024; exact hN; simp_all }; have hU := units_rng hS hN; have hu : (cunits k s d g n).1 = unitsI k s d g n := by { unfold cunits; simp [hS, hN] }; have hs : 0 ≤ s ∧ s ≤ 10 := by { unfold ShapeP at hS; omega }; have h1 := mulb (a := p) (b := s) (A := 16) (B := 10) (by omega) hs; have h2 := mulb (a := p * s) (b := unitsI k s d g n) (A := 160) (B := 1024) (by omega) (by omega); have h3 := mulb (a := p * s) (b := w) (A := 160) (B := 64) (by omega) (by omega); have h4 := mulb (a := p * s * unitsI k s d g n) (b := w) (A := 163840) (B := 64) (by omega) (by omega); omega)) rfl ?_
            refine Cov.q .ro (.move rfl) rfl ?_
            refine Cov.q .ro (.move rfl) rfl ?_
            refine Cov.q .ro (.mul rfl rfl (by have hS : ShapeP k s d g := by { unfold cunits at *; by_cases hS : ShapeP k s d g; exact hS; simp_all }; have hN : 1 ≤ n ∧ n ≤ 1024 := by { unfold cunits at *; by_cases hN : 1 ≤ n ∧ n ≤ 1024; exact hN; simp_all }; have hU := units_rng hS hN; have hu : (cunits k s d g n).1 = unitsI k s d g n := by { unfold cunits; simp [hS, hN] }; have hs : 0 ≤ s ∧ s ≤ 10 := by { unfold ShapeP at hS; omega }; have h1 := mulb (a := p) (b := s) (A := 16) (B := 10) (by omega) hs; rw [hu]; have h2 := mulb (a := p * s) (b := unitsI k s d g n) (A := 160) (B := 1024) (by omega) (by omega); have h3 := mulb (a := p * s) (b := w) (A := 160) (B := 64) (by omega) (by omega); have h4 := mulb (a := p * s * unitsI k s d g n) (b := w) (A := 163840) (B := 64) (by omega) (by omega); omega)) rfl ?_
            refine Cov.q .ro (.move rfl) rfl ?_
            refine Cov.q .ro (.mul rfl rfl (by have hS : ShapeP k s d g := by { unfold cunits at *; by_cases hS : ShapeP k s d g; exact hS; simp_all }; have hN : 1 ≤ n ∧ n ≤ 1024 := by { unfold cunits at *; by_cases hN : 1 ≤ n ∧ n ≤ 1024; exact hN; simp_all }; have hU := units_rng hS hN; have hu : (cunits k s d g n).1 = unitsI k s d g n := by { unfold cunits; simp [hS, hN] }; have hs : 0 ≤ s ∧ s ≤ 10 := by { unfold ShapeP at hS; omega }; have h1 := mulb (a := p) (b := s) (A := 16) (B := 10) (by omega) hs; rw [hu]; have h2 := mulb (a := p * s) (b := unitsI k s d g n) (A := 160) (B := 1024) (by omega) (by omega); have h3 := mulb (a := p * s) (b := w) (A := 160) (B := 64) (by omega) (by omega); have h4 := mulb (a := p * s * unitsI k s d g n) (b := w) (A := 163840) (B := 64) (by omega) (by omega); omega)) rfl ?_
            refine Cov.q .ro (.build [_, _, _] [(0, _), (1, _), (2, _)] ty30 pl30 rfl rfl) rfl ?_
            refine Cov.store 0 [_, _, _] [_, _] .ro rfl rfl rfl ty30 rfl rfl rfl rfl ?_
            refine Cov.q .ro (.assign rfl) rfl ?_
            refine Cov.region_end ?_
            refine Cov.prune [(8, _), (9, _)] ⟨rfl, rfl, trivial⟩ ?_
            refine Cov.retv (c := ⟨16, none⟩) [.cell 8 30, .tmp 9] [_, _] rfl Try.func16 Try.results16 ⟨RV.cell_a 0 [_, _, _] rfl rfl ty30 rfl, RV.tmp rfl, trivial⟩ (fun _ h => h) ?_
            simp only [retVal, costOf]
            unfold cunits at *
            by_cases hS : ShapeP k s d g <;> by_cases hN : 1 ≤ n ∧ n ≤ 1024 <;> simp only [hS, hN, not_true_eq_false, not_false_eq_true, if_true, if_false, and_self, ne_eq] at * <;> first
              | (exfalso; omega)
              | rfl
              | (rw [if_pos (by omega)])
              | (rw [if_neg (by omega)])

abbrev w64 (n : Int) : Int := IntKind.i64.wrap n

theorem mul_c {x y : Int} {Fs : List Hp} : RetV Try.prog 27 #[.int .i64 x, .int .i64 y] Fs (fun v => v = .int .i64 (w64 (x * y))) := by
  refine Ret.of (vs := [_, _]) Try.func27 rfl Try.ntmps27 [(0, _), (1, _)] ⟨rfl, rfl, trivial⟩ rfl fun w0 => ?_
  refine Cov.seq ?_
  refine Cov.region rfl ?_
  refine Cov.q .ro (.assign rfl) rfl ?_
  refine Cov.region_end ?_
  refine Cov.seq ?_
  refine Cov.region rfl ?_
  refine Cov.q .ro (.move rfl) rfl ?_
  refine Cov.q .ro (.move rfl) rfl ?_
  refine Cov.q .ro (.mulw rfl rfl) rfl ?_
  refine Cov.q .ro (.assign rfl) rfl ?_
  refine Cov.region_end ?_
  refine Cov.retv (c := ⟨27, none⟩) [.tmp 4] [_] rfl Try.func27 Try.results27 ⟨RV.tmp rfl, trivial⟩ (fun _ h => h) ?_
  rfl

theorem add_c {x y : Int} {Fs : List Hp} : RetV Try.prog 28 #[.int .i64 x, .int .i64 y] Fs (fun v => v = .int .i64 (w64 (x + y))) := by
  refine Ret.of (vs := [_, _]) Try.func28 rfl Try.ntmps28 [(0, _), (1, _)] ⟨rfl, rfl, trivial⟩ rfl fun w0 => ?_
  refine Cov.seq ?_
  refine Cov.region rfl ?_
  refine Cov.q .ro (.assign rfl) rfl ?_
  refine Cov.region_end ?_
  refine Cov.seq ?_
  refine Cov.region rfl ?_
  refine Cov.q .ro (.move rfl) rfl ?_
  refine Cov.q .ro (.move rfl) rfl ?_
  refine Cov.q .ro (.addw rfl rfl) rfl ?_
  refine Cov.q .ro (.assign rfl) rfl ?_
  refine Cov.region_end ?_
  refine Cov.retv (c := ⟨28, none⟩) [.tmp 4] [_] rfl Try.func28 Try.results28 ⟨RV.tmp rfl, trivial⟩ (fun _ h => h) ?_
  rfl

theorem each_mul {a1 a2 a3 b1 b2 b3 : Int} {Fs : List Hp} : RetV Try.prog 26 #[.agg #[.int .i64 a1, .int .i64 a2, .int .i64 a3], .agg #[.int .i64 b1, .int .i64 b2, .int .i64 b3], .func (.func 27) #[] #[]] Fs (fun v => v = .agg #[.int .i64 (w64 (a1 * b1)), .int .i64 (w64 (a2 * b2)), .int .i64 (w64 (a3 * b3))]) := by
  refine Ret.of (vs := [_, _, _]) Try.func26 rfl Try.ntmps26 [(0, _), (1, _), (2, _)] ⟨rfl, rfl, rfl, trivial⟩ rfl fun w0 => ?_
  refine Cov.seq ?_
  refine Cov.region rfl ?_
  refine Cov.box [_, _, _] .ro rfl rfl rfl (fun b1 hb1 => ?_)
  refine Cov.box [_, _, _] .ro rfl rfl rfl (fun b2 hb2 => ?_)
  refine Cov.alloc .ro ty30 rfl (fun b3 hb3 => ?_)
  refine Cov.region_end ?_
  refine Cov.seq ?_
  refine Cov.draw (.q 0 (.q 1 (.q 2 (.q 3 (.q 4 (.q 6 (.q 7 (.q 8 (.q 9 (.q 10 (.q 12 (.q 13 (.q 14 (.q 15 (.q 16 (.e 5 1 (.e 11 1 (.e 17 1 (.q 18 (.e 19 2 .nil)))))))))))))))))))) _ [_, _, _] (by kernel_rfl) (by kernel_rfl) (fun _ h => h) (pick_mem [0, 1, 2] rfl) ?_
  refine Cov.dq (.move rfl) rfl ?_
  refine Cov.dq (.fieldAddr 0 rfl fl30_0 ty3.sz rfl) rfl ?_
  refine Cov.dq (.load_own 2 rfl rfl ty3 rfl) rfl ?_
  refine Cov.dq (.fieldAddr 0 rfl fl30_0 ty3.sz rfl) rfl ?_
  refine Cov.dq (.load_own 1 rfl rfl ty3 rfl) rfl ?_
  refine Cov.dq (.move rfl) rfl ?_
  refine Cov.dq (.fieldAddr 1 rfl fl30_1 ty3.sz rfl) rfl ?_
  refine Cov.dq (.load_own 2 rfl rfl ty3 rfl) rfl ?_
  refine Cov.dq (.fieldAddr 1 rfl fl30_1 ty3.sz rfl) rfl ?_
  refine Cov.dq (.load_own 1 rfl rfl ty3 rfl) rfl ?_
  refine Cov.dq (.move rfl) rfl ?_
  refine Cov.dq (.fieldAddr 2 rfl fl30_2 ty3.sz rfl) rfl ?_
  refine Cov.dq (.load_own 2 rfl rfl ty3 rfl) rfl ?_
  refine Cov.dq (.fieldAddr 2 rfl fl30_2 ty3.sz rfl) rfl ?_
  refine Cov.dq (.load_own 1 rfl rfl ty3 rfl) rfl ?_
  refine Cov.callv [_, _] [] .d1 rfl rfl Try.call27 mul_c rfl (fun v4 hv4 => ?_)
  subst hv4
  refine Cov.cls (fun _ h => h) (pick_mem [0, 1, 2] rfl) ?_
  refine Cov.callv [_, _] [] .d1 rfl rfl Try.call27 mul_c rfl (fun v5 hv5 => ?_)
  subst hv5
  refine Cov.cls (fun _ h => h) (pick_mem [0, 1, 2] rfl) ?_
  refine Cov.callv [_, _] [] .d1 rfl rfl Try.call27 mul_c rfl (fun v6 hv6 => ?_)
  subst hv6
  refine Cov.cls (fun _ h => h) (pick_mem [0, 1, 2] rfl) ?_
  refine Cov.dq (.build [_, _, _] [(0, _), (1, _), (2, _)] ty30 pl30 rfl rfl) rfl ?_
  refine Cov.store 0 [_, _, _] [_, _, _] .d2 rfl rfl rfl ty30 rfl rfl rfl rfl ?_
  refine Cov.draw_end ?_
  refine Cov.prune [(6, _)] ⟨rfl, trivial⟩ ?_
  refine Cov.retv (c := ⟨26, none⟩) [.cell 6 30] [_] rfl Try.func26 Try.results26 ⟨RV.cell_a 0 [_, _, _] rfl rfl ty30 rfl, trivial⟩ (fun _ h => h) ?_
  rfl

theorem each_add {a1 a2 a3 b1 b2 b3 : Int} {Fs : List Hp} : RetV Try.prog 26 #[.agg #[.int .i64 a1, .int .i64 a2, .int .i64 a3], .agg #[.int .i64 b1, .int .i64 b2, .int .i64 b3], .func (.func 28) #[] #[]] Fs (fun v => v = .agg #[.int .i64 (w64 (a1 + b1)), .int .i64 (w64 (a2 + b2)), .int .i64 (w64 (a3 + b3))]) := by
  refine Ret.of (vs := [_, _, _]) Try.func26 rfl Try.ntmps26 [(0, _), (1, _), (2, _)] ⟨rfl, rfl, rfl, trivial⟩ rfl fun w0 => ?_
  refine Cov.seq ?_
  refine Cov.region rfl ?_
  refine Cov.box [_, _, _] .ro rfl rfl rfl (fun b1 hb1 => ?_)
  refine Cov.box [_, _, _] .ro rfl rfl rfl (fun b2 hb2 => ?_)
  refine Cov.alloc .ro ty30 rfl (fun b3 hb3 => ?_)
  refine Cov.region_end ?_
  refine Cov.seq ?_
  refine Cov.draw (.q 0 (.q 1 (.q 2 (.q 3 (.q 4 (.q 6 (.q 7 (.q 8 (.q 9 (.q 10 (.q 12 (.q 13 (.q 14 (.q 15 (.q 16 (.e 5 1 (.e 11 1 (.e 17 1 (.q 18 (.e 19 2 .nil)))))))))))))))))))) _ [_, _, _] (by kernel_rfl) (by kernel_rfl) (fun _ h => h) (pick_mem [0, 1, 2] rfl) ?_
  refine Cov.dq (.move rfl) rfl ?_
  refine Cov.dq (.fieldAddr 0 rfl fl30_0 ty3.sz rfl) rfl ?_
  refine Cov.dq (.load_own 2 rfl rfl ty3 rfl) rfl ?_
  refine Cov.dq (.fieldAddr 0 rfl fl30_0 ty3.sz rfl) rfl ?_
  refine Cov.dq (.load_own 1 rfl rfl ty3 rfl) rfl ?_
  refine Cov.dq (.move rfl) rfl ?_
  refine Cov.dq (.fieldAddr 1 rfl fl30_1 ty3.sz rfl) rfl ?_
  refine Cov.dq (.load_own 2 rfl rfl ty3 rfl) rfl ?_
  refine Cov.dq (.fieldAddr 1 rfl fl30_1 ty3.sz rfl) rfl ?_
  refine Cov.dq (.load_own 1 rfl rfl ty3 rfl) rfl ?_
  refine Cov.dq (.move rfl) rfl ?_
  refine Cov.dq (.fieldAddr 2 rfl fl30_2 ty3.sz rfl) rfl ?_
  refine Cov.dq (.load_own 2 rfl rfl ty3 rfl) rfl ?_
  refine Cov.dq (.fieldAddr 2 rfl fl30_2 ty3.sz rfl) rfl ?_
  refine Cov.dq (.load_own 1 rfl rfl ty3 rfl) rfl ?_
  refine Cov.callv [_, _] [] .d1 rfl rfl Try.call28 add_c rfl (fun v4 hv4 => ?_)
  subst hv4
  refine Cov.cls (fun _ h => h) (pick_mem [0, 1, 2] rfl) ?_
  refine Cov.callv [_, _] [] .d1 rfl rfl Try.call28 add_c rfl (fun v5 hv5 => ?_)
  subst hv5
  refine Cov.cls (fun _ h => h) (pick_mem [0, 1, 2] rfl) ?_
  refine Cov.callv [_, _] [] .d1 rfl rfl Try.call28 add_c rfl (fun v6 hv6 => ?_)
  subst hv6
  refine Cov.cls (fun _ h => h) (pick_mem [0, 1, 2] rfl) ?_
  refine Cov.dq (.build [_, _, _] [(0, _), (1, _), (2, _)] ty30 pl30 rfl rfl) rfl ?_
  refine Cov.store 0 [_, _, _] [_, _, _] .d2 rfl rfl rfl ty30 rfl rfl rfl rfl ?_
  refine Cov.draw_end ?_
  refine Cov.prune [(6, _)] ⟨rfl, trivial⟩ ?_
  refine Cov.retv (c := ⟨26, none⟩) [.cell 6 30] [_] rfl Try.func26 Try.results26 ⟨RV.cell_a 0 [_, _, _] rfl rfl ty30 rfl, trivial⟩ (fun _ h => h) ?_
  rfl

theorem sum_c {a1 a2 a3 b1 b2 b3 : Int} {Fs : List Hp} : RetV Try.prog 17 #[.agg #[.int .i64 a1, .int .i64 a2, .int .i64 a3], .agg #[.int .i64 b1, .int .i64 b2, .int .i64 b3]] Fs (fun v => v = .int .i64 (w64 (w64 (w64 (a1 * b1) + w64 (a2 * b2)) + w64 (a3 * b3)))) := by
  refine Ret.of (vs := [_, _]) Try.func17 rfl Try.ntmps17 [(0, _), (1, _)] ⟨rfl, rfl, trivial⟩ rfl fun w0 => ?_
  refine Cov.seq ?_
  refine Cov.region rfl ?_
  refine Cov.box [_, _, _] .ro rfl rfl rfl (fun b1 hb1 => ?_)
  refine Cov.box [_, _, _] .ro rfl rfl rfl (fun b2 hb2 => ?_)
  refine Cov.q .ro (.assign rfl) rfl ?_
  refine Cov.region_end ?_
  refine Cov.seq ?_
  refine Cov.region rfl ?_
  refine Cov.q .ro (.load_own_a 1 [_, _, _] rfl rfl ty30 rfl) rfl ?_
  refine Cov.q .ro (.load_own_a 0 [_, _, _] rfl rfl ty30 rfl) rfl ?_
  refine Cov.callv [_, _, _] [] .ro rfl rfl Try.call26 each_mul rfl (fun v3 hv3 => ?_)
  subst hv3
  refine Cov.alloc .ro ty30 rfl (fun b4 hb4 => ?_)
  refine Cov.store 0 [_, _, _] [_, _, _] .ro rfl rfl rfl ty30 rfl rfl rfl rfl ?_
  refine Cov.region_end ?_
  refine Cov.seq ?_
  refine Cov.region rfl ?_
  refine Cov.q .ro (.fieldAddr 0 rfl fl30_0 ty3.sz rfl) rfl ?_
  refine Cov.q .ro (.load_own 0 rfl rfl ty3 rfl) rfl ?_
  refine Cov.q .ro (.fieldAddr 1 rfl fl30_1 ty3.sz rfl) rfl ?_
  refine Cov.q .ro (.load_own 0 rfl rfl ty3 rfl) rfl ?_
  refine Cov.q .ro (.addw rfl rfl) rfl ?_
  refine Cov.q .ro (.fieldAddr 2 rfl fl30_2 ty3.sz rfl) rfl ?_
  refine Cov.q .ro (.load_own 0 rfl rfl ty3 rfl) rfl ?_
  refine Cov.q .ro (.addw rfl rfl) rfl ?_
  refine Cov.q .ro (.assign rfl) rfl ?_
  refine Cov.region_end ?_
  refine Cov.prune [(4, _)] ⟨rfl, trivial⟩ ?_
  refine Cov.retv (c := ⟨17, none⟩) [.tmp 4] [_] rfl Try.func17 Try.results17 ⟨RV.tmp rfl, trivial⟩ (fun _ h => h) ?_
  rfl

theorem rsum_c {a1 a2 a3 b1 b2 b3 : Int} {Fs : List Hp} : RetV Try.prog 18 #[.agg #[.int .i64 a1, .int .i64 a2, .int .i64 a3], .agg #[.int .i64 b1, .int .i64 b2, .int .i64 b3]] Fs (fun v => v = .int .i64 (w64 (w64 (w64 (a1 * b1) + w64 (a2 * b2)) + w64 (a3 * b3)))) := by
  refine Ret.of (vs := [_, _]) Try.func18 rfl Try.ntmps18 [(0, _), (1, _)] ⟨rfl, rfl, trivial⟩ rfl fun w0 => ?_
  refine Cov.seq ?_
  refine Cov.region rfl ?_
  refine Cov.box [_, _, _] .ro rfl rfl rfl (fun b1 hb1 => ?_)
  refine Cov.box [_, _, _] .ro rfl rfl rfl (fun b2 hb2 => ?_)
  refine Cov.q .ro (.assign rfl) rfl ?_
  refine Cov.region_end ?_
  refine Cov.seq ?_
  refine Cov.region rfl ?_
  refine Cov.q .ro (.fieldAddr 0 rfl fl30_0 ty3.sz rfl) rfl ?_
  refine Cov.q .ro (.load_own 1 rfl rfl ty3 rfl) rfl ?_
  refine Cov.q .ro (.fieldAddr 0 rfl fl30_0 ty3.sz rfl) rfl ?_
  refine Cov.q .ro (.load_own 0 rfl rfl ty3 rfl) rfl ?_
  refine Cov.q .ro (.mulw rfl rfl) rfl ?_
  refine Cov.q .ro (.fieldAddr 1 rfl fl30_1 ty3.sz rfl) rfl ?_
  refine Cov.q .ro (.load_own 1 rfl rfl ty3 rfl) rfl ?_
  refine Cov.q .ro (.fieldAddr 1 rfl fl30_1 ty3.sz rfl) rfl ?_
  refine Cov.q .ro (.load_own 0 rfl rfl ty3 rfl) rfl ?_
  refine Cov.q .ro (.mulw rfl rfl) rfl ?_
  refine Cov.q .ro (.addw rfl rfl) rfl ?_
  refine Cov.q .ro (.fieldAddr 2 rfl fl30_2 ty3.sz rfl) rfl ?_
  refine Cov.q .ro (.load_own 1 rfl rfl ty3 rfl) rfl ?_
  refine Cov.q .ro (.fieldAddr 2 rfl fl30_2 ty3.sz rfl) rfl ?_
  refine Cov.q .ro (.load_own 0 rfl rfl ty3 rfl) rfl ?_
  refine Cov.q .ro (.mulw rfl rfl) rfl ?_
  refine Cov.q .ro (.addw rfl rfl) rfl ?_
  refine Cov.q .ro (.assign rfl) rfl ?_
  refine Cov.region_end ?_
  refine Cov.prune [(4, _)] ⟨rfl, trivial⟩ ?_
  refine Cov.retv (c := ⟨18, none⟩) [.tmp 4] [_] rfl Try.func18 Try.results18 ⟨RV.tmp rfl, trivial⟩ (fun _ h => h) ?_
  rfl

theorem cadd_c {a1 a2 a3 b1 b2 b3 : Int} {Fs : List Hp} : RetV Try.prog 19 #[.agg #[.int .i64 a1, .int .i64 a2, .int .i64 a3], .agg #[.int .i64 b1, .int .i64 b2, .int .i64 b3]] Fs (fun v => v = .agg #[.int .i64 (w64 (a1 + b1)), .int .i64 (w64 (a2 + b2)), .int .i64 (w64 (a3 + b3))]) := by
  refine Ret.of (vs := [_, _]) Try.func19 rfl Try.ntmps19 [(0, _), (1, _)] ⟨rfl, rfl, trivial⟩ rfl fun w0 => ?_
  refine Cov.seq ?_
  refine Cov.region rfl ?_
  refine Cov.box [_, _, _] .ro rfl rfl rfl (fun b1 hb1 => ?_)
  refine Cov.box [_, _, _] .ro rfl rfl rfl (fun b2 hb2 => ?_)
  refine Cov.alloc .ro ty30 rfl (fun b3 hb3 => ?_)
  refine Cov.region_end ?_
  refine Cov.seq ?_
  refine Cov.region rfl ?_
  refine Cov.q .ro (.load_own_a 2 [_, _, _] rfl rfl ty30 rfl) rfl ?_
  refine Cov.q .ro (.load_own_a 1 [_, _, _] rfl rfl ty30 rfl) rfl ?_
  refine Cov.callv [_, _, _] [] .ro rfl rfl Try.call26 each_add rfl (fun v4 hv4 => ?_)
  subst hv4
  refine Cov.store 0 [_, _, _] [_, _, _] .ro rfl rfl rfl ty30 rfl rfl rfl rfl ?_
  refine Cov.region_end ?_
  refine Cov.retv (c := ⟨19, none⟩) [.cell 4 30] [_] rfl Try.func19 Try.results19 ⟨RV.cell_a 0 [_, _, _] rfl rfl ty30 rfl, trivial⟩ (fun _ h => h) ?_
  rfl

theorem rcadd_c {a1 a2 a3 b1 b2 b3 : Int} {Fs : List Hp} : RetV Try.prog 20 #[.agg #[.int .i64 a1, .int .i64 a2, .int .i64 a3], .agg #[.int .i64 b1, .int .i64 b2, .int .i64 b3]] Fs (fun v => v = .agg #[.int .i64 (w64 (a1 + b1)), .int .i64 (w64 (a2 + b2)), .int .i64 (w64 (a3 + b3))]) := by
  refine Ret.of (vs := [_, _]) Try.func20 rfl Try.ntmps20 [(0, _), (1, _)] ⟨rfl, rfl, trivial⟩ rfl fun w0 => ?_
  refine Cov.seq ?_
  refine Cov.region rfl ?_
  refine Cov.box [_, _, _] .ro rfl rfl rfl (fun b1 hb1 => ?_)
  refine Cov.box [_, _, _] .ro rfl rfl rfl (fun b2 hb2 => ?_)
  refine Cov.alloc .ro ty30 rfl (fun b3 hb3 => ?_)
  refine Cov.region_end ?_
  refine Cov.seq ?_
  refine Cov.region rfl ?_
  refine Cov.q .ro (.fieldAddr 0 rfl fl30_0 ty3.sz rfl) rfl ?_
  refine Cov.q .ro (.load_own 2 rfl rfl ty3 rfl) rfl ?_
  refine Cov.q .ro (.fieldAddr 0 rfl fl30_0 ty3.sz rfl) rfl ?_
  refine Cov.q .ro (.load_own 1 rfl rfl ty3 rfl) rfl ?_
  refine Cov.q .ro (.addw rfl rfl) rfl ?_
  refine Cov.q .ro (.fieldAddr 1 rfl fl30_1 ty3.sz rfl) rfl ?_
  refine Cov.q .ro (.load_own 2 rfl rfl ty3 rfl) rfl ?_
  refine Cov.q .ro (.fieldAddr 1 rfl fl30_1 ty3.sz rfl) rfl ?_
  refine Cov.q .ro (.load_own 1 rfl rfl ty3 rfl) rfl ?_
  refine Cov.q .ro (.addw rfl rfl) rfl ?_
  refine Cov.q .ro (.fieldAddr 2 rfl fl30_2 ty3.sz rfl) rfl ?_
  refine Cov.q .ro (.load_own 2 rfl rfl ty3 rfl) rfl ?_
  refine Cov.q .ro (.fieldAddr 2 rfl fl30_2 ty3.sz rfl) rfl ?_
  refine Cov.q .ro (.load_own 1 rfl rfl ty3 rfl) rfl ?_
  refine Cov.q .ro (.addw rfl rfl) rfl ?_
  refine Cov.q .ro (.build [_, _, _] [(0, _), (1, _), (2, _)] ty30 pl30 rfl rfl) rfl ?_
  refine Cov.store 0 [_, _, _] [_, _, _] .ro rfl rfl rfl ty30 rfl rfl rfl rfl ?_
  refine Cov.region_end ?_
  refine Cov.prune [(4, _)] ⟨rfl, trivial⟩ ?_
  refine Cov.retv (c := ⟨20, none⟩) [.cell 4 30] [_] rfl Try.func20 Try.results20 ⟨RV.cell_a 0 [_, _, _] rfl rfl ty30 rfl, trivial⟩ (fun _ h => h) ?_
  rfl

theorem direct_c {a b : Int} {Fs : List Hp} : RetV Try.prog 11 #[.int .i64 a, .int .i64 b] Fs (fun v => v = .agg #[.int .i64 0, .int .i64 (w64 (a * b)), .int .i64 0]) := by
  refine Ret.of (vs := [_, _]) Try.func11 rfl Try.ntmps11 [(0, _), (1, _)] ⟨rfl, rfl, trivial⟩ rfl fun w0 => ?_
  refine Cov.seq ?_
  refine Cov.region rfl ?_
  refine Cov.alloc .ro ty30 rfl (fun b1 hb1 => ?_)
  refine Cov.region_end ?_
  refine Cov.seq ?_
  refine Cov.region rfl ?_
  refine Cov.q .ro (.move rfl) rfl ?_
  refine Cov.q .ro (.move rfl) rfl ?_
  refine Cov.q .ro (.mulw rfl rfl) rfl ?_
  refine Cov.q .ro (.build [_, _, _] [(1, _)] ty30 pl30 rfl rfl) rfl ?_
  refine Cov.store 0 [_, _, _] [_] .ro rfl rfl rfl ty30 rfl rfl rfl rfl ?_
  refine Cov.region_end ?_
  refine Cov.retv (c := ⟨11, none⟩) [.cell 4 30] [_] rfl Try.func11 Try.results11 ⟨RV.cell_a 0 [_, _, _] rfl rfl ty30 rfl, trivial⟩ (fun _ h => h) ?_
  rfl

theorem rdirect_c {a b : Int} {Fs : List Hp} : RetV Try.prog 21 #[.int .i64 a, .int .i64 b] Fs (fun v => v = .agg #[.int .i64 0, .int .i64 (w64 (a * b)), .int .i64 0]) := by
  refine Ret.of (vs := [_, _]) Try.func21 rfl Try.ntmps21 [(0, _), (1, _)] ⟨rfl, rfl, trivial⟩ rfl fun w0 => ?_
  refine Cov.seq ?_
  refine Cov.region rfl ?_
  refine Cov.alloc .ro ty30 rfl (fun b1 hb1 => ?_)
  refine Cov.region_end ?_
  refine Cov.seq ?_
  refine Cov.region rfl ?_
  refine Cov.q .ro (.move rfl) rfl ?_
  refine Cov.q .ro (.move rfl) rfl ?_
  refine Cov.q .ro (.mulw rfl rfl) rfl ?_
  refine Cov.q .ro (.build [_, _, _] [(1, _)] ty30 pl30 rfl rfl) rfl ?_
  refine Cov.store 0 [_, _, _] [_] .ro rfl rfl rfl ty30 rfl rfl rfl rfl ?_
  refine Cov.region_end ?_
  refine Cov.retv (c := ⟨21, none⟩) [.cell 4 30] [_] rfl Try.func21 Try.results21 ⟨RV.cell_a 0 [_, _, _] rfl rfl ty30 rfl, trivial⟩ (fun _ h => h) ?_
  rfl

theorem sane_c {Fs : List Hp} : RetV Try.prog 7 #[] Fs (fun v => v = .bool true) := by
  refine Ret.of (vs := []) Try.func7 rfl Try.ntmps7 [] trivial rfl fun w0 => ?_
  refine Cov.seq ?_
  refine Cov.region rfl ?_
  refine Cov.q .ro (.assign rfl) rfl ?_
  refine Cov.region_end ?_
  refine Cov.seq ?_
  refine Cov.region rfl ?_
  refine Cov.q .ro (.build [_, _, _, _] [(0, _), (1, _)] ty25 pl25 rfl rfl) rfl ?_
  refine Cov.callv [_, _, _, _] [] .ro rfl rfl Try.call10 cof_c rfl (fun v1 hv1 => ?_)
  subst hv1
  refine Cov.q .ro (.move rfl) rfl ?_
  refine Cov.q .ro (.extract rfl rfl) rfl ?_
  refine Cov.q .ro (.extract rfl rfl) rfl ?_
  refine Cov.alloc .ro ty30 rfl (fun b2 hb2 => ?_)
  refine Cov.store 0 [_, _, _] [_] .ro rfl rfl rfl ty30 rfl rfl rfl rfl ?_
  refine Cov.q .ro (.assign rfl) rfl ?_
  refine Cov.region_end ?_
  refine Cov.seq ?_
  refine Cov.region rfl ?_
  refine Cov.q .ro (.move rfl) rfl ?_
  refine Cov.q .ro (.eql rfl rfl) rfl ?_
  refine Cov.q .ro (.move rfl) rfl ?_
  refine Cov.know_t 10 rfl (by decide +kernel) ?_
  refine Cov.g_on rfl ?_
  refine Cov.q .ro (.load_own_a 0 [_, _, _] rfl rfl ty30 rfl) rfl ?_
  refine Cov.g_on rfl ?_
  refine Cov.q .ro (.build [_, _, _] [(0, _), (1, _), (2, _)] ty30 pl30 rfl rfl) rfl ?_
  refine Cov.g_on rfl ?_
  refine Cov.q .ro (.eql_i [_, _, _] [_, _, _] Try.underlying30 (by kernel_rfl) Try.stoodInHeld30 Try.eqGuardType30 rfl rfl rfl rfl) rfl ?_
  refine Cov.q .ro (.pick_t rfl rfl) rfl ?_
  refine Cov.q .ro (.move rfl) rfl ?_
  refine Cov.know_t 15 rfl (by decide +kernel) ?_
  refine Cov.g_on rfl ?_
  refine Cov.q .ro (.load_own_a 0 [_, _, _] rfl rfl ty30 rfl) rfl ?_
  refine Cov.g_on rfl ?_
  refine Cov.q .ro (.build [_, _, _] [(0, _), (1, _)] ty30 pl30 rfl rfl) rfl ?_
  refine Cov.g_on rfl ?_
  refine Cov.callv [_, _] [] .ro rfl rfl Try.call17 sum_c rfl (fun v3 hv3 => ?_)
  subst hv3
  refine Cov.g_on rfl ?_
  refine Cov.q .ro (.eql rfl rfl) rfl ?_
  refine Cov.q .ro (.pick_t rfl rfl) rfl ?_
  refine Cov.q .ro (.move rfl) rfl ?_
  refine Cov.know_t 21 rfl (by decide +kernel) ?_
  refine Cov.g_on rfl ?_
  refine Cov.callv [_, _] [] .ro rfl rfl Try.call11 direct_c rfl (fun v4 hv4 => ?_)
  subst hv4
  refine Cov.g_on rfl ?_
  refine Cov.q .ro (.field rfl fl30_1 ty3 rfl) rfl ?_
  refine Cov.g_on rfl ?_
  refine Cov.q .ro (.eql rfl rfl) rfl ?_
  refine Cov.q .ro (.pick_t rfl rfl) rfl ?_
  refine Cov.q .ro (.assign rfl) rfl ?_
  refine Cov.region_end ?_
  refine Cov.prune [(0, _)] ⟨rfl, trivial⟩ ?_
  refine Cov.retv (c := ⟨7, none⟩) [.tmp 0] [_] rfl Try.func7 Try.results7 ⟨RV.tmp rfl, trivial⟩ (fun _ h => h) ?_
  exact congrArg Value.bool (decide_eq_true (by decide +kernel))

theorem law_direct {G : Hp} {sa : Option Addr} {sn sc : Nat} {l : List Int} {c wd : Int} {Fs : List Hp} (hG : G ∈ Fs) (hs : U8s G (.slice sa sn sc) l) (hr : ∀ x ∈ l, 0 ≤ x ∧ x ≤ 255) (hc : 0 ≤ c ∧ c ≤ 255) (hw : 0 ≤ wd ∧ wd ≤ 255) : RetV Try.prog 3 #[.slice sa sn sc, .int .u8 c, .int .u8 wd] Fs (fun v => v = .bool true) := by
  refine Ret.of (vs := [_, _, _]) Try.func3 rfl Try.ntmps3 [(0, _), (1, _), (2, _)] ⟨rfl, rfl, rfl, trivial⟩ rfl fun w0 => ?_
  refine Cov.seq ?_
  refine Cov.region rfl ?_
  refine Cov.q .ro (.assign rfl) rfl ?_
  refine Cov.region_end ?_
  refine Cov.seq ?_
  refine Cov.seq ?_
  refine Cov.region rfl ?_
  refine Cov.callv [] [] .ro rfl rfl Try.call7 sane_c rfl (fun v1 hv1 => ?_)
  subst hv1
  refine Cov.q .ro (.not_t rfl) rfl ?_
  refine Cov.region_end ?_
  refine Cov.cond_false rfl ?_
  refine Cov.skip ?_
  refine Cov.seq ?_
  refine Cov.region rfl ?_
  refine Cov.q .ro (.move rfl) rfl ?_
  refine Cov.call 0 [_] [] .ro rfl rfl Try.call8 (dnew_c hG hs hr) rfl (fun vD FrD boD soD _ hpD => ?_)
  obtain ⟨bdD, saD, snD, scD, lD, hlD, rfl, rfl, rfl, hdD⟩ := hpD
  refine Cov.less _ (fun _ h => List.mem_cons_of_mem _ h) ?_
  refine Cov.same (bl' := [_]) (sl' := []) rfl rfl rfl ?_
  refine Cov.calll 0 [_] [] .ro rfl rfl Try.call9 rfl (dsch_c hG hdD) rfl (fun v2 ov2 hv2 => ?_)
  obtain ⟨rfl, rfl⟩ := hv2
  refine Cov.same (bl' := [_]) rfl rfl rfl ?_
  refine Cov.alloc .ro ty25 rfl (fun b3 hb3 => ?_)
  refine Cov.store 0 [_, _, _, _] [_, _] .ro rfl rfl rfl ty25 rfl rfl rfl rfl ?_
  refine Cov.region_end ?_
  refine Cov.seq ?_
  refine Cov.region rfl ?_
  refine Cov.q .ro (.move rfl) rfl ?_
  refine Cov.q .ro (.conv Try.underlying5 Try.underlying3 rfl (IntWalk.i64_in _ (by omega))) rfl ?_
  refine Cov.q .ro (.rem rfl rfl (by omega)) rfl ?_
  refine Cov.q .ro (.add rfl rfl (by omega)) rfl ?_
  refine Cov.q .ro (.move rfl) rfl ?_
  refine Cov.q .ro (.conv Try.underlying5 Try.underlying3 rfl (IntWalk.i64_in _ (by omega))) rfl ?_
  refine Cov.q .ro (.rem rfl rfl (by omega)) rfl ?_
  refine Cov.q .ro (.add rfl rfl (by omega)) rfl ?_
  refine Cov.q .ro (.assign rfl) rfl ?_
  refine Cov.q .ro (.assign rfl) rfl ?_
  refine Cov.region_end ?_
  refine Cov.prune [(6, _), (7, _), (8, _), (9, _)] ⟨rfl, rfl, rfl, rfl, trivial⟩ ?_
  refine Cov.seq ?_
  refine Cov.region rfl ?_
  refine Cov.q .ro (.load_own_a 0 [_, _, _, _] rfl rfl ty25 rfl) rfl ?_
  refine Cov.q .ro (.move rfl) rfl ?_
  refine Cov.q .ro (.move rfl) rfl ?_
  refine Cov.q .ro (.move rfl) rfl ?_
  refine Cov.callv [_, _, _, _] [] .ro rfl rfl Try.call10 cof_c rfl (fun v4 hv4 => ?_)
  subst hv4
  refine Cov.q .ro (.move rfl) rfl ?_
  refine Cov.q .ro (.extract rfl rfl) rfl ?_
  refine Cov.q .ro (.extract rfl rfl) rfl ?_
  refine Cov.alloc .ro ty30 rfl (fun b5 hb5 => ?_)
  refine Cov.store 0 [_, _, _] [_, _, _] .ro rfl rfl rfl ty30 rfl rfl rfl rfl ?_
  refine Cov.q .ro (.assign rfl) rfl ?_
  refine Cov.region_end ?_
  refine Cov.seq ?_
  refine Cov.region rfl ?_
  refine Cov.q .ro (.move rfl) rfl ?_
  refine Cov.q .ro (.move rfl) rfl ?_
  refine Cov.callv [_, _] [] .ro rfl rfl Try.call11 direct_c rfl (fun v6 hv6 => ?_)
  subst hv6
  refine Cov.alloc .ro ty30 rfl (fun b7 hb7 => ?_)
  refine Cov.store 0 [_, _, _] [_, _, _, _] .ro rfl rfl rfl ty30 rfl rfl rfl rfl ?_
  refine Cov.region_end ?_
  refine Cov.seq ?_
  refine Cov.region rfl ?_
  refine Cov.q .ro (.move rfl) rfl ?_
  refine Cov.q .ro (.eql rfl rfl) rfl ?_
  refine Cov.q .ro (.move rfl) rfl ?_
  refine Cov.know_t 39 rfl (by rw [costOf_ok (dsch_ok _ _) (by omega) (by omega) (by omega)]) ?_
  refine Cov.g_on rfl ?_
  refine Cov.q .ro (.fieldAddr 0 rfl fl30_0 ty3.sz rfl) rfl ?_
  refine Cov.g_on rfl ?_
  refine Cov.q .ro (.load_own 0 rfl rfl ty3 rfl) rfl ?_
  refine Cov.g_on rfl ?_
  refine Cov.q .ro (.eql rfl rfl) rfl ?_
  refine Cov.q .ro (.pick_t rfl rfl) rfl ?_
  refine Cov.q .ro (.move rfl) rfl ?_
  refine Cov.know_t 44 rfl (rfl) ?_
  refine Cov.g_on rfl ?_
  refine Cov.q .ro (.fieldAddr 2 rfl fl30_2 ty3.sz rfl) rfl ?_
  refine Cov.g_on rfl ?_
  refine Cov.q .ro (.load_own 0 rfl rfl ty3 rfl) rfl ?_
  refine Cov.g_on rfl ?_
  refine Cov.q .ro (.eql rfl rfl) rfl ?_
  refine Cov.q .ro (.pick_t rfl rfl) rfl ?_
  refine Cov.q .ro (.move rfl) rfl ?_
  refine Cov.know_t 49 rfl (rfl) ?_
  refine Cov.g_on rfl ?_
  refine Cov.q .ro (.fieldAddr 1 rfl fl30_1 ty3.sz rfl) rfl ?_
  refine Cov.g_on rfl ?_
  refine Cov.q .ro (.load_own 0 rfl rfl ty3 rfl) rfl ?_
  refine Cov.g_on rfl ?_
  refine Cov.q .ro (.move rfl) rfl ?_
  refine Cov.g_on rfl ?_
  refine Cov.q .ro (.move rfl) rfl ?_
  refine Cov.g_on rfl ?_
  refine Cov.q .ro (.mul rfl rfl (by have hm := mulb (a := 1 + c % 16) (b := 1 + wd % 60) (A := 16) (B := 60) (by omega) (by omega); omega)) rfl ?_
  refine Cov.g_on rfl ?_
  refine Cov.q .ro (.eql rfl rfl) rfl ?_
  refine Cov.q .ro (.pick_t rfl rfl) rfl ?_
  refine Cov.q .ro (.move rfl) rfl ?_
  refine Cov.know_t 57 rfl (by have hm := mulb (a := 1 + c % 16) (b := 1 + wd % 60) (A := 16) (B := 60) (by omega) (by omega); exact IntWalk.i64_in _ (by omega)) ?_
  refine Cov.g_on rfl ?_
  refine Cov.q .ro (.fieldAddr 1 rfl fl30_1 ty3.sz rfl) rfl ?_
  refine Cov.g_on rfl ?_
  refine Cov.q .ro (.load_own 1 rfl rfl ty3 rfl) rfl ?_
  refine Cov.g_on rfl ?_
  refine Cov.q .ro (.fieldAddr 1 rfl fl30_1 ty3.sz rfl) rfl ?_
  refine Cov.g_on rfl ?_
  refine Cov.q .ro (.load_own 0 rfl rfl ty3 rfl) rfl ?_
  refine Cov.g_on rfl ?_
  refine Cov.q .ro (.fieldAddr 1 rfl fl25_1 ty3.sz rfl) rfl ?_
  refine Cov.g_on rfl ?_
  refine Cov.q .ro (.load_own 2 rfl rfl ty3 rfl) rfl ?_
  refine Cov.g_on rfl ?_
  refine Cov.q .ro (.mul rfl rfl (by have hm := mulb (a := 1 + c % 16) (b := 1 + wd % 60) (A := 16) (B := 60) (by omega) (by omega); have hS := dsch_ok lD 0; unfold ShapeP at hS; rw [show w64 ((1 + c % 16) * (1 + wd % 60)) = (1 + c % 16) * (1 + wd % 60) from IntWalk.i64_in _ (by omega)]; have h2 := mulb (a := (1 + c % 16) * (1 + wd % 60)) (b := (dsch lD 0).1.2.1) (A := 960) (B := 10) (by omega) (by omega); omega)) rfl ?_
  refine Cov.g_on rfl ?_
  refine Cov.q .ro (.eql rfl rfl) rfl ?_
  refine Cov.q .ro (.pick_t rfl rfl) rfl ?_
  refine Cov.q .ro (.move rfl) rfl ?_
  refine Cov.know_t 67 rfl (by rw [costOf_ok (dsch_ok _ _) (by omega) (by omega) (by omega)]; have hm := mulb (a := 1 + c % 16) (b := 1 + wd % 60) (A := 16) (B := 60) (by omega) (by omega); rw [show w64 ((1 + c % 16) * (1 + wd % 60)) = (1 + c % 16) * (1 + wd % 60) from IntWalk.i64_in _ (by omega)]; exact Int.mul_right_comm _ _ _) ?_
  refine Cov.g_on rfl ?_
  refine Cov.q .ro (.fieldAddr 0 rfl fl30_0 ty3.sz rfl) rfl ?_
  refine Cov.g_on rfl ?_
  refine Cov.q .ro (.load_own 1 rfl rfl ty3 rfl) rfl ?_
  refine Cov.g_on rfl ?_
  refine Cov.q .ro (.gtr rfl rfl) rfl ?_
  refine Cov.q .ro (.pick_t rfl rfl) rfl ?_
  refine Cov.q .ro (.assign rfl) rfl ?_
  refine Cov.region_end ?_
  refine Cov.prune [(6, _)] ⟨rfl, trivial⟩ ?_
  refine Cov.retv (c := ⟨3, none⟩) [.tmp 6] [_] rfl Try.func3 Try.results3 ⟨RV.tmp rfl, trivial⟩ (fun _ h => h) ?_
  refine congrArg Value.bool (decide_eq_true ?_)
  rw [costOf_ok (dsch_ok _ _) (by omega) (by omega) (by omega)]
  have hU := units_rng (n := 1 + c % 16) (dsch_ok lD 0) (by omega)
  have hS := dsch_ok lD 0
  unfold ShapeP at hS
  exact Int.mul_pos (Int.mul_pos (by omega) (by omega)) (by omega)

theorem units_mono {k s d g n m : Int} (hS : ShapeP k s d g) (hn : 1 ≤ n) (hm : n ≤ m) (hm2 : m ≤ 1024) : unitsI k s d g n ≤ unitsI k s d g m := by
  have h1 : ShapeP k s d g ∧ 1 ≤ n ∧ n ≤ 1024 := ⟨hS, by omega, by omega⟩
  have h2 : ShapeP k s d g ∧ 1 ≤ m ∧ m ≤ 1024 := ⟨hS, by omega, hm2⟩
  unfold unitsI
  rw [if_pos h1, if_pos h2]
  by_cases hk : k = 3
  · have hg : 1 ≤ g ∧ g ≤ 10 := by unfold ShapeP at hS; omega
    rw [if_pos hk, if_pos hk]
    exact Int.ediv_le_ediv (by omega) (by omega)
  · rw [if_neg hk, if_neg hk]
    exact hm
theorem cost_lin {k s d g n w p : Int} (hS : ShapeP k s d g) (hn : 1 ≤ n ∧ n ≤ 1024) (hw : 1 ≤ w ∧ w ≤ 64) (hp : 1 ≤ p ∧ p ≤ 16) :
    costOf k s d g n w p = ((p * (costOf k s d g n w 1).1.1, p * (costOf k s d g n w 1).1.2.1, p * (costOf k s d g n w 1).1.2.2), 0) := by
  rw [costOf_ok hS hn hw hp, costOf_ok hS hn hw (by omega)]
  simp only [Int.one_mul, Int.mul_assoc]
theorem cost1_rng {k s d g n w : Int} (hS : ShapeP k s d g) (hn : 1 ≤ n ∧ n ≤ 1024) (hw : 1 ≤ w ∧ w ≤ 64) :
    (costOf k s d g n w 1).2 = 0 ∧ (1 ≤ (costOf k s d g n w 1).1.1 ∧ (costOf k s d g n w 1).1.1 ≤ 10240) ∧ (1 ≤ (costOf k s d g n w 1).1.2.1 ∧ (costOf k s d g n w 1).1.2.1 ≤ 640) ∧ 1 ≤ (costOf k s d g n w 1).1.2.2 ∧ (costOf k s d g n w 1).1.2.2 ≤ 655360 := by
  have hU := units_rng hS hn
  have hs : 2 ≤ s ∧ s ≤ 10 := by unfold ShapeP at hS; omega
  rw [costOf_ok hS hn hw (by omega)]
  simp only [Int.one_mul]
  have h1 := mulb (a := s) (b := unitsI k s d g n) (A := 10) (B := 1024) (by omega) (by omega)
  have h2 := mulb (a := s) (b := w) (A := 10) (B := 64) (by omega) (by omega)
  have h3 := mulb (a := s * unitsI k s d g n) (b := w) (A := 10240) (B := 64) (by omega) (by omega)
  have p1 := Int.mul_pos (a := s) (b := unitsI k s d g n) (by omega) (by omega)
  have p2 := Int.mul_pos (a := s) (b := w) (by omega) (by omega)
  have p3 := Int.mul_pos (a := s * unitsI k s d g n) (b := w) p1 (by omega)
  exact ⟨trivial, by omega, by omega, by omega, by omega⟩
theorem w64_in {n : Int} (h : -1000000000000 ≤ n ∧ n ≤ 1000000000000) : w64 n = n := IntWalk.i64_in _ (by omega)
/-- One round more of the sum. -/
theorem sum_step {U : Int} (q : Nat) (hU : 1 ≤ U ∧ U ≤ 655360) (hq : q ≤ 4) : w64 ((q : Int) * U + U) = ((q + 1 : Nat) : Int) * U := by
  have h := mulb (a := (q : Int)) (b := U) (A := 4) (B := 655360) (by omega) (by omega)
  rw [w64_in (by omega)]
  rw [Int.natCast_add, Int.add_mul]
  simp
theorem grows_more {k s d g n w e : Int} (hS : ShapeP k s d g) (hn : 1 ≤ n) (he : 0 ≤ e) (hn2 : n + 1 + e ≤ 1024) (hw : 1 ≤ w ∧ w ≤ 63) :
    (costOf k s d g n w 1).1.1 ≤ (costOf k s d g (n + 1 + e) (w + 1) 1).1.1 ∧ (costOf k s d g n w 1).1.2.1 < (costOf k s d g (n + 1 + e) (w + 1) 1).1.2.1 ∧ (costOf k s d g n w 1).1.2.2 < (costOf k s d g (n + 1 + e) (w + 1) 1).1.2.2 := by
  have hs : 2 ≤ s ∧ s ≤ 10 := by unfold ShapeP at hS; omega
  have hU := units_rng hS (n := n) (by omega)
  have hm := units_mono hS hn (m := n + 1 + e) (by omega) hn2
  rw [costOf_ok hS (by omega) (by omega) (by omega), costOf_ok hS (by omega) (by omega) (by omega)]
  simp only [Int.one_mul]
  have a1 : s * unitsI k s d g n ≤ s * unitsI k s d g (n + 1 + e) := Int.mul_le_mul_of_nonneg_left hm (by omega)
  have p1 := Int.mul_pos (a := s) (b := unitsI k s d g n) (by omega) (by omega)
  have a2 : s * unitsI k s d g n * w ≤ s * unitsI k s d g (n + 1 + e) * w := Int.mul_le_mul_of_nonneg_right a1 (by omega)
  refine ⟨a1, ?_, ?_⟩
  · rw [Int.mul_add]; omega
  · rw [Int.mul_add]; omega

theorem law_grows {G : Hp} {sa : Option Addr} {sn sc : Nat} {l : List Int} {c wd : Int} {Fs : List Hp} (hG : G ∈ Fs) (hs : U8s G (.slice sa sn sc) l) (hr : ∀ x ∈ l, 0 ≤ x ∧ x ≤ 255) (hc : 0 ≤ c ∧ c ≤ 255) (hw : 0 ≤ wd ∧ wd ≤ 255) : RetV Try.prog 5 #[.slice sa sn sc, .int .u8 c, .int .u8 wd] Fs (fun v => v = .bool true) := by
  refine Ret.of (vs := [_, _, _]) Try.func5 rfl Try.ntmps5 [(0, _), (1, _), (2, _)] ⟨rfl, rfl, rfl, trivial⟩ rfl fun w0 => ?_
  refine Cov.seq ?_
  refine Cov.region rfl ?_
  refine Cov.q .ro (.assign rfl) rfl ?_
  refine Cov.region_end ?_
  refine Cov.seq ?_
  refine Cov.seq ?_
  refine Cov.region rfl ?_
  refine Cov.callv [] [] .ro rfl rfl Try.call7 sane_c rfl (fun v1 hv1 => ?_)
  subst hv1
  refine Cov.q .ro (.not_t rfl) rfl ?_
  refine Cov.region_end ?_
  refine Cov.cond_false rfl ?_
  refine Cov.skip ?_
  refine Cov.seq ?_
  refine Cov.region rfl ?_
  refine Cov.q .ro (.move rfl) rfl ?_
  refine Cov.call 0 [_] [] .ro rfl rfl Try.call8 (dnew_c hG hs hr) rfl (fun vD FrD boD soD _ hpD => ?_)
  obtain ⟨bdD, saD, snD, scD, lD, hlD, rfl, rfl, rfl, hdD⟩ := hpD
  refine Cov.less _ (fun _ h => List.mem_cons_of_mem _ h) ?_
  refine Cov.same (bl' := [_]) (sl' := []) rfl rfl rfl ?_
  refine Cov.q .ro (.assign rfl) rfl ?_
  refine Cov.region_end ?_
  refine Cov.seq ?_
  refine Cov.region rfl ?_
  refine Cov.q .ro (.move rfl) rfl ?_
  refine Cov.calll 0 [_] [] .ro rfl rfl Try.call9 rfl (dsch_c hG hdD) rfl (fun v2 ov2 hv2 => ?_)
  obtain ⟨rfl, rfl⟩ := hv2
  refine Cov.same (bl' := [_]) rfl rfl rfl ?_
  refine Cov.alloc .ro ty25 rfl (fun b3 hb3 => ?_)
  refine Cov.store 0 [_, _, _, _] [_, _] .ro rfl rfl rfl ty25 rfl rfl rfl rfl ?_
  refine Cov.region_end ?_
  refine Cov.seq ?_
  refine Cov.region rfl ?_
  refine Cov.q .ro (.move rfl) rfl ?_
  refine Cov.q .ro (.conv Try.underlying5 Try.underlying3 rfl (IntWalk.i64_in _ (by omega))) rfl ?_
  refine Cov.q .ro (.add rfl rfl (by omega)) rfl ?_
  refine Cov.q .ro (.move rfl) rfl ?_
  refine Cov.q .ro (.conv Try.underlying5 Try.underlying3 rfl (IntWalk.i64_in _ (by omega))) rfl ?_
  refine Cov.q .ro (.rem rfl rfl (by omega)) rfl ?_
  refine Cov.q .ro (.add rfl rfl (by omega)) rfl ?_
  refine Cov.q .ro (.assign rfl) rfl ?_
  refine Cov.q .ro (.assign rfl) rfl ?_
  refine Cov.region_end ?_
  refine Cov.prune [(6, _), (7, _), (8, _), (9, _), (10, _)] ⟨rfl, rfl, rfl, rfl, rfl, trivial⟩ ?_
  refine Cov.seq ?_
  refine Cov.region rfl ?_
  refine Cov.q .ro (.load_own_a 0 [_, _, _, _] rfl rfl ty25 rfl) rfl ?_
  refine Cov.q .ro (.move rfl) rfl ?_
  refine Cov.q .ro (.move rfl) rfl ?_
  refine Cov.callv [_, _, _, _] [] .ro rfl rfl Try.call10 cof_c rfl (fun v4 hv4 => ?_)
  subst hv4
  refine Cov.q .ro (.move rfl) rfl ?_
  refine Cov.q .ro (.extract rfl rfl) rfl ?_
  refine Cov.q .ro (.extract rfl rfl) rfl ?_
  refine Cov.alloc .ro ty30 rfl (fun b5 hb5 => ?_)
  refine Cov.store 0 [_, _, _] [_, _, _] .ro rfl rfl rfl ty30 rfl rfl rfl rfl ?_
  refine Cov.q .ro (.assign rfl) rfl ?_
  refine Cov.region_end ?_
  refine Cov.seq ?_
  refine Cov.region rfl ?_
  refine Cov.q .ro (.build [_, _, _] [] ty30 pl30 rfl rfl) rfl ?_
  refine Cov.alloc .ro ty30 rfl (fun b6 hb6 => ?_)
  refine Cov.store 0 [_, _, _] [_, _, _, _] .ro rfl rfl rfl ty30 rfl rfl rfl rfl ?_
  refine Cov.region_end ?_
  refine Cov.seq ?_
  refine Cov.seq ?_
  refine Cov.region rfl ?_
  refine Cov.q .ro (.assign rfl) rfl ?_
  refine Cov.region_end ?_
  refine Cov.block ?_
  refine Cov.recell 0 ((fun (q : Nat) => [.int .i64 ((q : Int) * (costOf (dsch lD 0).1.1 (dsch lD 0).1.2.1 (dsch lD 0).1.2.2.1 (dsch lD 0).1.2.2.2 (1 + c) (1 + wd % 60) 1).1.1), .int .i64 ((q : Int) * (costOf (dsch lD 0).1.1 (dsch lD 0).1.2.1 (dsch lD 0).1.2.2.1 (dsch lD 0).1.2.2.2 (1 + c) (1 + wd % 60) 1).1.2.1), .int .i64 ((q : Int) * (costOf (dsch lD 0).1.1 (dsch lD 0).1.2.1 (dsch lD 0).1.2.2.1 (dsch lD 0).1.2.2.2 (1 + c) (1 + wd % 60) 1).1.2.2)]) 0) rfl (by simp) [_, _, _, _] rfl ?_
  refine Cov.loop2 (α := Nat) (fun q => [(14, .int .i64 (1 + (q : Int)))]) [(6, _), (7, _), (8, _), (9, _), (10, _), (11, _), (12, _), (13, _)] (fun q => []) (fun q => [(b6, .cells #[.int .i64 ((q : Int) * (costOf (dsch lD 0).1.1 (dsch lD 0).1.2.1 (dsch lD 0).1.2.2.1 (dsch lD 0).1.2.2.2 (1 + c) (1 + wd % 60) 1).1.1), .int .i64 ((q : Int) * (costOf (dsch lD 0).1.1 (dsch lD 0).1.2.1 (dsch lD 0).1.2.2.1 (dsch lD 0).1.2.2.2 (1 + c) (1 + wd % 60) 1).1.2.1), .int .i64 ((q : Int) * (costOf (dsch lD 0).1.1 (dsch lD 0).1.2.1 (dsch lD 0).1.2.2.1 (dsch lD 0).1.2.2.2 (1 + c) (1 + wd % 60) 1).1.2.2)] 30 (0, 0))]) [_, _, _] (fun q => []) (fun q => q ≤ 4) (fun q => 4 - q) 0 (by omega) ⟨rfl, rfl, rfl, rfl, rfl, rfl, rfl, rfl, rfl, trivial⟩ rfl rfl rfl (fun q hI1 hback1 => ?_)
  refine Cov.prune [(14, _), (6, _), (7, _), (8, _), (9, _), (10, _), (11, _), (12, _), (13, _)] ⟨rfl, rfl, rfl, rfl, rfl, rfl, rfl, rfl, rfl, trivial⟩ ?_
  refine Cov.same (bl' := [_, _, _, _]) rfl rfl rfl ?_
  refine Cov.seq ?_
  refine Cov.seq ?_
  refine Cov.region rfl ?_
  refine Cov.q .ro (.move rfl) rfl ?_
  refine Cov.q .ro (.leq rfl rfl) rfl ?_
  refine Cov.region_end ?_
  refine Cov.cond_dec rfl (fun h7 => ?_) (fun h7 => ?_)
  · refine Cov.skip ?_
    refine Cov.seq ?_
    refine Cov.block ?_
    refine Cov.seq ?_
    refine Cov.region rfl ?_
    refine Cov.q .ro (.load_own_a 0 [_, _, _] rfl rfl ty30 rfl) rfl ?_
    refine Cov.q .ro (.load_own_a 1 [_, _, _] rfl rfl ty30 rfl) rfl ?_
    refine Cov.callv [_, _] [] .ro rfl rfl Try.call19 cadd_c rfl (fun v8 hv8 => ?_)
    subst hv8
    refine Cov.store 0 [_, _, _] [_, _, _, _] .ro rfl rfl rfl ty30 rfl rfl rfl rfl ?_
    refine Cov.region_end ?_
    refine Cov.seq ?_
    refine Cov.region rfl ?_
    refine Cov.q .ro (.load_own_a 2 [_, _, _, _] rfl rfl ty25 rfl) rfl ?_
    refine Cov.q .ro (.move rfl) rfl ?_
    refine Cov.q .ro (.move rfl) rfl ?_
    refine Cov.q .ro (.move rfl) rfl ?_
    refine Cov.callv [_, _, _, _] [] .ro rfl rfl Try.call10 cof_c rfl (fun v9 hv9 => ?_)
    subst hv9
    refine Cov.q .ro (.move rfl) rfl ?_
    refine Cov.q .ro (.extract rfl rfl) rfl ?_
    refine Cov.q .ro (.extract rfl rfl) rfl ?_
    refine Cov.alloc .ro ty30 rfl (fun b10 hb10 => ?_)
    refine Cov.store 0 [_, _, _] [_, _, _, _, _] .ro rfl rfl rfl ty30 rfl rfl rfl rfl ?_
    refine Cov.q .ro (.assign rfl) rfl ?_
    refine Cov.region_end ?_
    refine Cov.seq ?_
    refine Cov.region rfl ?_
    refine Cov.q .ro (.move rfl) rfl ?_
    refine Cov.q .ro (.neq rfl rfl) rfl ?_
    refine Cov.q .ro (.move rfl) rfl ?_
    refine Cov.know_f 57 rfl (by rw [cost_lin (dsch_ok lD 0) (by omega) (by omega) (by omega)]; simp) ?_
    refine Cov.g_on rfl ?_
    refine Cov.q .ro (.load_own_a 0 [_, _, _] rfl rfl ty30 rfl) rfl ?_
    refine Cov.g_on rfl ?_
    refine Cov.q .ro (.load_own_a 1 [_, _, _] rfl rfl ty30 rfl) rfl ?_
    refine Cov.g_on rfl ?_
    refine Cov.q .ro (.neq_i [_, _, _] [_, _, _] Try.underlying30 (by kernel_rfl) Try.stoodInHeld30 Try.eqGuardType30 rfl rfl rfl rfl) rfl ?_
    refine Cov.q .ro (.pick_f rfl rfl) rfl ?_
    refine Cov.region_end ?_
    refine Cov.know_f 61 rfl (by have hR := cost1_rng (n := 1 + c) (w := 1 + wd % 60) (dsch_ok lD 0) (by omega) (by omega); have hq1 := sum_step q (U := (costOf (dsch lD 0).1.1 (dsch lD 0).1.2.1 (dsch lD 0).1.2.2.1 (dsch lD 0).1.2.2.2 (1 + c) (1 + wd % 60) 1).1.1) (by omega) (by omega); have hq2 := sum_step q (U := (costOf (dsch lD 0).1.1 (dsch lD 0).1.2.1 (dsch lD 0).1.2.2.1 (dsch lD 0).1.2.2.2 (1 + c) (1 + wd % 60) 1).1.2.1) (by omega) (by omega); have hq3 := sum_step q (U := (costOf (dsch lD 0).1.1 (dsch lD 0).1.2.1 (dsch lD 0).1.2.2.1 (dsch lD 0).1.2.2.2 (1 + c) (1 + wd % 60) 1).1.2.2) (by omega) (by omega); rw [hq1, hq2, hq3]; intro hne; apply hne; rw [cost_lin (dsch_ok lD 0) (by omega) (by omega) (by omega)]; have e : (1 : Int) + (q : Int) = ((q + 1 : Nat) : Int) := (by omega); simp only [e]) ?_
    refine Cov.cond_false rfl ?_
    refine Cov.skip ?_
    refine Cov.inBlock ?_
    refine Cov.region rfl ?_
    refine Cov.q .ro (.move rfl) rfl ?_
    refine Cov.q .ro (.add rfl rfl (by omega)) rfl ?_
    refine Cov.q .ro (.assign rfl) rfl ?_
    refine Cov.region_end ?_
    have hR := cost1_rng (n := 1 + c) (w := 1 + wd % 60) (dsch_ok lD 0) (by omega) (by omega)
    have hq1 := sum_step q (U := (costOf (dsch lD 0).1.1 (dsch lD 0).1.2.1 (dsch lD 0).1.2.2.1 (dsch lD 0).1.2.2.2 (1 + c) (1 + wd % 60) 1).1.1) (by omega) (by omega)
    have hq2 := sum_step q (U := (costOf (dsch lD 0).1.1 (dsch lD 0).1.2.1 (dsch lD 0).1.2.2.1 (dsch lD 0).1.2.2.2 (1 + c) (1 + wd % 60) 1).1.2.1) (by omega) (by omega)
    have hq3 := sum_step q (U := (costOf (dsch lD 0).1.1 (dsch lD 0).1.2.1 (dsch lD 0).1.2.2.1 (dsch lD 0).1.2.2.2 (1 + c) (1 + wd % 60) 1).1.2.2) (by omega) (by omega)
    rw [hq1, hq2, hq3]
    clear hq1 hq2 hq3 hR
    refine Cov.drop 1 0 [_, _, _, _] _ rfl rfl ?_
    refine Cov.prune _ ?_ (Cov.same rfl rfl rfl (hback1 (q + 1) ?_ ?_))
    · exact ⟨(congrArg (fun x => some (Value.int IntKind.i64 x)) (by omega : (1 + (q : Int)) + 1 = 1 + ((q + 1 : Nat) : Int))), rfl, rfl, rfl, rfl, rfl, rfl, rfl, rfl, trivial⟩
    · omega
    · omega
  · refine Cov.exit rfl ?_
    refine Cov.seq ?_
    refine Cov.draw (.q 0 (.q 1 (.q 2 (.q 3 (.q 6 (.q 7 (.alt (.e 4 1 (.q 5 (.alt (.e 8 1 (.q 9 (.q 10 (.q 11 (.e 12 1 (.e 13 1 (.q 14 .nil))))))) (.e 12 1 (.e 8 1 (.q 9 (.q 10 (.q 11 (.e 13 1 (.q 14 .nil)))))))))) (.e 12 1 (.e 4 1 (.q 5 (.e 8 1 (.q 9 (.q 10 (.q 11 (.e 13 1 (.q 14 .nil)))))))))))))))) _ [_, _, _] (by kernel_rfl) (by kernel_rfl) (fun _ h => h) (pick_mem [0, 1, 2] rfl) ?_
    refine Cov.dq (.load_own_a 2 [_, _, _, _] rfl rfl ty25 rfl) rfl ?_
    refine Cov.dq (.move rfl) rfl ?_
    refine Cov.dq (.add rfl rfl (by omega)) rfl ?_
    refine Cov.dq (.move rfl) rfl ?_
    refine Cov.dq (.move rfl) rfl ?_
    refine Cov.dq (.add rfl rfl (by omega)) rfl ?_
    refine Cov.alt ?_ ?_
    · refine Cov.calll 3 [_, _] [] .d1 rfl rfl Try.call13 rfl (dpick_c hG hdD (by omega)) rfl (fun v11 ov11 hv11 => ?_)
      obtain ⟨rfl, rfl⟩ := hv11
      refine Cov.same (bl' := [_, _, _, _]) rfl rfl rfl ?_
      refine Cov.cls (fun _ h => h) (pick_mem [0, 1, 2] rfl) ?_
      refine Cov.dq (.add rfl rfl (by have hP := pk_rng lD (dsch lD 0).2 (m := 9) (by omega); omega)) rfl ?_
      refine Cov.alt ?_ ?_
      · refine Cov.callv [_, _, _, _] [] .d1 rfl rfl Try.call10 cof_c rfl (fun v12 hv12 => ?_)
        subst hv12
        refine Cov.cls (fun _ h => h) (pick_mem [0, 1, 2] rfl) ?_
        refine Cov.dq (.move rfl) rfl ?_
        refine Cov.dq (.extract rfl rfl) rfl ?_
        refine Cov.dq (.extract rfl rfl) rfl ?_
        refine Cov.alloc .d1 ty30 rfl (fun b13 hb13 => ?_)
        refine Cov.cls (fun _ h => h) (pick_mem [1, 2, 3] rfl) ?_
        refine Cov.store 0 [_, _, _] [_, _, _, _, _] .d1 rfl rfl rfl ty30 rfl rfl rfl rfl ?_
        refine Cov.cls (fun _ h => h) (pick_mem [1, 2, 3] rfl) ?_
        refine Cov.dq (.assign rfl) rfl ?_
        refine Cov.draw_end ?_
        refine Cov.prune [(6, _), (11, _), (12, _), (17, _), (18, _)] ⟨rfl, rfl, rfl, rfl, rfl, trivial⟩ ?_
        refine Cov.seq ?_
        refine Cov.region rfl ?_
        refine Cov.q .ro (.move rfl) rfl ?_
        refine Cov.q .ro (.eql rfl rfl) rfl ?_
        refine Cov.q .ro (.move rfl) rfl ?_
        refine Cov.know_t 76 rfl (by have hR := cost1_rng (n := 1 + c) (w := 1 + wd % 60) (dsch_ok lD 0) (by omega) (by omega); exact hR.1) ?_
        refine Cov.g_on rfl ?_
        refine Cov.q .ro (.move rfl) rfl ?_
        refine Cov.g_on rfl ?_
        refine Cov.q .ro (.eql rfl rfl) rfl ?_
        refine Cov.q .ro (.pick_t rfl rfl) rfl ?_
        refine Cov.q .ro (.move rfl) rfl ?_
        refine Cov.know_t 80 rfl (by have hP := pk_rng lD (dsch lD 0).2 (m := 9) (by omega); exact (cost1_rng (dsch_ok lD 0) (by omega) (by omega)).1) ?_
        refine Cov.g_on rfl ?_
        refine Cov.q .ro (.fieldAddr 0 rfl fl30_0 ty3.sz rfl) rfl ?_
        refine Cov.g_on rfl ?_
        refine Cov.q .ro (.load_own 0 rfl rfl ty3 rfl) rfl ?_
        refine Cov.g_on rfl ?_
        refine Cov.q .ro (.fieldAddr 0 rfl fl30_0 ty3.sz rfl) rfl ?_
        refine Cov.g_on rfl ?_
        refine Cov.q .ro (.load_own 2 rfl rfl ty3 rfl) rfl ?_
        refine Cov.g_on rfl ?_
        refine Cov.q .ro (.geq rfl rfl) rfl ?_
        refine Cov.q .ro (.pick_t rfl rfl) rfl ?_
        refine Cov.q .ro (.move rfl) rfl ?_
        refine Cov.know_t 87 rfl (by have hP := pk_rng lD (dsch lD 0).2 (m := 9) (by omega); have hG2 := grows_more (n := 1 + c) (w := 1 + wd % 60) (e := pk lD (dsch lD 0).2 9) (dsch_ok lD 0) (by omega) (by omega) (by omega) (by omega); exact hG2.1) ?_
        refine Cov.g_on rfl ?_
        refine Cov.q .ro (.fieldAddr 1 rfl fl30_1 ty3.sz rfl) rfl ?_
        refine Cov.g_on rfl ?_
        refine Cov.q .ro (.load_own 0 rfl rfl ty3 rfl) rfl ?_
        refine Cov.g_on rfl ?_
        refine Cov.q .ro (.fieldAddr 1 rfl fl30_1 ty3.sz rfl) rfl ?_
        refine Cov.g_on rfl ?_
        refine Cov.q .ro (.load_own 2 rfl rfl ty3 rfl) rfl ?_
        refine Cov.g_on rfl ?_
        refine Cov.q .ro (.gtr rfl rfl) rfl ?_
        refine Cov.q .ro (.pick_t rfl rfl) rfl ?_
        refine Cov.q .ro (.move rfl) rfl ?_
        refine Cov.know_t 94 rfl (by have hP := pk_rng lD (dsch lD 0).2 (m := 9) (by omega); have hG2 := grows_more (n := 1 + c) (w := 1 + wd % 60) (e := pk lD (dsch lD 0).2 9) (dsch_ok lD 0) (by omega) (by omega) (by omega) (by omega); exact hG2.2.1) ?_
        refine Cov.g_on rfl ?_
        refine Cov.q .ro (.fieldAddr 2 rfl fl30_2 ty3.sz rfl) rfl ?_
        refine Cov.g_on rfl ?_
        refine Cov.q .ro (.load_own 0 rfl rfl ty3 rfl) rfl ?_
        refine Cov.g_on rfl ?_
        refine Cov.q .ro (.fieldAddr 2 rfl fl30_2 ty3.sz rfl) rfl ?_
        refine Cov.g_on rfl ?_
        refine Cov.q .ro (.load_own 2 rfl rfl ty3 rfl) rfl ?_
        refine Cov.g_on rfl ?_
        refine Cov.q .ro (.gtr rfl rfl) rfl ?_
        refine Cov.q .ro (.pick_t rfl rfl) rfl ?_
        refine Cov.q .ro (.assign rfl) rfl ?_
        refine Cov.region_end ?_
        refine Cov.prune [(6, _)] ⟨rfl, trivial⟩ ?_
        refine Cov.retv (c := ⟨5, none⟩) [.tmp 6] [_] rfl Try.func5 Try.results5 ⟨RV.tmp rfl, trivial⟩ (fun _ h => h) ?_
        refine congrArg Value.bool (decide_eq_true ?_)
        have hP := pk_rng lD (dsch lD 0).2 (m := 9) (by omega)
        have hG2 := grows_more (n := 1 + c) (w := 1 + wd % 60) (e := pk lD (dsch lD 0).2 9) (dsch_ok lD 0) (by omega) (by omega) (by omega) (by omega)
        exact hG2.2.2
      · refine Cov.alloc .d1 ty30 rfl (fun b14 hb14 => ?_)
        refine Cov.cls (fun _ h => h) (pick_mem [1, 2, 3] rfl) ?_
        refine Cov.callv [_, _, _, _] [] .d1 rfl rfl Try.call10 cof_c rfl (fun v15 hv15 => ?_)
        subst hv15
        refine Cov.cls (fun _ h => h) (pick_mem [1, 2, 3] rfl) ?_
        refine Cov.dq (.move rfl) rfl ?_
        refine Cov.dq (.extract rfl rfl) rfl ?_
        refine Cov.dq (.extract rfl rfl) rfl ?_
        refine Cov.store 0 [_, _, _] [_, _, _, _, _] .d1 rfl rfl rfl ty30 rfl rfl rfl rfl ?_
        refine Cov.cls (fun _ h => h) (pick_mem [1, 2, 3] rfl) ?_
        refine Cov.dq (.assign rfl) rfl ?_
        refine Cov.draw_end ?_
        refine Cov.prune [(6, _), (11, _), (12, _), (17, _), (18, _)] ⟨rfl, rfl, rfl, rfl, rfl, trivial⟩ ?_
        refine Cov.seq ?_
        refine Cov.region rfl ?_
        refine Cov.q .ro (.move rfl) rfl ?_
        refine Cov.q .ro (.eql rfl rfl) rfl ?_
        refine Cov.q .ro (.move rfl) rfl ?_
        refine Cov.know_t 76 rfl (by have hR := cost1_rng (n := 1 + c) (w := 1 + wd % 60) (dsch_ok lD 0) (by omega) (by omega); exact hR.1) ?_
        refine Cov.g_on rfl ?_
        refine Cov.q .ro (.move rfl) rfl ?_
        refine Cov.g_on rfl ?_
        refine Cov.q .ro (.eql rfl rfl) rfl ?_
        refine Cov.q .ro (.pick_t rfl rfl) rfl ?_
        refine Cov.q .ro (.move rfl) rfl ?_
        refine Cov.know_t 80 rfl (by have hP := pk_rng lD (dsch lD 0).2 (m := 9) (by omega); exact (cost1_rng (dsch_ok lD 0) (by omega) (by omega)).1) ?_
        refine Cov.g_on rfl ?_
        refine Cov.q .ro (.fieldAddr 0 rfl fl30_0 ty3.sz rfl) rfl ?_
        refine Cov.g_on rfl ?_
        refine Cov.q .ro (.load_own 0 rfl rfl ty3 rfl) rfl ?_
        refine Cov.g_on rfl ?_
        refine Cov.q .ro (.fieldAddr 0 rfl fl30_0 ty3.sz rfl) rfl ?_
        refine Cov.g_on rfl ?_
        refine Cov.q .ro (.load_own 2 rfl rfl ty3 rfl) rfl ?_
        refine Cov.g_on rfl ?_
        refine Cov.q .ro (.geq rfl rfl) rfl ?_
        refine Cov.q .ro (.pick_t rfl rfl) rfl ?_
        refine Cov.q .ro (.move rfl) rfl ?_
        refine Cov.know_t 87 rfl (by have hP := pk_rng lD (dsch lD 0).2 (m := 9) (by omega); have hG2 := grows_more (n := 1 + c) (w := 1 + wd % 60) (e := pk lD (dsch lD 0).2 9) (dsch_ok lD 0) (by omega) (by omega) (by omega) (by omega); exact hG2.1) ?_
        refine Cov.g_on rfl ?_
        refine Cov.q .ro (.fieldAddr 1 rfl fl30_1 ty3.sz rfl) rfl ?_
        refine Cov.g_on rfl ?_
        refine Cov.q .ro (.load_own 0 rfl rfl ty3 rfl) rfl ?_
        refine Cov.g_on rfl ?_
        refine Cov.q .ro (.fieldAddr 1 rfl fl30_1 ty3.sz rfl) rfl ?_
        refine Cov.g_on rfl ?_
        refine Cov.q .ro (.load_own 2 rfl rfl ty3 rfl) rfl ?_
        refine Cov.g_on rfl ?_
        refine Cov.q .ro (.gtr rfl rfl) rfl ?_
        refine Cov.q .ro (.pick_t rfl rfl) rfl ?_
        refine Cov.q .ro (.move rfl) rfl ?_
        refine Cov.know_t 94 rfl (by have hP := pk_rng lD (dsch lD 0).2 (m := 9) (by omega); have hG2 := grows_more (n := 1 + c) (w := 1 + wd % 60) (e := pk lD (dsch lD 0).2 9) (dsch_ok lD 0) (by omega) (by omega) (by omega) (by omega); exact hG2.2.1) ?_
        refine Cov.g_on rfl ?_
        refine Cov.q .ro (.fieldAddr 2 rfl fl30_2 ty3.sz rfl) rfl ?_
        refine Cov.g_on rfl ?_
        refine Cov.q .ro (.load_own 0 rfl rfl ty3 rfl) rfl ?_
        refine Cov.g_on rfl ?_
        refine Cov.q .ro (.fieldAddr 2 rfl fl30_2 ty3.sz rfl) rfl ?_
        refine Cov.g_on rfl ?_
        refine Cov.q .ro (.load_own 2 rfl rfl ty3 rfl) rfl ?_
        refine Cov.g_on rfl ?_
        refine Cov.q .ro (.gtr rfl rfl) rfl ?_
        refine Cov.q .ro (.pick_t rfl rfl) rfl ?_
        refine Cov.q .ro (.assign rfl) rfl ?_
        refine Cov.region_end ?_
        refine Cov.prune [(6, _)] ⟨rfl, trivial⟩ ?_
        refine Cov.retv (c := ⟨5, none⟩) [.tmp 6] [_] rfl Try.func5 Try.results5 ⟨RV.tmp rfl, trivial⟩ (fun _ h => h) ?_
        refine congrArg Value.bool (decide_eq_true ?_)
        have hP := pk_rng lD (dsch lD 0).2 (m := 9) (by omega)
        have hG2 := grows_more (n := 1 + c) (w := 1 + wd % 60) (e := pk lD (dsch lD 0).2 9) (dsch_ok lD 0) (by omega) (by omega) (by omega) (by omega)
        exact hG2.2.2
    · refine Cov.alloc .d1 ty30 rfl (fun b16 hb16 => ?_)
      refine Cov.cls (fun _ h => h) (pick_mem [1, 2, 3] rfl) ?_
      refine Cov.calll 4 [_, _] [] .d1 rfl rfl Try.call13 rfl (dpick_c hG hdD (by omega)) rfl (fun v17 ov17 hv17 => ?_)
      obtain ⟨rfl, rfl⟩ := hv17
      refine Cov.same (bl' := [_, _, _, _, _]) rfl rfl rfl ?_
      refine Cov.cls (fun _ h => h) (pick_mem [1, 2, 3] rfl) ?_
      refine Cov.dq (.add rfl rfl (by have hP := pk_rng lD (dsch lD 0).2 (m := 9) (by omega); omega)) rfl ?_
      refine Cov.callv [_, _, _, _] [] .d1 rfl rfl Try.call10 cof_c rfl (fun v18 hv18 => ?_)
      subst hv18
      refine Cov.cls (fun _ h => h) (pick_mem [1, 2, 3] rfl) ?_
      refine Cov.dq (.move rfl) rfl ?_
      refine Cov.dq (.extract rfl rfl) rfl ?_
      refine Cov.dq (.extract rfl rfl) rfl ?_
      refine Cov.store 0 [_, _, _] [_, _, _, _, _] .d1 rfl rfl rfl ty30 rfl rfl rfl rfl ?_
      refine Cov.cls (fun _ h => h) (pick_mem [1, 2, 3] rfl) ?_
      refine Cov.dq (.assign rfl) rfl ?_
      refine Cov.draw_end ?_
      refine Cov.prune [(6, _), (11, _), (12, _), (17, _), (18, _)] ⟨rfl, rfl, rfl, rfl, rfl, trivial⟩ ?_
      refine Cov.seq ?_
      refine Cov.region rfl ?_
      refine Cov.q .ro (.move rfl) rfl ?_
      refine Cov.q .ro (.eql rfl rfl) rfl ?_
      refine Cov.q .ro (.move rfl) rfl ?_
      refine Cov.know_t 76 rfl (by have hR := cost1_rng (n := 1 + c) (w := 1 + wd % 60) (dsch_ok lD 0) (by omega) (by omega); exact hR.1) ?_
      refine Cov.g_on rfl ?_
      refine Cov.q .ro (.move rfl) rfl ?_
      refine Cov.g_on rfl ?_
      refine Cov.q .ro (.eql rfl rfl) rfl ?_
      refine Cov.q .ro (.pick_t rfl rfl) rfl ?_
      refine Cov.q .ro (.move rfl) rfl ?_
      refine Cov.know_t 80 rfl (by have hP := pk_rng lD (dsch lD 0).2 (m := 9) (by omega); exact (cost1_rng (dsch_ok lD 0) (by omega) (by omega)).1) ?_
      refine Cov.g_on rfl ?_
      refine Cov.q .ro (.fieldAddr 0 rfl fl30_0 ty3.sz rfl) rfl ?_
      refine Cov.g_on rfl ?_
      refine Cov.q .ro (.load_own 0 rfl rfl ty3 rfl) rfl ?_
      refine Cov.g_on rfl ?_
      refine Cov.q .ro (.fieldAddr 0 rfl fl30_0 ty3.sz rfl) rfl ?_
      refine Cov.g_on rfl ?_
      refine Cov.q .ro (.load_own 2 rfl rfl ty3 rfl) rfl ?_
      refine Cov.g_on rfl ?_
      refine Cov.q .ro (.geq rfl rfl) rfl ?_
      refine Cov.q .ro (.pick_t rfl rfl) rfl ?_
      refine Cov.q .ro (.move rfl) rfl ?_
      refine Cov.know_t 87 rfl (by have hP := pk_rng lD (dsch lD 0).2 (m := 9) (by omega); have hG2 := grows_more (n := 1 + c) (w := 1 + wd % 60) (e := pk lD (dsch lD 0).2 9) (dsch_ok lD 0) (by omega) (by omega) (by omega) (by omega); exact hG2.1) ?_
      refine Cov.g_on rfl ?_
      refine Cov.q .ro (.fieldAddr 1 rfl fl30_1 ty3.sz rfl) rfl ?_
      refine Cov.g_on rfl ?_
      refine Cov.q .ro (.load_own 0 rfl rfl ty3 rfl) rfl ?_
      refine Cov.g_on rfl ?_
      refine Cov.q .ro (.fieldAddr 1 rfl fl30_1 ty3.sz rfl) rfl ?_
      refine Cov.g_on rfl ?_
      refine Cov.q .ro (.load_own 2 rfl rfl ty3 rfl) rfl ?_
      refine Cov.g_on rfl ?_
      refine Cov.q .ro (.gtr rfl rfl) rfl ?_
      refine Cov.q .ro (.pick_t rfl rfl) rfl ?_
      refine Cov.q .ro (.move rfl) rfl ?_
      refine Cov.know_t 94 rfl (by have hP := pk_rng lD (dsch lD 0).2 (m := 9) (by omega); have hG2 := grows_more (n := 1 + c) (w := 1 + wd % 60) (e := pk lD (dsch lD 0).2 9) (dsch_ok lD 0) (by omega) (by omega) (by omega) (by omega); exact hG2.2.1) ?_
      refine Cov.g_on rfl ?_
      refine Cov.q .ro (.fieldAddr 2 rfl fl30_2 ty3.sz rfl) rfl ?_
      refine Cov.g_on rfl ?_
      refine Cov.q .ro (.load_own 0 rfl rfl ty3 rfl) rfl ?_
      refine Cov.g_on rfl ?_
      refine Cov.q .ro (.fieldAddr 2 rfl fl30_2 ty3.sz rfl) rfl ?_
      refine Cov.g_on rfl ?_
      refine Cov.q .ro (.load_own 2 rfl rfl ty3 rfl) rfl ?_
      refine Cov.g_on rfl ?_
      refine Cov.q .ro (.gtr rfl rfl) rfl ?_
      refine Cov.q .ro (.pick_t rfl rfl) rfl ?_
      refine Cov.q .ro (.assign rfl) rfl ?_
      refine Cov.region_end ?_
      refine Cov.prune [(6, _)] ⟨rfl, trivial⟩ ?_
      refine Cov.retv (c := ⟨5, none⟩) [.tmp 6] [_] rfl Try.func5 Try.results5 ⟨RV.tmp rfl, trivial⟩ (fun _ h => h) ?_
      refine congrArg Value.bool (decide_eq_true ?_)
      have hP := pk_rng lD (dsch lD 0).2 (m := 9) (by omega)
      have hG2 := grows_more (n := 1 + c) (w := 1 + wd % 60) (e := pk lD (dsch lD 0).2 9) (dsch_ok lD 0) (by omega) (by omega) (by omega) (by omega)
      exact hG2.2.2

theorem cost2_rng {k s d g n w p : Int} (hS : ShapeP k s d g) (hn : 1 ≤ n ∧ n ≤ 1024) (hw : 1 ≤ w ∧ w ≤ 64) (hp : 1 ≤ p ∧ p ≤ 2) :
    (costOf k s d g n w p).2 = 0 ∧ (0 ≤ (costOf k s d g n w p).1.1 ∧ (costOf k s d g n w p).1.1 ≤ 2000000) ∧ (0 ≤ (costOf k s d g n w p).1.2.1 ∧ (costOf k s d g n w p).1.2.1 ≤ 2000000) ∧ 0 ≤ (costOf k s d g n w p).1.2.2 ∧ (costOf k s d g n w p).1.2.2 ≤ 2000000 := by
  have h := cost1_rng hS hn hw
  rw [cost_lin hS hn hw (by omega)]
  have h1 := mulb (a := p) (b := (costOf k s d g n w 1).1.1) (A := 2) (B := 10240) (by omega) (by omega)
  have h2 := mulb (a := p) (b := (costOf k s d g n w 1).1.2.1) (A := 2) (B := 640) (by omega) (by omega)
  have h3 := mulb (a := p) (b := (costOf k s d g n w 1).1.2.2) (A := 2) (B := 655360) (by omega) (by omega)
  dsimp only
  exact ⟨rfl, by omega, by omega, by omega, by omega⟩
theorem sum_plain {a1 a2 a3 c1 c2 c3 : Int} (h1 : 0 ≤ a1 ∧ a1 ≤ 4000000) (h2 : 0 ≤ a2 ∧ a2 ≤ 4000000) (h3 : 0 ≤ a3 ∧ a3 ≤ 4000000) (k1 : 0 ≤ c1 ∧ c1 ≤ 255) (k2 : 0 ≤ c2 ∧ c2 ≤ 255) (k3 : 0 ≤ c3 ∧ c3 ≤ 255) :
    w64 (w64 (w64 (a1 * c1) + w64 (a2 * c2)) + w64 (a3 * c3)) = a1 * c1 + a2 * c2 + a3 * c3 ∧ 0 ≤ a1 * c1 + a2 * c2 + a3 * c3 ∧ a1 * c1 + a2 * c2 + a3 * c3 ≤ 3060000000 := by
  have e1 := mulb h1 k1
  have e2 := mulb h2 k2
  have e3 := mulb h3 k3
  rw [w64_in (n := a1 * c1) (by omega), w64_in (n := a2 * c2) (by omega), w64_in (n := a3 * c3) (by omega), w64_in (n := a1 * c1 + a2 * c2) (by omega), w64_in (by omega)]
  exact ⟨rfl, by omega, by omega⟩
theorem sum_add {a1 a2 a3 b1 b2 b3 c1 c2 c3 : Int} (h1 : 0 ≤ a1 ∧ a1 ≤ 2000000) (h2 : 0 ≤ a2 ∧ a2 ≤ 2000000) (h3 : 0 ≤ a3 ∧ a3 ≤ 2000000) (g1 : 0 ≤ b1 ∧ b1 ≤ 2000000) (g2 : 0 ≤ b2 ∧ b2 ≤ 2000000) (g3 : 0 ≤ b3 ∧ b3 ≤ 2000000)
    (k1 : 0 ≤ c1 ∧ c1 ≤ 255) (k2 : 0 ≤ c2 ∧ c2 ≤ 255) (k3 : 0 ≤ c3 ∧ c3 ≤ 255) :
    w64 (w64 (w64 (w64 (a1 + b1) * c1) + w64 (w64 (a2 + b2) * c2)) + w64 (w64 (a3 + b3) * c3)) = w64 (w64 (w64 (a1 * c1) + w64 (a2 * c2)) + w64 (a3 * c3)) + w64 (w64 (w64 (b1 * c1) + w64 (b2 * c2)) + w64 (b3 * c3)) ∧
    0 ≤ w64 (w64 (w64 (a1 * c1) + w64 (a2 * c2)) + w64 (a3 * c3)) + w64 (w64 (w64 (b1 * c1) + w64 (b2 * c2)) + w64 (b3 * c3)) ∧ w64 (w64 (w64 (a1 * c1) + w64 (a2 * c2)) + w64 (a3 * c3)) + w64 (w64 (w64 (b1 * c1) + w64 (b2 * c2)) + w64 (b3 * c3)) ≤ 6120000000 := by
  rw [w64_in (n := a1 + b1) (by omega), w64_in (n := a2 + b2) (by omega), w64_in (n := a3 + b3) (by omega)]
  have p1 := sum_plain (a1 := a1) (a2 := a2) (a3 := a3) (by omega) (by omega) (by omega) k1 k2 k3
  have p2 := sum_plain (a1 := b1) (a2 := b2) (a3 := b3) (by omega) (by omega) (by omega) k1 k2 k3
  have p3 := sum_plain (a1 := a1 + b1) (a2 := a2 + b2) (a3 := a3 + b3) (by omega) (by omega) (by omega) k1 k2 k3
  rw [p1.1, p2.1, p3.1]
  refine ⟨?_, by omega, by omega⟩
  rw [Int.add_mul, Int.add_mul, Int.add_mul]; omega

theorem law_weighs {G : Hp} {sa : Option Addr} {sn sc : Nat} {l : List Int} {c1 c2 c3 : Int} {Fs : List Hp} (hG : G ∈ Fs) (hs : U8s G (.slice sa sn sc) l) (hr : ∀ x ∈ l, 0 ≤ x ∧ x ≤ 255) (h1 : 0 ≤ c1 ∧ c1 ≤ 255) (h2 : 0 ≤ c2 ∧ c2 ≤ 255) (h3 : 0 ≤ c3 ∧ c3 ≤ 255) : RetV Try.prog 6 #[.slice sa sn sc, .int .u8 c1, .int .u8 c2, .int .u8 c3] Fs (fun v => v = .bool true) := by
  refine Ret.of (vs := [_, _, _, _]) Try.func6 rfl Try.ntmps6 [(0, _), (1, _), (2, _), (3, _)] ⟨rfl, rfl, rfl, rfl, trivial⟩ rfl fun w0 => ?_
  refine Cov.seq ?_
  refine Cov.region rfl ?_
  refine Cov.q .ro (.assign rfl) rfl ?_
  refine Cov.region_end ?_
  refine Cov.seq ?_
  refine Cov.seq ?_
  refine Cov.region rfl ?_
  refine Cov.callv [] [] .ro rfl rfl Try.call7 sane_c rfl (fun v1 hv1 => ?_)
  subst hv1
  refine Cov.q .ro (.not_t rfl) rfl ?_
  refine Cov.region_end ?_
  refine Cov.cond_false rfl ?_
  refine Cov.skip ?_
  refine Cov.seq ?_
  refine Cov.region rfl ?_
  refine Cov.q .ro (.move rfl) rfl ?_
  refine Cov.call 0 [_] [] .ro rfl rfl Try.call8 (dnew_c hG hs hr) rfl (fun vD FrD boD soD _ hpD => ?_)
  obtain ⟨bdD, saD, snD, scD, lD, hlD, rfl, rfl, rfl, hdD⟩ := hpD
  refine Cov.less _ (fun _ h => List.mem_cons_of_mem _ h) ?_
  refine Cov.same (bl' := [_]) (sl' := []) rfl rfl rfl ?_
  refine Cov.q .ro (.assign rfl) rfl ?_
  refine Cov.region_end ?_
  refine Cov.seq ?_
  refine Cov.region rfl ?_
  refine Cov.q .ro (.move rfl) rfl ?_
  refine Cov.q .ro (.conv Try.underlying5 Try.underlying3 rfl (IntWalk.i64_in _ (by omega))) rfl ?_
  refine Cov.q .ro (.move rfl) rfl ?_
  refine Cov.q .ro (.conv Try.underlying5 Try.underlying3 rfl (IntWalk.i64_in _ (by omega))) rfl ?_
  refine Cov.q .ro (.move rfl) rfl ?_
  refine Cov.q .ro (.conv Try.underlying5 Try.underlying3 rfl (IntWalk.i64_in _ (by omega))) rfl ?_
  refine Cov.q .ro (.build [_, _, _] [(0, _), (1, _), (2, _)] ty30 pl30 rfl rfl) rfl ?_
  refine Cov.alloc .ro ty30 rfl (fun b2 hb2 => ?_)
  refine Cov.store 0 [_, _, _] [_, _] .ro rfl rfl rfl ty30 rfl rfl rfl rfl ?_
  refine Cov.region_end ?_
  refine Cov.prune [(8, _), (9, _), (10, _)] ⟨rfl, rfl, rfl, trivial⟩ ?_
  refine Cov.seq ?_
  refine Cov.region rfl ?_
  refine Cov.q .ro (.move rfl) rfl ?_
  refine Cov.calll 1 [_] [] .ro rfl rfl Try.call9 rfl (dsch_c hG hdD) rfl (fun v3 ov3 hv3 => ?_)
  obtain ⟨rfl, rfl⟩ := hv3
  refine Cov.same (bl' := [_, _]) rfl rfl rfl ?_
  refine Cov.q .ro (.move rfl) rfl ?_
  refine Cov.calll 1 [_, _] [] .ro rfl rfl Try.call13 rfl (dpick_c hG hdD (by omega)) rfl (fun v4 ov4 hv4 => ?_)
  obtain ⟨rfl, rfl⟩ := hv4
  refine Cov.same (bl' := [_, _]) rfl rfl rfl ?_
  refine Cov.q .ro (.add rfl rfl (by have hp0 := pk_rng lD (dsch lD 0).2 (m := 9) (by omega); have hp1 := pk_rng lD (nx lD (dsch lD 0).2) (m := 5) (by omega); have hp2 := pk_rng lD (dsch lD (nx lD (nx lD (dsch lD 0).2))).2 (m := 9) (by omega); have hp3 := pk_rng lD (nx lD (dsch lD (nx lD (nx lD (dsch lD 0).2))).2) (m := 5) (by omega); have hp4 := pk_rng lD (nx lD (nx lD (dsch lD (nx lD (nx lD (dsch lD 0).2))).2)) (m := 60) (by omega); omega)) rfl ?_
  refine Cov.q .ro (.move rfl) rfl ?_
  refine Cov.calll 1 [_, _] [] .ro rfl rfl Try.call13 rfl (dpick_c hG hdD (by omega)) rfl (fun v5 ov5 hv5 => ?_)
  obtain ⟨rfl, rfl⟩ := hv5
  refine Cov.same (bl' := [_, _]) rfl rfl rfl ?_
  refine Cov.q .ro (.add rfl rfl (by have hp0 := pk_rng lD (dsch lD 0).2 (m := 9) (by omega); have hp1 := pk_rng lD (nx lD (dsch lD 0).2) (m := 5) (by omega); have hp2 := pk_rng lD (dsch lD (nx lD (nx lD (dsch lD 0).2))).2 (m := 9) (by omega); have hp3 := pk_rng lD (nx lD (dsch lD (nx lD (nx lD (dsch lD 0).2))).2) (m := 5) (by omega); have hp4 := pk_rng lD (nx lD (nx lD (dsch lD (nx lD (nx lD (dsch lD 0).2))).2)) (m := 60) (by omega); omega)) rfl ?_
  refine Cov.callv [_, _, _, _] [] .ro rfl rfl Try.call10 cof_c rfl (fun v6 hv6 => ?_)
  subst hv6
  refine Cov.q .ro (.move rfl) rfl ?_
  refine Cov.q .ro (.extract rfl rfl) rfl ?_
  refine Cov.q .ro (.extract rfl rfl) rfl ?_
  refine Cov.alloc .ro ty30 rfl (fun b7 hb7 => ?_)
  refine Cov.store 0 [_, _, _] [_, _, _] .ro rfl rfl rfl ty30 rfl rfl rfl rfl ?_
  refine Cov.q .ro (.assign rfl) rfl ?_
  refine Cov.region_end ?_
  refine Cov.seq ?_
  refine Cov.region rfl ?_
  refine Cov.q .ro (.move rfl) rfl ?_
  refine Cov.calll 2 [_] [] .ro rfl rfl Try.call9 rfl (dsch_c hG hdD) rfl (fun v8 ov8 hv8 => ?_)
  obtain ⟨rfl, rfl⟩ := hv8
  refine Cov.same (bl' := [_, _, _]) rfl rfl rfl ?_
  refine Cov.q .ro (.move rfl) rfl ?_
  refine Cov.calll 2 [_, _] [] .ro rfl rfl Try.call13 rfl (dpick_c hG hdD (by omega)) rfl (fun v9 ov9 hv9 => ?_)
  obtain ⟨rfl, rfl⟩ := hv9
  refine Cov.same (bl' := [_, _, _]) rfl rfl rfl ?_
  refine Cov.q .ro (.add rfl rfl (by have hp0 := pk_rng lD (dsch lD 0).2 (m := 9) (by omega); have hp1 := pk_rng lD (nx lD (dsch lD 0).2) (m := 5) (by omega); have hp2 := pk_rng lD (dsch lD (nx lD (nx lD (dsch lD 0).2))).2 (m := 9) (by omega); have hp3 := pk_rng lD (nx lD (dsch lD (nx lD (nx lD (dsch lD 0).2))).2) (m := 5) (by omega); have hp4 := pk_rng lD (nx lD (nx lD (dsch lD (nx lD (nx lD (dsch lD 0).2))).2)) (m := 60) (by omega); omega)) rfl ?_
  refine Cov.q .ro (.move rfl) rfl ?_
  refine Cov.calll 2 [_, _] [] .ro rfl rfl Try.call13 rfl (dpick_c hG hdD (by omega)) rfl (fun v10 ov10 hv10 => ?_)
  obtain ⟨rfl, rfl⟩ := hv10
  refine Cov.same (bl' := [_, _, _]) rfl rfl rfl ?_
  refine Cov.q .ro (.add rfl rfl (by have hp0 := pk_rng lD (dsch lD 0).2 (m := 9) (by omega); have hp1 := pk_rng lD (nx lD (dsch lD 0).2) (m := 5) (by omega); have hp2 := pk_rng lD (dsch lD (nx lD (nx lD (dsch lD 0).2))).2 (m := 9) (by omega); have hp3 := pk_rng lD (nx lD (dsch lD (nx lD (nx lD (dsch lD 0).2))).2) (m := 5) (by omega); have hp4 := pk_rng lD (nx lD (nx lD (dsch lD (nx lD (nx lD (dsch lD 0).2))).2)) (m := 60) (by omega); omega)) rfl ?_
  refine Cov.callv [_, _, _, _] [] .ro rfl rfl Try.call10 cof_c rfl (fun v11 hv11 => ?_)
  subst hv11
  refine Cov.q .ro (.move rfl) rfl ?_
  refine Cov.q .ro (.extract rfl rfl) rfl ?_
  refine Cov.q .ro (.extract rfl rfl) rfl ?_
  refine Cov.alloc .ro ty30 rfl (fun b12 hb12 => ?_)
  refine Cov.store 0 [_, _, _] [_, _, _, _] .ro rfl rfl rfl ty30 rfl rfl rfl rfl ?_
  refine Cov.q .ro (.assign rfl) rfl ?_
  refine Cov.region_end ?_
  refine Cov.prune [(8, _), (9, _), (10, _), (11, _), (12, _), (13, _), (14, _)] ⟨rfl, rfl, rfl, rfl, rfl, rfl, rfl, trivial⟩ ?_
  refine Cov.seq ?_
  refine Cov.region rfl ?_
  refine Cov.q .ro (.move rfl) rfl ?_
  refine Cov.calll 3 [_, _] [] .ro rfl rfl Try.call13 rfl (dpick_c hG hdD (by omega)) rfl (fun v13 ov13 hv13 => ?_)
  obtain ⟨rfl, rfl⟩ := hv13
  refine Cov.same (bl' := [_, _, _, _]) rfl rfl rfl ?_
  refine Cov.q .ro (.add rfl rfl (by have hp0 := pk_rng lD (dsch lD 0).2 (m := 9) (by omega); have hp1 := pk_rng lD (nx lD (dsch lD 0).2) (m := 5) (by omega); have hp2 := pk_rng lD (dsch lD (nx lD (nx lD (dsch lD 0).2))).2 (m := 9) (by omega); have hp3 := pk_rng lD (nx lD (dsch lD (nx lD (nx lD (dsch lD 0).2))).2) (m := 5) (by omega); have hp4 := pk_rng lD (nx lD (nx lD (dsch lD (nx lD (nx lD (dsch lD 0).2))).2)) (m := 60) (by omega); omega)) rfl ?_
  refine Cov.q .ro (.assign rfl) rfl ?_
  refine Cov.region_end ?_
  refine Cov.seq ?_
  refine Cov.region rfl ?_
  refine Cov.q .ro (.build [_, _, _, _] [(0, _), (1, _), (2, _), (3, _)] ty25 pl25 rfl rfl) rfl ?_
  refine Cov.q .ro (.move rfl) rfl ?_
  refine Cov.callv [_, _] [] .ro rfl rfl Try.call14 cunits_c rfl (fun v14 hv14 => ?_)
  subst hv14
  refine Cov.q .ro (.move rfl) rfl ?_
  refine Cov.q .ro (.extract rfl rfl) rfl ?_
  refine Cov.q .ro (.extract rfl rfl) rfl ?_
  refine Cov.q .ro (.assign rfl) rfl ?_
  refine Cov.q .ro (.assign rfl) rfl ?_
  refine Cov.region_end ?_
  refine Cov.seq ?_
  refine Cov.region rfl ?_
  refine Cov.q .ro (.build [_, _, _, _] [(0, _), (1, _), (2, _)] ty25 pl25 rfl rfl) rfl ?_
  refine Cov.q .ro (.move rfl) rfl ?_
  refine Cov.callv [_, _] [] .ro rfl rfl Try.call14 cunits_c rfl (fun v15 hv15 => ?_)
  subst hv15
  refine Cov.q .ro (.move rfl) rfl ?_
  refine Cov.q .ro (.extract rfl rfl) rfl ?_
  refine Cov.q .ro (.extract rfl rfl) rfl ?_
  refine Cov.q .ro (.assign rfl) rfl ?_
  refine Cov.q .ro (.assign rfl) rfl ?_
  refine Cov.region_end ?_
  refine Cov.prune [(8, _), (10, _), (11, _), (12, _), (13, _), (14, _), (15, _), (16, _), (17, _), (18, _), (19, _)] ⟨rfl, rfl, rfl, rfl, rfl, rfl, rfl, rfl, rfl, rfl, rfl, trivial⟩ ?_
  refine Cov.seq ?_
  refine Cov.draw (.q 0 (.q 1 (.q 2 (.q 3 (.q 4 (.q 5 (.q 6 (.q 7 (.q 8 (.q 9 (.q 10 (.q 11 (.q 12 (.q 13 (.q 14 (.q 15 (.q 16 (.q 18 (.q 20 (.q 21 (.q 23 (.q 24 (.e 17 1 (.e 19 1 (.e 22 1 (.e 25 1 (.q 26 (.q 27 (.q 28 (.q 29 (.q 30 (.q 31 (.q 32 (.q 33 (.q 34 (.q 35 (.q 36 (.q 37 (.q 38 (.q 39 (.q 40 (.q 41 (.q 42 (.e 43 1 (.q 44 (.q 45 .nil)))))))))))))))))))))))))))))))))))))))))))))) _ [_, _, _, _] (by kernel_rfl) (by kernel_rfl) (fun _ h => h) (pick_mem [0, 1, 2, 3] rfl) ?_
  refine Cov.dq (.move rfl) rfl ?_
  refine Cov.dq (.eql rfl rfl) rfl ?_
  refine Cov.dq (.move rfl) rfl ?_
  refine Cov.know_t 72 rfl (by have hp0 := pk_rng lD (dsch lD 0).2 (m := 9) (by omega); have hp1 := pk_rng lD (nx lD (dsch lD 0).2) (m := 5) (by omega); have hp2 := pk_rng lD (dsch lD (nx lD (nx lD (dsch lD 0).2))).2 (m := 9) (by omega); have hp3 := pk_rng lD (nx lD (dsch lD (nx lD (nx lD (dsch lD 0).2))).2) (m := 5) (by omega); have hp4 := pk_rng lD (nx lD (nx lD (dsch lD (nx lD (nx lD (dsch lD 0).2))).2)) (m := 60) (by omega); have hA := cost2_rng (n := 1 + pk lD (dsch lD 0).2 9) (w := 1 + pk lD (nx lD (dsch lD 0).2) 5) (p := 1) (dsch_ok lD 0) (by omega) (by omega) (by omega); exact hA.1) ?_
  refine Cov.dgq_on rfl ?_
  refine Cov.dq (.move rfl) rfl ?_
  refine Cov.dgq_on rfl ?_
  refine Cov.dq (.eql rfl rfl) rfl ?_
  refine Cov.dq (.pick_t rfl rfl) rfl ?_
  refine Cov.dq (.move rfl) rfl ?_
  refine Cov.know_t 76 rfl (by have hp0 := pk_rng lD (dsch lD 0).2 (m := 9) (by omega); have hp1 := pk_rng lD (nx lD (dsch lD 0).2) (m := 5) (by omega); have hp2 := pk_rng lD (dsch lD (nx lD (nx lD (dsch lD 0).2))).2 (m := 9) (by omega); have hp3 := pk_rng lD (nx lD (dsch lD (nx lD (nx lD (dsch lD 0).2))).2) (m := 5) (by omega); have hp4 := pk_rng lD (nx lD (nx lD (dsch lD (nx lD (nx lD (dsch lD 0).2))).2)) (m := 60) (by omega); have hB := cost2_rng (n := 1 + pk lD (dsch lD (nx lD (nx lD (dsch lD 0).2))).2 9) (w := 1 + pk lD (nx lD (dsch lD (nx lD (nx lD (dsch lD 0).2))).2) 5) (p := 2) (dsch_ok lD (nx lD (nx lD (dsch lD 0).2))) (by omega) (by omega) (by omega); exact hB.1) ?_
  refine Cov.dgq_on rfl ?_
  refine Cov.dq (.move rfl) rfl ?_
  refine Cov.dgq_on rfl ?_
  refine Cov.dq (.eql rfl rfl) rfl ?_
  refine Cov.dq (.pick_t rfl rfl) rfl ?_
  refine Cov.dq (.move rfl) rfl ?_
  refine Cov.know_t 80 rfl (by have hp0 := pk_rng lD (dsch lD 0).2 (m := 9) (by omega); have hp1 := pk_rng lD (nx lD (dsch lD 0).2) (m := 5) (by omega); have hp2 := pk_rng lD (dsch lD (nx lD (nx lD (dsch lD 0).2))).2 (m := 9) (by omega); have hp3 := pk_rng lD (nx lD (dsch lD (nx lD (nx lD (dsch lD 0).2))).2) (m := 5) (by omega); have hp4 := pk_rng lD (nx lD (nx lD (dsch lD (nx lD (nx lD (dsch lD 0).2))).2)) (m := 60) (by omega); unfold cunits; rw [if_neg (by decide), if_neg (by omega)]) ?_
  refine Cov.dgq_on rfl ?_
  refine Cov.dq (.move rfl) rfl ?_
  refine Cov.dgq_on rfl ?_
  refine Cov.dq (.eql rfl rfl) rfl ?_
  refine Cov.dq (.pick_t rfl rfl) rfl ?_
  refine Cov.dq (.move rfl) rfl ?_
  refine Cov.know_t 84 rfl (by have hp0 := pk_rng lD (dsch lD 0).2 (m := 9) (by omega); have hp1 := pk_rng lD (nx lD (dsch lD 0).2) (m := 5) (by omega); have hp2 := pk_rng lD (dsch lD (nx lD (nx lD (dsch lD 0).2))).2 (m := 9) (by omega); have hp3 := pk_rng lD (nx lD (dsch lD (nx lD (nx lD (dsch lD 0).2))).2) (m := 5) (by omega); have hp4 := pk_rng lD (nx lD (nx lD (dsch lD (nx lD (nx lD (dsch lD 0).2))).2)) (m := 60) (by omega); unfold cunits; rw [if_neg (by decide), if_neg (by omega)]) ?_
  refine Cov.dgq_on rfl ?_
  refine Cov.dq (.load_own_a 1 [_, _, _] rfl rfl ty30 rfl) rfl ?_
  refine Cov.dgq_on rfl ?_
  refine Cov.dq (.load_own_a 0 [_, _, _] rfl rfl ty30 rfl) rfl ?_
  refine Cov.dgq_on rfl ?_
  refine Cov.dq (.load_own_a 2 [_, _, _] rfl rfl ty30 rfl) rfl ?_
  refine Cov.dgq_on rfl ?_
  refine Cov.dq (.load_own_a 1 [_, _, _] rfl rfl ty30 rfl) rfl ?_
  refine Cov.dgq_on rfl ?_
  refine Cov.dq (.load_own_a 2 [_, _, _] rfl rfl ty30 rfl) rfl ?_
  refine Cov.dgq_on rfl ?_
  refine Cov.dq (.load_own_a 0 [_, _, _] rfl rfl ty30 rfl) rfl ?_
  refine Cov.dgq_on rfl ?_
  refine Cov.dq (.load_own_a 2 [_, _, _] rfl rfl ty30 rfl) rfl ?_
  refine Cov.dge_on rfl ?_
  refine Cov.callv [_, _] [] .d1 rfl rfl Try.call19 cadd_c rfl (fun v16 hv16 => ?_)
  subst hv16
  refine Cov.cls (fun _ h => h) (pick_mem [0, 1, 2, 3] rfl) ?_
  refine Cov.dge_on rfl ?_
  refine Cov.callv [_, _] [] .d1 rfl rfl Try.call17 sum_c rfl (fun v17 hv17 => ?_)
  subst hv17
  refine Cov.cls (fun _ h => h) (pick_mem [0, 1, 2, 3] rfl) ?_
  refine Cov.dge_on rfl ?_
  refine Cov.callv [_, _] [] .d1 rfl rfl Try.call17 sum_c rfl (fun v18 hv18 => ?_)
  subst hv18
  refine Cov.cls (fun _ h => h) (pick_mem [0, 1, 2, 3] rfl) ?_
  refine Cov.dge_on rfl ?_
  refine Cov.callv [_, _] [] .d1 rfl rfl Try.call17 sum_c rfl (fun v19 hv19 => ?_)
  subst hv19
  refine Cov.cls (fun _ h => h) (pick_mem [0, 1, 2, 3] rfl) ?_
  refine Cov.dgq_on rfl ?_
  refine Cov.dq (.add rfl rfl (by have hp0 := pk_rng lD (dsch lD 0).2 (m := 9) (by omega); have hp1 := pk_rng lD (nx lD (dsch lD 0).2) (m := 5) (by omega); have hp2 := pk_rng lD (dsch lD (nx lD (nx lD (dsch lD 0).2))).2 (m := 9) (by omega); have hp3 := pk_rng lD (nx lD (dsch lD (nx lD (nx lD (dsch lD 0).2))).2) (m := 5) (by omega); have hp4 := pk_rng lD (nx lD (nx lD (dsch lD (nx lD (nx lD (dsch lD 0).2))).2)) (m := 60) (by omega); have hA := cost2_rng (n := 1 + pk lD (dsch lD 0).2 9) (w := 1 + pk lD (nx lD (dsch lD 0).2) 5) (p := 1) (dsch_ok lD 0) (by omega) (by omega) (by omega); have hB := cost2_rng (n := 1 + pk lD (dsch lD (nx lD (nx lD (dsch lD 0).2))).2 9) (w := 1 + pk lD (nx lD (dsch lD (nx lD (nx lD (dsch lD 0).2))).2) 5) (p := 2) (dsch_ok lD (nx lD (nx lD (dsch lD 0).2))) (by omega) (by omega) (by omega); have hs := sum_add hA.2.1 hA.2.2.1 hA.2.2.2 hB.2.1 hB.2.2.1 hB.2.2.2 h1 h2 h3; omega)) rfl ?_
  refine Cov.dgq_on rfl ?_
  refine Cov.dq (.eql rfl rfl) rfl ?_
  refine Cov.dq (.pick_t rfl rfl) rfl ?_
  refine Cov.dq (.move rfl) rfl ?_
  refine Cov.know_t 99 rfl (by have hp0 := pk_rng lD (dsch lD 0).2 (m := 9) (by omega); have hp1 := pk_rng lD (nx lD (dsch lD 0).2) (m := 5) (by omega); have hp2 := pk_rng lD (dsch lD (nx lD (nx lD (dsch lD 0).2))).2 (m := 9) (by omega); have hp3 := pk_rng lD (nx lD (dsch lD (nx lD (nx lD (dsch lD 0).2))).2) (m := 5) (by omega); have hp4 := pk_rng lD (nx lD (nx lD (dsch lD (nx lD (nx lD (dsch lD 0).2))).2)) (m := 60) (by omega); have hA := cost2_rng (n := 1 + pk lD (dsch lD 0).2 9) (w := 1 + pk lD (nx lD (dsch lD 0).2) 5) (p := 1) (dsch_ok lD 0) (by omega) (by omega) (by omega); have hB := cost2_rng (n := 1 + pk lD (dsch lD (nx lD (nx lD (dsch lD 0).2))).2 9) (w := 1 + pk lD (nx lD (dsch lD (nx lD (nx lD (dsch lD 0).2))).2) 5) (p := 2) (dsch_ok lD (nx lD (nx lD (dsch lD 0).2))) (by omega) (by omega) (by omega); have hs := sum_add hA.2.1 hA.2.2.1 hA.2.2.2 hB.2.1 hB.2.2.1 hB.2.2.2 h1 h2 h3; exact hs.1) ?_
  refine Cov.dgq_on rfl ?_
  refine Cov.dq (.move rfl) rfl ?_
  refine Cov.dgq_on rfl ?_
  refine Cov.dq (.move rfl) rfl ?_
  refine Cov.dgq_on rfl ?_
  refine Cov.dq (.eql rfl rfl) rfl ?_
  refine Cov.dq (.pick_t rfl rfl) rfl ?_
  refine Cov.dq (.move rfl) rfl ?_
  refine Cov.know_t 104 rfl (by have hp0 := pk_rng lD (dsch lD 0).2 (m := 9) (by omega); have hp1 := pk_rng lD (nx lD (dsch lD 0).2) (m := 5) (by omega); have hp2 := pk_rng lD (dsch lD (nx lD (nx lD (dsch lD 0).2))).2 (m := 9) (by omega); have hp3 := pk_rng lD (nx lD (dsch lD (nx lD (nx lD (dsch lD 0).2))).2) (m := 5) (by omega); have hp4 := pk_rng lD (nx lD (nx lD (dsch lD (nx lD (nx lD (dsch lD 0).2))).2)) (m := 60) (by omega); unfold cunits unitsI; rw [if_neg (by decide), if_neg (by omega), if_pos ⟨by decide, by omega⟩, if_neg (by decide)]) ?_
  refine Cov.dgq_on rfl ?_
  refine Cov.dq (.move rfl) rfl ?_
  refine Cov.dgq_on rfl ?_
  refine Cov.dq (.move rfl) rfl ?_
  refine Cov.dgq_on rfl ?_
  refine Cov.dq (.add rfl rfl (by have hp0 := pk_rng lD (dsch lD 0).2 (m := 9) (by omega); have hp1 := pk_rng lD (nx lD (dsch lD 0).2) (m := 5) (by omega); have hp2 := pk_rng lD (dsch lD (nx lD (nx lD (dsch lD 0).2))).2 (m := 9) (by omega); have hp3 := pk_rng lD (nx lD (dsch lD (nx lD (nx lD (dsch lD 0).2))).2) (m := 5) (by omega); have hp4 := pk_rng lD (nx lD (nx lD (dsch lD (nx lD (nx lD (dsch lD 0).2))).2)) (m := 60) (by omega); omega)) rfl ?_
  refine Cov.dgq_on rfl ?_
  refine Cov.dq (.quo rfl rfl (by have hp0 := pk_rng lD (dsch lD 0).2 (m := 9) (by omega); have hp1 := pk_rng lD (nx lD (dsch lD 0).2) (m := 5) (by omega); have hp2 := pk_rng lD (dsch lD (nx lD (nx lD (dsch lD 0).2))).2 (m := 9) (by omega); have hp3 := pk_rng lD (nx lD (dsch lD (nx lD (nx lD (dsch lD 0).2))).2) (m := 5) (by omega); have hp4 := pk_rng lD (nx lD (nx lD (dsch lD (nx lD (nx lD (dsch lD 0).2))).2)) (m := 60) (by omega); omega)) rfl ?_
  refine Cov.dgq_on rfl ?_
  refine Cov.dq (.eql rfl rfl) rfl ?_
  refine Cov.dq (.pick_t rfl rfl) rfl ?_
  refine Cov.dq (.move rfl) rfl ?_
  refine Cov.know_t 111 rfl (by have hp0 := pk_rng lD (dsch lD 0).2 (m := 9) (by omega); have hp1 := pk_rng lD (nx lD (dsch lD 0).2) (m := 5) (by omega); have hp2 := pk_rng lD (dsch lD (nx lD (nx lD (dsch lD 0).2))).2 (m := 9) (by omega); have hp3 := pk_rng lD (nx lD (dsch lD (nx lD (nx lD (dsch lD 0).2))).2) (m := 5) (by omega); have hp4 := pk_rng lD (nx lD (nx lD (dsch lD (nx lD (nx lD (dsch lD 0).2))).2)) (m := 60) (by omega); unfold cunits unitsI; rw [if_neg (by decide), if_neg (by omega), if_pos ⟨by decide, by omega⟩, if_pos rfl]; show (_ + 3 - 1) / 3 = _; omega) ?_
  refine Cov.dgq_on rfl ?_
  refine Cov.dq (.build [_, _, _, _] [(0, _), (1, _), (2, _), (3, _)] ty25 pl25 rfl rfl) rfl ?_
  refine Cov.dge_on rfl ?_
  refine Cov.callv [_] [] .d1 rfl rfl Try.call22 rshape_c rfl (fun v20 hv20 => ?_)
  subst hv20
  refine Cov.cls (fun _ h => h) (pick_mem [0, 1, 2, 3] rfl) ?_
  refine Cov.dq (.pick_t rfl rfl) rfl ?_
  refine Cov.dq (.assign rfl) rfl ?_
  refine Cov.draw_end ?_
  refine Cov.prune [(8, _)] ⟨rfl, trivial⟩ ?_
  refine Cov.retv (c := ⟨6, none⟩) [.tmp 8] [_] rfl Try.func6 Try.results6 ⟨RV.tmp rfl, trivial⟩ (fun _ h => h) ?_
  exact congrArg Value.bool (decide_eq_true (by decide))

theorem law_steps {G : Hp} {sa : Option Addr} {sn sc : Nat} {l : List Int} {rk rs rd rg cn wd pb a b c : Int} {Fs : List Hp} (hG : G ∈ Fs) (hs : U8s G (.slice sa sn sc) l) (hr : ∀ x ∈ l, 0 ≤ x ∧ x ≤ 255) (ha : -32768 ≤ a ∧ a ≤ 32767) (hb : -32768 ≤ b ∧ b ≤ 32767) (hc : -32768 ≤ c ∧ c ≤ 32767) : RetV Try.prog 4 #[.slice sa sn sc, .agg #[.int .i64 rk, .int .i64 rs, .int .i64 rd, .int .i64 rg], .int .i64 cn, .int .i64 wd, .int .i64 pb, .int .i16 a, .int .i16 b, .int .i16 c] Fs (fun v => v = .bool true) := by
  refine Ret.of (vs := [_, _, _, _, _, _, _, _]) Try.func4 rfl Try.ntmps4 [(0, _), (1, _), (2, _), (3, _), (4, _), (5, _), (6, _), (7, _)] ⟨rfl, rfl, rfl, rfl, rfl, rfl, rfl, rfl, trivial⟩ rfl fun w0 => ?_
  refine Cov.seq ?_
  refine Cov.region rfl ?_
  refine Cov.box [_, _, _, _] .ro rfl rfl rfl (fun b1 hb1 => ?_)
  refine Cov.q .ro (.assign rfl) rfl ?_
  refine Cov.region_end ?_
  refine Cov.seq ?_
  refine Cov.seq ?_
  refine Cov.region rfl ?_
  refine Cov.callv [] [] .ro rfl rfl Try.call7 sane_c rfl (fun v2 hv2 => ?_)
  subst hv2
  refine Cov.q .ro (.not_t rfl) rfl ?_
  refine Cov.region_end ?_
  refine Cov.cond_false rfl ?_
  refine Cov.skip ?_
  refine Cov.seq ?_
  refine Cov.region rfl ?_
  refine Cov.q .ro (.move rfl) rfl ?_
  refine Cov.call 0 [_] [] .ro rfl rfl Try.call8 (dnew_c hG hs hr) rfl (fun vD FrD boD soD _ hpD => ?_)
  obtain ⟨bdD, saD, snD, scD, lD, hlD, rfl, rfl, rfl, hdD⟩ := hpD
  refine Cov.less _ (fun _ h => List.mem_cons_of_mem _ h) ?_
  refine Cov.same (bl' := [_, _]) (sl' := []) rfl rfl rfl ?_
  refine Cov.q .ro (.assign rfl) rfl ?_
  refine Cov.region_end ?_
  refine Cov.seq ?_
  refine Cov.seq ?_
  refine Cov.draw (.q 0 (.q 1 (.q 3 (.q 7 (.e 2 1 (.e 4 1 (.e 5 1 (.q 6 .nil)))))))) _ [_] (by kernel_rfl) (by kernel_rfl) (fun _ h => h) (pick_mem [1] rfl) ?_
  refine Cov.dq (.load_own_a 0 [_, _, _, _] rfl rfl ty25 rfl) rfl ?_
  refine Cov.dq (.move rfl) rfl ?_
  refine Cov.dq (.move rfl) rfl ?_
  refine Cov.dq (.move rfl) rfl ?_
  refine Cov.calll 0 [_] [] .d1 rfl rfl Try.call12 rfl (dodd_c hG hdD) rfl (fun v3 ov3 hv3 => ?_)
  obtain ⟨rfl, rfl⟩ := hv3
  refine Cov.same (bl' := [_, _]) rfl rfl rfl ?_
  refine Cov.cls (fun _ h => h) (pick_mem [1] rfl) ?_
  refine Cov.calll 0 [_] [] .d1 rfl rfl Try.call9 rfl (dsch_c hG hdD) rfl (fun v4 ov4 hv4 => ?_)
  obtain ⟨rfl, rfl⟩ := hv4
  refine Cov.same (bl' := [_, _]) rfl rfl rfl ?_
  refine Cov.cls (fun _ h => h) (pick_mem [1] rfl) ?_
  refine Cov.lit [_, _, _, _, _, _, _, _, _, _, _, _] [(0, _), (1, _), (2, _)] .d1 sl37 ty25 rfl rfl rfl rfl rfl rfl (fun b5 hb5 => ?_)
  refine Cov.freeze_m (α := Int × Int × Int × Int) 0 [(_, _, _, _), (_, _, _, _), (_, _, _, _)] (fun x : Int × Int × Int × Int => [(.int .i64 x.1 : Value), .int .i64 x.2.1, .int .i64 x.2.2.1, .int .i64 x.2.2.2]) rfl rfl rfl (fun _ => rfl) _ rfl (by simp) (fun G6 fG6 sG6 => ?_)
  refine Cov.cls (fun _ h => List.mem_cons_of_mem _ (h)) (pick_mem [1] rfl) ?_
  refine Cov.dq (.len_sl (n := 3) rfl sG6.mlen sl37) rfl ?_
  refine Cov.draw_end ?_
  refine Cov.block ?_
  refine Cov.loop2 (α := Nat × Nat) (fun x => [(43, .int .i64 (x.1 : Int))]) [(2, _), (3, _), (4, _), (5, _), (6, _), (7, _), (16, _), (17, _), (41, _), (42, _)] (fun x => []) (fun x => [(bdD, .cells #[.slice saD snD scD, .int .i64 (x.2 : Int)] 49 (0, 0))]) [_] (fun x => []) (fun x => x.1 ≤ 3) (fun x => 3 - x.1) (0, _) (by omega) ⟨rfl, rfl, rfl, rfl, rfl, rfl, rfl, rfl, rfl, rfl, rfl, trivial⟩ rfl rfl rfl (fun x hI1 hback1 => ?_)
  refine Cov.prune [(43, _), (2, _), (3, _), (4, _), (5, _), (6, _), (7, _), (16, _), (17, _), (41, _), (42, _)] ⟨rfl, rfl, rfl, rfl, rfl, rfl, rfl, rfl, rfl, rfl, rfl, trivial⟩ ?_
  refine Cov.same (bl' := [_, _]) rfl rfl rfl ?_
  refine Cov.seq ?_
  refine Cov.region rfl ?_
  refine Cov.q .ro (.lss rfl rfl) rfl ?_
  refine Cov.region_end ?_
  refine Cov.seq ?_
  refine Cov.cond_dec rfl (fun h7 => ?_) (fun h7 => ?_)
  · refine Cov.skip ?_
    refine Cov.seq ?_
    refine Cov.block ?_
    refine Cov.seq ?_
    refine Cov.region rfl ?_
    refine Cov.q .ro (.indexAddr_m sG6 rfl rfl sl37 ty25.sz (by omega) (by change _ < ((3 : Nat) : Int); omega)) rfl ?_
    refine Cov.q .ro (.load_rp_a [_, _, _, _] (Sl.mptr sG6 (0, 0, 0, 0) (by omega) (by change _ < ((3 : Nat) : Int); omega)) List.mem_cons_self rfl ty25 rfl) rfl ?_
    refine Cov.alloc .ro ty25 rfl (fun b8 hb8 => ?_)
    refine Cov.store 0 [_, _, _, _] [_, _, _] .ro rfl rfl rfl ty25 rfl rfl rfl rfl ?_
    refine Cov.region_end ?_
    refine Cov.seq ?_
    refine Cov.region rfl ?_
    refine Cov.q .ro (.move rfl) rfl ?_
    refine Cov.q .ro (.move rfl) rfl ?_
    refine Cov.q .ro (.move rfl) rfl ?_
    refine Cov.q .ro (.build_a [_, _, _] [(0, _), (1, _), (2, _)] ty38 ar38 ty3.sz rfl rfl) rfl ?_
    refine Cov.q .ro (.move rfl) rfl ?_
    refine Cov.calll 1 [_, _] [] .ro rfl rfl Try.call13 rfl (dpick_c (List.mem_cons_of_mem _ hG) hdD (by omega)) rfl (fun v9 ov9 hv9 => ?_)
    obtain ⟨rfl, rfl⟩ := hv9
    refine Cov.same (bl' := [_, _, _]) rfl rfl rfl ?_
    refine Cov.q .ro (.add rfl rfl (by have hp0 := pk_rng lD x.2 (m := 9) (by omega); have hp1 := pk_rng lD (nx lD x.2) (m := 5) (by omega); have hp2 := pk_rng lD (nx lD (nx lD x.2)) (m := 3) (by omega); omega)) rfl ?_
    refine Cov.q .ro (.move rfl) rfl ?_
    refine Cov.calll 1 [_, _] [] .ro rfl rfl Try.call13 rfl (dpick_c (List.mem_cons_of_mem _ hG) hdD (by omega)) rfl (fun v10 ov10 hv10 => ?_)
    obtain ⟨rfl, rfl⟩ := hv10
    refine Cov.same (bl' := [_, _, _]) rfl rfl rfl ?_
    refine Cov.q .ro (.add rfl rfl (by have hp0 := pk_rng lD x.2 (m := 9) (by omega); have hp1 := pk_rng lD (nx lD x.2) (m := 5) (by omega); have hp2 := pk_rng lD (nx lD (nx lD x.2)) (m := 3) (by omega); omega)) rfl ?_
    refine Cov.q .ro (.move rfl) rfl ?_
    refine Cov.calll 1 [_, _] [] .ro rfl rfl Try.call13 rfl (dpick_c (List.mem_cons_of_mem _ hG) hdD (by omega)) rfl (fun v11 ov11 hv11 => ?_)
    obtain ⟨rfl, rfl⟩ := hv11
    refine Cov.same (bl' := [_, _, _]) rfl rfl rfl ?_
    refine Cov.q .ro (.add rfl rfl (by have hp0 := pk_rng lD x.2 (m := 9) (by omega); have hp1 := pk_rng lD (nx lD x.2) (m := 5) (by omega); have hp2 := pk_rng lD (nx lD (nx lD x.2)) (m := 3) (by omega); omega)) rfl ?_
    refine Cov.q .ro (.build_a [_, _, _] [(0, _), (1, _), (2, _)] ty38 ar38 ty3.sz rfl rfl) rfl ?_
    refine Cov.q .ro (.build_a [_, _, _] [(0, _), (1, _), (2, _)] ty38 ar38 ty3.sz rfl rfl) rfl ?_
    refine Cov.q .ro (.build_a [_, _, _] [(0, _), (1, _), (2, _)] ty38 ar38 ty3.sz rfl rfl) rfl ?_
    refine Cov.q .ro (.build_a [_, _, _] [(0, _), (1, _), (2, _)] ty38 ar38 ty3.sz rfl rfl) rfl ?_
    refine Cov.lit [_, _, _, _, _, _, _, _, _, _, _, _, _, _, _] [(0, _), (1, _), (2, _), (3, _), (4, _)] .ro sl40 ty38 rfl rfl rfl rfl rfl rfl (fun b12 hb12 => ?_)
    refine Cov.freeze_m (α := Int × Int × Int) 0 [(_, _, _), (_, _, _), (_, _, _), (_, _, _), (_, _, _)] (fun x : Int × Int × Int => [(.int .i64 x.1 : Value), .int .i64 x.2.1, .int .i64 x.2.2]) rfl rfl rfl (fun _ => rfl) _ rfl (by simp) (fun G13 fG13 sG13 => ?_)
    refine Cov.q .ro (.len_sl (n := 5) rfl sG13.mlen sl40) rfl ?_
    refine Cov.q .ro (.move rfl) rfl ?_
    refine Cov.region_end ?_
    refine Cov.block ?_
    refine Cov.loop2 (α := Nat) (fun y => [(66, .int .i64 (y : Int))]) [(43, _), (2, _), (3, _), (4, _), (5, _), (6, _), (7, _), (16, _), (17, _), (41, _), (42, _), (44, _), (45, _), (46, _), (19, _), (47, _), (48, _), (49, _), (50, _), (51, _), (52, _), (53, _), (54, _), (55, _), (56, _), (57, _), (58, _), (59, _), (60, _), (61, _), (62, _), (63, _), (64, _), (65, _)] (fun y => []) (fun y => []) [_, _, _] (fun y => []) (fun y => y ≤ 5) (fun y => 5 - y) 0 (by omega) ⟨rfl, rfl, rfl, rfl, rfl, rfl, rfl, rfl, rfl, rfl, rfl, rfl, rfl, rfl, rfl, rfl, rfl, rfl, rfl, rfl, rfl, rfl, rfl, rfl, rfl, rfl, rfl, rfl, rfl, rfl, rfl, rfl, rfl, rfl, rfl, trivial⟩ rfl rfl rfl (fun y hI2 hback2 => ?_)
    refine Cov.prune [(66, _), (43, _), (2, _), (3, _), (4, _), (5, _), (6, _), (7, _), (16, _), (17, _), (41, _), (42, _), (44, _), (45, _), (46, _), (19, _), (47, _), (48, _), (49, _), (50, _), (51, _), (52, _), (53, _), (54, _), (55, _), (56, _), (57, _), (58, _), (59, _), (60, _), (61, _), (62, _), (63, _), (64, _), (65, _)] ⟨rfl, rfl, rfl, rfl, rfl, rfl, rfl, rfl, rfl, rfl, rfl, rfl, rfl, rfl, rfl, rfl, rfl, rfl, rfl, rfl, rfl, rfl, rfl, rfl, rfl, rfl, rfl, rfl, rfl, rfl, rfl, rfl, rfl, rfl, rfl, trivial⟩ ?_
    refine Cov.same (bl' := [_, _, _]) rfl rfl rfl ?_
    refine Cov.seq ?_
    refine Cov.region rfl ?_
    refine Cov.q .ro (.lss rfl rfl) rfl ?_
    refine Cov.region_end ?_
    refine Cov.seq ?_
    refine Cov.cond_dec rfl (fun h14 => ?_) (fun h14 => ?_)
    · refine Cov.skip ?_
      refine Cov.seq ?_
      refine Cov.block ?_
      refine Cov.seq ?_
      refine Cov.region rfl ?_
      refine Cov.q .ro (.indexAddr_m sG13 rfl rfl sl40 ty38.sz (by omega) (by change _ < ((5 : Nat) : Int); omega)) rfl ?_
      refine Cov.q .ro (.load_rp_a [_, _, _] (Sl.mptr sG13 (0, 0, 0) (by omega) (by change _ < ((5 : Nat) : Int); omega)) List.mem_cons_self rfl ty38 rfl) rfl ?_
      refine Cov.alloc .ro ty38 rfl (fun b15 hb15 => ?_)
      refine Cov.store 0 [_, _, _] [_, _, _, _] .ro rfl rfl rfl ty38 rfl rfl rfl rfl ?_
      refine Cov.region_end ?_
      refine Cov.seq ?_
      refine Cov.region rfl ?_
      refine Cov.q .ro (.load_own_a 1 [_, _, _, _] rfl rfl ty25 rfl) rfl ?_
      refine Cov.q .ro (.indexAddr_ar 0 rfl rfl ar38 ty3.sz (by decide) (by decide) rfl) rfl ?_
      refine Cov.q .ro (.load_own 0 rfl rfl ty3 rfl) rfl ?_
      refine Cov.callv [_, _] [] .ro rfl rfl Try.call14 cunits_c rfl (fun v16 hv16 => ?_)
      subst hv16
      refine Cov.q .ro (.move rfl) rfl ?_
      refine Cov.q .ro (.extract rfl rfl) rfl ?_
      refine Cov.q .ro (.extract rfl rfl) rfl ?_
      refine Cov.q .ro (.assign rfl) rfl ?_
      refine Cov.q .ro (.assign rfl) rfl ?_
      refine Cov.region_end ?_
      refine Cov.seq ?_
      refine Cov.region rfl ?_
      refine Cov.q .ro (.load_own_a 1 [_, _, _, _] rfl rfl ty25 rfl) rfl ?_
      refine Cov.q .ro (.indexAddr_ar 0 rfl rfl ar38 ty3.sz (by decide) (by decide) rfl) rfl ?_
      refine Cov.q .ro (.load_own 0 rfl rfl ty3 rfl) rfl ?_
      refine Cov.callv [_, _] [] .ro rfl rfl Try.call15 rcunits_c rfl (fun v17 hv17 => ?_)
      subst hv17
      refine Cov.q .ro (.move rfl) rfl ?_
      refine Cov.q .ro (.extract rfl rfl) rfl ?_
      refine Cov.q .ro (.extract rfl rfl) rfl ?_
      refine Cov.q .ro (.assign rfl) rfl ?_
      refine Cov.q .ro (.assign rfl) rfl ?_
      refine Cov.region_end ?_
      refine Cov.seq ?_
      refine Cov.region rfl ?_
      refine Cov.q .ro (.load_own_a 1 [_, _, _, _] rfl rfl ty25 rfl) rfl ?_
      refine Cov.q .ro (.indexAddr_ar 0 rfl rfl ar38 ty3.sz (by decide) (by decide) rfl) rfl ?_
      refine Cov.q .ro (.load_own 0 rfl rfl ty3 rfl) rfl ?_
      refine Cov.q .ro (.indexAddr_ar 1 rfl rfl ar38 ty3.sz (by decide) (by decide) rfl) rfl ?_
      refine Cov.q .ro (.load_own 0 rfl rfl ty3 rfl) rfl ?_
      refine Cov.q .ro (.indexAddr_ar 2 rfl rfl ar38 ty3.sz (by decide) (by decide) rfl) rfl ?_
      refine Cov.q .ro (.load_own 0 rfl rfl ty3 rfl) rfl ?_
      refine Cov.callv [_, _, _, _] [] .ro rfl rfl Try.call10 cof_c rfl (fun v18 hv18 => ?_)
      subst hv18
      refine Cov.q .ro (.move rfl) rfl ?_
      refine Cov.q .ro (.extract rfl rfl) rfl ?_
      refine Cov.q .ro (.extract rfl rfl) rfl ?_
      refine Cov.alloc .ro ty30 rfl (fun b19 hb19 => ?_)
      refine Cov.store 0 [_, _, _] [_, _, _, _, _] .ro rfl rfl rfl ty30 rfl rfl rfl rfl ?_
      refine Cov.q .ro (.assign rfl) rfl ?_
      refine Cov.region_end ?_
      refine Cov.seq ?_
      refine Cov.region rfl ?_
      refine Cov.q .ro (.load_own_a 2 [_, _, _, _] rfl rfl ty25 rfl) rfl ?_
      refine Cov.q .ro (.indexAddr_ar 0 rfl rfl ar38 ty3.sz (by decide) (by decide) rfl) rfl ?_
      refine Cov.q .ro (.load_own 1 rfl rfl ty3 rfl) rfl ?_
      refine Cov.q .ro (.indexAddr_ar 1 rfl rfl ar38 ty3.sz (by decide) (by decide) rfl) rfl ?_
      refine Cov.q .ro (.load_own 1 rfl rfl ty3 rfl) rfl ?_
      refine Cov.q .ro (.indexAddr_ar 2 rfl rfl ar38 ty3.sz (by decide) (by decide) rfl) rfl ?_
      refine Cov.q .ro (.load_own 1 rfl rfl ty3 rfl) rfl ?_
      refine Cov.callv [_, _, _, _] [] .ro rfl rfl Try.call16 rcof_c rfl (fun v20 hv20 => ?_)
      subst hv20
      refine Cov.q .ro (.move rfl) rfl ?_
      refine Cov.q .ro (.extract rfl rfl) rfl ?_
      refine Cov.q .ro (.extract rfl rfl) rfl ?_
      refine Cov.alloc .ro ty30 rfl (fun b21 hb21 => ?_)
      refine Cov.store 0 [_, _, _] [_, _, _, _, _, _] .ro rfl rfl rfl ty30 rfl rfl rfl rfl ?_
      refine Cov.q .ro (.assign rfl) rfl ?_
      refine Cov.region_end ?_
      refine Cov.seq ?_
      refine Cov.region rfl ?_
      refine Cov.q .ro (.move rfl) rfl ?_
      refine Cov.q .ro (.move rfl) rfl ?_
      refine Cov.q .ro (.neq rfl rfl) rfl ?_
      refine Cov.q .ro (.move rfl) rfl ?_
      refine Cov.know_f 109 rfl (fun h => h rfl) ?_
      refine Cov.g_on rfl ?_
      refine Cov.q .ro (.move rfl) rfl ?_
      refine Cov.g_on rfl ?_
      refine Cov.q .ro (.move rfl) rfl ?_
      refine Cov.g_on rfl ?_
      refine Cov.q .ro (.neq rfl rfl) rfl ?_
      refine Cov.q .ro (.pick_f rfl rfl) rfl ?_
      refine Cov.q .ro (.move rfl) rfl ?_
      refine Cov.know_f 114 rfl (fun h => h rfl) ?_
      refine Cov.g_on rfl ?_
      refine Cov.q .ro (.load_own_a 1 [_, _, _] rfl rfl ty30 rfl) rfl ?_
      refine Cov.g_on rfl ?_
      refine Cov.q .ro (.load_own_a 0 [_, _, _] rfl rfl ty30 rfl) rfl ?_
      refine Cov.g_on rfl ?_
      refine Cov.q .ro (.neq_i [_, _, _] [_, _, _] Try.underlying30 (by kernel_rfl) Try.stoodInHeld30 Try.eqGuardType30 rfl rfl rfl rfl) rfl ?_
      refine Cov.q .ro (.pick_f rfl rfl) rfl ?_
      refine Cov.q .ro (.move rfl) rfl ?_
      refine Cov.know_f 119 rfl (fun h => h rfl) ?_
      refine Cov.g_on rfl ?_
      refine Cov.q .ro (.move rfl) rfl ?_
      refine Cov.g_on rfl ?_
      refine Cov.q .ro (.move rfl) rfl ?_
      refine Cov.g_on rfl ?_
      refine Cov.q .ro (.neq rfl rfl) rfl ?_
      refine Cov.q .ro (.pick_f rfl rfl) rfl ?_
      refine Cov.region_end ?_
      refine Cov.know_f 123 rfl (fun h => h rfl) ?_
      refine Cov.cond_false rfl ?_
      refine Cov.skip ?_
      refine Cov.inBlock ?_
      refine Cov.region rfl ?_
      refine Cov.q .ro (.add rfl rfl (by omega)) rfl ?_
      refine Cov.q .ro (.move rfl) rfl ?_
      refine Cov.region_end ?_
      refine Cov.drop 3 0 [_, _, _] _ rfl rfl ?_
      refine Cov.prune _ ?_ (Cov.same rfl rfl rfl (hback2 (y + 1) ?_ ?_))
      · exact ⟨(congrArg (fun x => some (Value.int IntKind.i64 x)) (by omega : (y : Int) + 1 = ((y + 1 : Nat) : Int))), rfl, rfl, rfl, rfl, rfl, rfl, rfl, rfl, rfl, rfl, rfl, rfl, rfl, rfl, rfl, rfl, rfl, rfl, rfl, rfl, rfl, rfl, rfl, rfl, rfl, rfl, rfl, rfl, rfl, rfl, rfl, rfl, rfl, rfl, trivial⟩
      · omega
      · omega
    · refine Cov.exit rfl ?_
      refine Cov.inBlock ?_
      refine Cov.region rfl ?_
      refine Cov.q .ro (.add rfl rfl (by omega)) rfl ?_
      refine Cov.q .ro (.move rfl) rfl ?_
      refine Cov.region_end ?_
      refine Cov.drop 1 0 [_, _] _ rfl rfl ?_
      refine Cov.less _ (fun _ h => List.mem_cons_of_mem _ (h)) ?_
      refine Cov.prune _ ?_ (Cov.same rfl rfl rfl (hback1 (x.1 + 1, _) ?_ ?_))
      · exact ⟨(congrArg (fun x => some (Value.int IntKind.i64 x)) (by omega : (x.1 : Int) + 1 = ((x.1 + 1 : Nat) : Int))), rfl, rfl, rfl, rfl, rfl, rfl, rfl, rfl, rfl, rfl, trivial⟩
      · (dsimp only; omega)
      · (dsimp only; omega)
  · refine Cov.exit rfl ?_
    refine Cov.seq ?_
    refine Cov.region rfl ?_
    refine Cov.q .ro (.move rfl) rfl ?_
    refine Cov.q .ro (.conv Try.underlying36 Try.underlying3 rfl (IntWalk.i64_in _ (by omega))) rfl ?_
    refine Cov.q .ro (.move rfl) rfl ?_
    refine Cov.q .ro (.conv Try.underlying36 Try.underlying3 rfl (IntWalk.i64_in _ (by omega))) rfl ?_
    refine Cov.q .ro (.move rfl) rfl ?_
    refine Cov.q .ro (.conv Try.underlying36 Try.underlying3 rfl (IntWalk.i64_in _ (by omega))) rfl ?_
    refine Cov.q .ro (.build [_, _, _] [(0, _), (1, _), (2, _)] ty30 pl30 rfl rfl) rfl ?_
    refine Cov.q .ro (.move rfl) rfl ?_
    refine Cov.q .ro (.conv Try.underlying36 Try.underlying3 rfl (IntWalk.i64_in _ (by omega))) rfl ?_
    refine Cov.q .ro (.move rfl) rfl ?_
    refine Cov.q .ro (.conv Try.underlying36 Try.underlying3 rfl (IntWalk.i64_in _ (by omega))) rfl ?_
    refine Cov.q .ro (.move rfl) rfl ?_
    refine Cov.q .ro (.conv Try.underlying36 Try.underlying3 rfl (IntWalk.i64_in _ (by omega))) rfl ?_
    refine Cov.q .ro (.build [_, _, _] [(0, _), (1, _), (2, _)] ty30 pl30 rfl rfl) rfl ?_
    refine Cov.alloc .ro ty30 rfl (fun b22 hb22 => ?_)
    refine Cov.alloc .ro ty30 rfl (fun b23 hb23 => ?_)
    refine Cov.store 1 [_, _, _] [_, _, _, _] .ro rfl rfl rfl ty30 rfl rfl rfl rfl ?_
    refine Cov.store 0 [_, _, _] [_, _, _, _] .ro rfl rfl rfl ty30 rfl rfl rfl rfl ?_
    refine Cov.region_end ?_
    refine Cov.prune [(5, _), (6, _), (16, _), (30, _), (31, _)] ⟨rfl, rfl, rfl, rfl, rfl, trivial⟩ ?_
    refine Cov.seq ?_
    refine Cov.draw (.q 0 (.q 1 (.q 3 (.q 4 (.e 2 1 (.e 5 1 (.q 6 (.q 7 (.q 8 (.q 9 (.q 11 (.q 12 (.e 10 1 (.e 13 1 (.q 14 (.q 15 (.q 16 (.q 17 (.q 18 (.q 19 (.q 20 (.q 22 (.q 23 (.q 24 (.q 25 (.e 21 1 (.e 26 1 (.q 27 (.q 28 (.q 29 .nil)))))))))))))))))))))))))))))) _ [_, _, _, _] (by kernel_rfl) (by kernel_rfl) (fun _ h => h) (pick_mem [0, 1, 2, 3] rfl) ?_
    refine Cov.dq (.load_own_a 1 [_, _, _] rfl rfl ty30 rfl) rfl ?_
    refine Cov.dq (.load_own_a 0 [_, _, _] rfl rfl ty30 rfl) rfl ?_
    refine Cov.dq (.load_own_a 1 [_, _, _] rfl rfl ty30 rfl) rfl ?_
    refine Cov.dq (.load_own_a 0 [_, _, _] rfl rfl ty30 rfl) rfl ?_
    refine Cov.callv [_, _] [] .d1 rfl rfl Try.call17 sum_c rfl (fun v24 hv24 => ?_)
    subst hv24
    refine Cov.cls (fun _ h => h) (pick_mem [0, 1, 2, 3] rfl) ?_
    refine Cov.callv [_, _] [] .d1 rfl rfl Try.call18 rsum_c rfl (fun v25 hv25 => ?_)
    subst hv25
    refine Cov.cls (fun _ h => h) (pick_mem [0, 1, 2, 3] rfl) ?_
    refine Cov.dq (.eql rfl rfl) rfl ?_
    refine Cov.dq (.move rfl) rfl ?_
    refine Cov.know_t 147 rfl (rfl) ?_
    refine Cov.dgq_on rfl ?_
    refine Cov.dq (.load_own_a 1 [_, _, _] rfl rfl ty30 rfl) rfl ?_
    refine Cov.dgq_on rfl ?_
    refine Cov.dq (.load_own_a 0 [_, _, _] rfl rfl ty30 rfl) rfl ?_
    refine Cov.dgq_on rfl ?_
    refine Cov.dq (.load_own_a 1 [_, _, _] rfl rfl ty30 rfl) rfl ?_
    refine Cov.dgq_on rfl ?_
    refine Cov.dq (.load_own_a 0 [_, _, _] rfl rfl ty30 rfl) rfl ?_
    refine Cov.dge_on rfl ?_
    refine Cov.callv [_, _] [] .d1 rfl rfl Try.call19 cadd_c rfl (fun v26 hv26 => ?_)
    subst hv26
    refine Cov.cls (fun _ h => h) (pick_mem [0, 1, 2, 3] rfl) ?_
    refine Cov.dge_on rfl ?_
    refine Cov.callv [_, _] [] .d1 rfl rfl Try.call20 rcadd_c rfl (fun v27 hv27 => ?_)
    subst hv27
    refine Cov.cls (fun _ h => h) (pick_mem [0, 1, 2, 3] rfl) ?_
    refine Cov.dgq_on rfl ?_
    refine Cov.dq (.eql_i [_, _, _] [_, _, _] Try.underlying30 (by kernel_rfl) Try.stoodInHeld30 Try.eqGuardType30 rfl rfl rfl rfl) rfl ?_
    refine Cov.dq (.pick_t rfl rfl) rfl ?_
    refine Cov.dq (.move rfl) rfl ?_
    refine Cov.know_t 156 rfl (rfl) ?_
    refine Cov.dgq_on rfl ?_
    refine Cov.dq (.move rfl) rfl ?_
    refine Cov.dgq_on rfl ?_
    refine Cov.dq (.conv Try.underlying36 Try.underlying3 rfl (IntWalk.i64_in _ (by omega))) rfl ?_
    refine Cov.dgq_on rfl ?_
    refine Cov.dq (.move rfl) rfl ?_
    refine Cov.dgq_on rfl ?_
    refine Cov.dq (.conv Try.underlying36 Try.underlying3 rfl (IntWalk.i64_in _ (by omega))) rfl ?_
    refine Cov.dgq_on rfl ?_
    refine Cov.dq (.move rfl) rfl ?_
    refine Cov.dgq_on rfl ?_
    refine Cov.dq (.conv Try.underlying36 Try.underlying3 rfl (IntWalk.i64_in _ (by omega))) rfl ?_
    refine Cov.dgq_on rfl ?_
    refine Cov.dq (.move rfl) rfl ?_
    refine Cov.dgq_on rfl ?_
    refine Cov.dq (.conv Try.underlying36 Try.underlying3 rfl (IntWalk.i64_in _ (by omega))) rfl ?_
    refine Cov.dge_on rfl ?_
    refine Cov.callv [_, _] [] .d1 rfl rfl Try.call11 direct_c rfl (fun v28 hv28 => ?_)
    subst hv28
    refine Cov.cls (fun _ h => h) (pick_mem [0, 1, 2, 3] rfl) ?_
    refine Cov.dge_on rfl ?_
    refine Cov.callv [_, _] [] .d1 rfl rfl Try.call21 rdirect_c rfl (fun v29 hv29 => ?_)
    subst hv29
    refine Cov.cls (fun _ h => h) (pick_mem [0, 1, 2, 3] rfl) ?_
    refine Cov.dgq_on rfl ?_
    refine Cov.dq (.eql_i [_, _, _] [_, _, _] Try.underlying30 (by kernel_rfl) Try.stoodInHeld30 Try.eqGuardType30 rfl rfl rfl rfl) rfl ?_
    refine Cov.dq (.pick_t rfl rfl) rfl ?_
    refine Cov.dq (.assign rfl) rfl ?_
    refine Cov.draw_end ?_
    refine Cov.prune [(16, _)] ⟨rfl, trivial⟩ ?_
    refine Cov.retv (c := ⟨4, none⟩) [.tmp 16] [_] rfl Try.func4 Try.results4 ⟨RV.tmp rfl, trivial⟩ (fun _ h => List.mem_cons_of_mem _ (h)) ?_
    exact congrArg Value.bool (decide_eq_true rfl)

end Go.Proofs.Ytcdmckcakldhmaa
