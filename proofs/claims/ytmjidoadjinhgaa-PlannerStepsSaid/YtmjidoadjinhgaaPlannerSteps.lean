/- Proved: the statement PlannerStepsSaid: for every input the law returns true, and each argument reads afterwards as it read before. No condition of ours. -/
import Derived.Test.YtmjidoadjinhgaaRows
import Derived.WalkKit
import Derived.ProofKit
import Derived.OpenShut
import Derived.ShutString
import Derived.ChangeOld
import Derived.Below
import Derived.Test.YtmjidoadjinhgaaK14
import Derived.Test.YtmjidoadjinhgaaL8
import Derived.Test.YtmjidoadjinhgaaWPlannerSteps
import Derived.Test.YtmjidoadjinhgaaC29g
namespace Go.Proofs.Ytmjidoadjinhgaa.plannerSteps
open Go.ChangeShapes Go.WideShapes Go.ChangeAt Go.RowKit
set_option linter.unusedVariables false

theorem own : ownKnob Try.prog.godebug = none := by kernel_rfl
theorem laidOut : laidOutB Try.prog = true := by kernel_rfl

set_option maxRecDepth 100000 in
theorem lifted (os : Os) (started : os.Started) (H : Type) (enc : TypeId × Value → H) :
    ReturnsInHanded {} Try.checked os 7 .any (Rows.plannerStepsSpec.pre6 enc Try.prog Try.f7 Rows.plannerStepsRow.domain false) (Rows.plannerStepsSpec.post enc Try.prog Try.f7 false true false false) := by
  refine returnsInHanded_of_change (C := Try.checked) own started (by kernel_rfl) Try.func7
    (ChangeSpec.witness6 (enc := enc) (C := Try.checked) false ⟨#[], #[.slice none 0 0, .agg #[.int .i64 0, .int .i64 0, .int .i64 0, .int .i64 0, .int .i64 0, .int .i64 0, .int .i64 0, .int .i64 0, .int .i64 0, .int .i64 0], .agg #[.int .i64 0, .int .i64 0, .int .i64 0, .int .i64 0], .agg #[.int .i64 0, .int .i64 0, .int .i64 0, .int .i64 0, .int .i64 0, .int .i64 0, .int .i64 0, .int .i64 0], .agg #[.int .i64 0, .int .i64 0, .int .i64 0, .int .i64 0, .int .i64 0, .int .i64 0, .int .i64 0, .int .i64 0]], []⟩ 8 (by kernel_rfl) (by kernel_rfl) (by kernel_rfl) (by kernel_rfl)) ?_
  intro W base args ds gs before hval0 hW hcnd _
  have hval : ∀ (j : Nat) t v, Try.f7.params[j]? = some t → args[j]? = some v → Value.okWide Try.prog W .any base t v := hval0
  have hW' := hW
  obtain ⟨p, q, hA0, hV, rfl, hfz, hnd⟩ := hW
  have hA : DataW.TrodAll enc Try.prog W 0 (fun _ => true) true Try.f7.params.toList args.toList ds p := hA0
  rw [Try.params7] at hA hval
  obtain ⟨v0, vs0, d0, ds0, p0, q0, hargs, rfl, rfl, h0, r0⟩ := trodAll_cons hA
  obtain ⟨v1, vs1, d1, ds1, p1, q1, rfl, rfl, rfl, h1, r1⟩ := trodAll_cons r0
  obtain ⟨v2, vs2, d2, ds2, p2, q2, rfl, rfl, rfl, h2, r2⟩ := trodAll_cons r1
  obtain ⟨v3, vs3, d3, ds3, p3, q3, rfl, rfl, rfl, h3, r3⟩ := trodAll_cons r2
  obtain ⟨v4, vs4, d4, ds4, p4, q4, rfl, rfl, rfl, h4, r4⟩ := trodAll_cons r3
  obtain ⟨rfl, rfl, rfl⟩ := trodAll_nil r4
  obtain rfl : args = #[v0, v1, v2, v3, v4] := by cases args; simp_all
  obtain ⟨rfl, rfl⟩ := trodVars_none hV
  have k0 := h0
  have lt0 : ∀ x ∈ p0, x.block < W.heap.size := by obtain ⟨m, hm⟩ := k0; exact DataW.trod_lt m _ _ _ hm
  obtain ⟨u0, u0n, u0c, rfl⟩ := okWide_slice Try.underlying22 (hval 0 22 v0 rfl rfl)
  obtain ⟨a0, n0, c0, l0, e0, s0, q0, m0, g0⟩ := (tr_slice h0).sliceOf (sz := 1) (fun x : Int => [(.int .u8 x : Value)]) (fun x : Int => (Lit.int .u8 x).wf = true) Try.underlying22 (by kernel_rfl) (by decide) (fun x hx => by obtain ⟨n, h1, h2⟩ := hx.int Try.underlying5; exact ⟨n, h1, h2⟩)
  obtain ⟨rfl, rfl, rfl⟩ := Value.slice.inj (List.cons.inj e0).1
  have k1 := h1
  have lt1 : ∀ x ∈ p1, x.block < W.heap.size := by obtain ⟨m, hm⟩ := k1; exact DataW.trod_lt m _ _ _ hm
  obtain ⟨cs1, rfl⟩ := arg_agg Try.underlying29 (hval 1 29 v1 rfl rfl)
  have t1 := tr_agg h1
  have y0 : cs1.length = 10 := t1.len Try.underlying29 (by kernel_rfl)
  obtain ⟨z1_0, r1, rfl, y1⟩ := len_succ y0
  obtain ⟨z1_1, r2, rfl, y2⟩ := len_succ y1
  obtain ⟨z1_2, r3, rfl, y3⟩ := len_succ y2
  obtain ⟨z1_3, r4, rfl, y4⟩ := len_succ y3
  obtain ⟨z1_4, r5, rfl, y5⟩ := len_succ y4
  obtain ⟨z1_5, r6, rfl, y6⟩ := len_succ y5
  obtain ⟨z1_6, r7, rfl, y7⟩ := len_succ y6
  obtain ⟨z1_7, r8, rfl, y8⟩ := len_succ y7
  obtain ⟨z1_8, r9, rfl, y9⟩ := len_succ y8
  obtain ⟨z1_9, r10, rfl, y10⟩ := len_succ y9
  obtain rfl := List.eq_nil_of_length_eq_zero y10
  have f11 := t1.fld 0 (m := 1) (cs' := [z1_0]) Try.underlying29 rfl (by kernel_rfl) rfl
  have f12 := t1.fld 1 (m := 1) (cs' := [z1_1]) Try.underlying29 rfl (by kernel_rfl) rfl
  have f13 := t1.fld 2 (m := 1) (cs' := [z1_2]) Try.underlying29 rfl (by kernel_rfl) rfl
  have f14 := t1.fld 3 (m := 1) (cs' := [z1_3]) Try.underlying29 rfl (by kernel_rfl) rfl
  have f15 := t1.fld 4 (m := 1) (cs' := [z1_4]) Try.underlying29 rfl (by kernel_rfl) rfl
  have f16 := t1.fld 5 (m := 1) (cs' := [z1_5]) Try.underlying29 rfl (by kernel_rfl) rfl
  have f17 := t1.fld 6 (m := 1) (cs' := [z1_6]) Try.underlying29 rfl (by kernel_rfl) rfl
  have f18 := t1.fld 7 (m := 3) (cs' := [z1_7, z1_8, z1_9]) Try.underlying29 rfl (by kernel_rfl) rfl
  have f19 := f18.fld 0 (m := 1) (cs' := [z1_7]) Try.underlying27 rfl (by kernel_rfl) rfl
  have f20 := f18.fld 1 (m := 1) (cs' := [z1_8]) Try.underlying27 rfl (by kernel_rfl) rfl
  have f21 := f18.fld 2 (m := 1) (cs' := [z1_9]) Try.underlying27 rfl (by kernel_rfl) rfl
  obtain ⟨a1_0, e1_0, w1_0⟩ := f11.int Try.underlying3
  obtain rfl := (List.cons.inj e1_0).1
  obtain ⟨a1_1, e1_1, w1_1⟩ := f12.int Try.underlying3
  obtain rfl := (List.cons.inj e1_1).1
  obtain ⟨a1_2, e1_2, w1_2⟩ := f13.int Try.underlying3
  obtain rfl := (List.cons.inj e1_2).1
  obtain ⟨a1_3, e1_3, w1_3⟩ := f14.int Try.underlying3
  obtain rfl := (List.cons.inj e1_3).1
  obtain ⟨a1_4, e1_4, w1_4⟩ := f15.int Try.underlying3
  obtain rfl := (List.cons.inj e1_4).1
  obtain ⟨a1_5, e1_5, w1_5⟩ := f16.int Try.underlying3
  obtain rfl := (List.cons.inj e1_5).1
  obtain ⟨a1_6, e1_6, w1_6⟩ := f17.int Try.underlying3
  obtain rfl := (List.cons.inj e1_6).1
  obtain ⟨a1_7, e1_7, w1_7⟩ := f19.int Try.underlying3
  obtain rfl := (List.cons.inj e1_7).1
  obtain ⟨a1_8, e1_8, w1_8⟩ := f20.int Try.underlying3
  obtain rfl := (List.cons.inj e1_8).1
  obtain ⟨a1_9, e1_9, w1_9⟩ := f21.int Try.underlying3
  obtain rfl := (List.cons.inj e1_9).1
  have k2 := h2
  have lt2 : ∀ x ∈ p2, x.block < W.heap.size := by obtain ⟨m, hm⟩ := k2; exact DataW.trod_lt m _ _ _ hm
  obtain ⟨cs2, rfl⟩ := arg_agg Try.underlying33 (hval 2 33 v2 rfl rfl)
  have t2 := tr_agg h2
  obtain ⟨z2_0, z2_1, z2_2, z2_3, rfl⟩ := len4 (t2.len Try.underlying33 (by kernel_rfl))
  have f22 := t2.fld 0 (m := 1) (cs' := [z2_0]) Try.underlying33 rfl (by kernel_rfl) rfl
  have f23 := t2.fld 1 (m := 1) (cs' := [z2_1]) Try.underlying33 rfl (by kernel_rfl) rfl
  have f24 := t2.fld 2 (m := 1) (cs' := [z2_2]) Try.underlying33 rfl (by kernel_rfl) rfl
  have f25 := t2.fld 3 (m := 1) (cs' := [z2_3]) Try.underlying33 rfl (by kernel_rfl) rfl
  obtain ⟨a2_0, e2_0, w2_0⟩ := f22.int Try.underlying3
  obtain rfl := (List.cons.inj e2_0).1
  obtain ⟨a2_1, e2_1, w2_1⟩ := f23.int Try.underlying3
  obtain rfl := (List.cons.inj e2_1).1
  obtain ⟨a2_2, e2_2, w2_2⟩ := f24.int Try.underlying3
  obtain rfl := (List.cons.inj e2_2).1
  obtain ⟨a2_3, e2_3, w2_3⟩ := f25.int Try.underlying3
  obtain rfl := (List.cons.inj e2_3).1
  have k3 := h3
  have lt3 : ∀ x ∈ p3, x.block < W.heap.size := by obtain ⟨m, hm⟩ := k3; exact DataW.trod_lt m _ _ _ hm
  obtain ⟨cs3, rfl⟩ := arg_agg Try.underlying35 (hval 3 35 v3 rfl rfl)
  have t3 := tr_agg h3
  have y0 : cs3.length = 8 := t3.len Try.underlying35 (by kernel_rfl)
  obtain ⟨z3_0, r26, rfl, y1⟩ := len_succ y0
  obtain ⟨z3_1, r27, rfl, y2⟩ := len_succ y1
  obtain ⟨z3_2, r28, rfl, y3⟩ := len_succ y2
  obtain ⟨z3_3, r29, rfl, y4⟩ := len_succ y3
  obtain ⟨z3_4, r30, rfl, y5⟩ := len_succ y4
  obtain ⟨z3_5, r31, rfl, y6⟩ := len_succ y5
  obtain ⟨z3_6, r32, rfl, y7⟩ := len_succ y6
  obtain ⟨z3_7, r33, rfl, y8⟩ := len_succ y7
  obtain rfl := List.eq_nil_of_length_eq_zero y8
  have f34 := t3.fld 0 (m := 4) (cs' := [z3_0, z3_1, z3_2, z3_3]) Try.underlying35 rfl (by kernel_rfl) rfl
  have f35 := f34.fld 0 (m := 1) (cs' := [z3_0]) Try.underlying33 rfl (by kernel_rfl) rfl
  have f36 := f34.fld 1 (m := 1) (cs' := [z3_1]) Try.underlying33 rfl (by kernel_rfl) rfl
  have f37 := f34.fld 2 (m := 1) (cs' := [z3_2]) Try.underlying33 rfl (by kernel_rfl) rfl
  have f38 := f34.fld 3 (m := 1) (cs' := [z3_3]) Try.underlying33 rfl (by kernel_rfl) rfl
  have f39 := t3.fld 1 (m := 3) (cs' := [z3_4, z3_5, z3_6]) Try.underlying35 rfl (by kernel_rfl) rfl
  have f40 := f39.fld 0 (m := 1) (cs' := [z3_4]) Try.underlying27 rfl (by kernel_rfl) rfl
  have f41 := f39.fld 1 (m := 1) (cs' := [z3_5]) Try.underlying27 rfl (by kernel_rfl) rfl
  have f42 := f39.fld 2 (m := 1) (cs' := [z3_6]) Try.underlying27 rfl (by kernel_rfl) rfl
  have f43 := t3.fld 2 (m := 1) (cs' := [z3_7]) Try.underlying35 rfl (by kernel_rfl) rfl
  obtain ⟨a3_0, e3_0, w3_0⟩ := f35.int Try.underlying3
  obtain rfl := (List.cons.inj e3_0).1
  obtain ⟨a3_1, e3_1, w3_1⟩ := f36.int Try.underlying3
  obtain rfl := (List.cons.inj e3_1).1
  obtain ⟨a3_2, e3_2, w3_2⟩ := f37.int Try.underlying3
  obtain rfl := (List.cons.inj e3_2).1
  obtain ⟨a3_3, e3_3, w3_3⟩ := f38.int Try.underlying3
  obtain rfl := (List.cons.inj e3_3).1
  obtain ⟨a3_4, e3_4, w3_4⟩ := f40.int Try.underlying3
  obtain rfl := (List.cons.inj e3_4).1
  obtain ⟨a3_5, e3_5, w3_5⟩ := f41.int Try.underlying3
  obtain rfl := (List.cons.inj e3_5).1
  obtain ⟨a3_6, e3_6, w3_6⟩ := f42.int Try.underlying3
  obtain rfl := (List.cons.inj e3_6).1
  obtain ⟨a3_7, e3_7, w3_7⟩ := f43.int Try.underlying3
  obtain rfl := (List.cons.inj e3_7).1
  have k4 := h4
  have lt4 : ∀ x ∈ p4, x.block < W.heap.size := by obtain ⟨m, hm⟩ := k4; exact DataW.trod_lt m _ _ _ hm
  obtain ⟨cs4, rfl⟩ := arg_agg Try.underlying35 (hval 4 35 v4 rfl rfl)
  have t4 := tr_agg h4
  have y0 : cs4.length = 8 := t4.len Try.underlying35 (by kernel_rfl)
  obtain ⟨z4_0, r44, rfl, y1⟩ := len_succ y0
  obtain ⟨z4_1, r45, rfl, y2⟩ := len_succ y1
  obtain ⟨z4_2, r46, rfl, y3⟩ := len_succ y2
  obtain ⟨z4_3, r47, rfl, y4⟩ := len_succ y3
  obtain ⟨z4_4, r48, rfl, y5⟩ := len_succ y4
  obtain ⟨z4_5, r49, rfl, y6⟩ := len_succ y5
  obtain ⟨z4_6, r50, rfl, y7⟩ := len_succ y6
  obtain ⟨z4_7, r51, rfl, y8⟩ := len_succ y7
  obtain rfl := List.eq_nil_of_length_eq_zero y8
  have f52 := t4.fld 0 (m := 4) (cs' := [z4_0, z4_1, z4_2, z4_3]) Try.underlying35 rfl (by kernel_rfl) rfl
  have f53 := f52.fld 0 (m := 1) (cs' := [z4_0]) Try.underlying33 rfl (by kernel_rfl) rfl
  have f54 := f52.fld 1 (m := 1) (cs' := [z4_1]) Try.underlying33 rfl (by kernel_rfl) rfl
  have f55 := f52.fld 2 (m := 1) (cs' := [z4_2]) Try.underlying33 rfl (by kernel_rfl) rfl
  have f56 := f52.fld 3 (m := 1) (cs' := [z4_3]) Try.underlying33 rfl (by kernel_rfl) rfl
  have f57 := t4.fld 1 (m := 3) (cs' := [z4_4, z4_5, z4_6]) Try.underlying35 rfl (by kernel_rfl) rfl
  have f58 := f57.fld 0 (m := 1) (cs' := [z4_4]) Try.underlying27 rfl (by kernel_rfl) rfl
  have f59 := f57.fld 1 (m := 1) (cs' := [z4_5]) Try.underlying27 rfl (by kernel_rfl) rfl
  have f60 := f57.fld 2 (m := 1) (cs' := [z4_6]) Try.underlying27 rfl (by kernel_rfl) rfl
  have f61 := t4.fld 2 (m := 1) (cs' := [z4_7]) Try.underlying35 rfl (by kernel_rfl) rfl
  obtain ⟨a4_0, e4_0, w4_0⟩ := f53.int Try.underlying3
  obtain rfl := (List.cons.inj e4_0).1
  obtain ⟨a4_1, e4_1, w4_1⟩ := f54.int Try.underlying3
  obtain rfl := (List.cons.inj e4_1).1
  obtain ⟨a4_2, e4_2, w4_2⟩ := f55.int Try.underlying3
  obtain rfl := (List.cons.inj e4_2).1
  obtain ⟨a4_3, e4_3, w4_3⟩ := f56.int Try.underlying3
  obtain rfl := (List.cons.inj e4_3).1
  obtain ⟨a4_4, e4_4, w4_4⟩ := f58.int Try.underlying3
  obtain rfl := (List.cons.inj e4_4).1
  obtain ⟨a4_5, e4_5, w4_5⟩ := f59.int Try.underlying3
  obtain rfl := (List.cons.inj e4_5).1
  obtain ⟨a4_6, e4_6, w4_6⟩ := f60.int Try.underlying3
  obtain rfl := (List.cons.inj e4_6).1
  obtain ⟨a4_7, e4_7, w4_7⟩ := f61.int Try.underlying3
  obtain rfl := (List.cons.inj e4_7).1
  clear hA0 hval0
  refine (calls_true ((by subst g0; exact (law29_PlannerSteps_c (G := whole W) List.mem_cons_self (slInts s0 q0 m0 rfl) (law_steps29 (fun y hy => wf_u8 (q0 y hy)) _ _ _ _)).retv))).mono fun e W' ⟨he, bel⟩ => ?_
  subst he
  exact ⟨_, rfl, _, _, _, [], _, [], hW', trodAll_mk1 (shut_bool Try.underlying4 _), (trodAll_cons_mk (Below.trod laidOut (by kernel_rfl) (of_decide_eq_true (by kernel_rfl)) k0 bel lt0) (trodAll_cons_mk (Below.trod laidOut (by kernel_rfl) (of_decide_eq_true (by kernel_rfl)) k1 bel lt1) (trodAll_cons_mk (Below.trod laidOut (by kernel_rfl) (of_decide_eq_true (by kernel_rfl)) k2 bel lt2) (trodAll_cons_mk (Below.trod laidOut (by kernel_rfl) (of_decide_eq_true (by kernel_rfl)) k3 bel lt3) (trodAll_cons_mk (Below.trod laidOut (by kernel_rfl) (of_decide_eq_true (by kernel_rfl)) k4 bel lt4) trodAll_mk0))))), rfl, bel.frame _, fun h => by cases h⟩

theorem over : Rows.plannerStepsRow.holds Try.pinned (OpenSpec.ofChange Rows.plannerStepsSpec) :=
  OpenClaim.holds_of_wide 7 Try.f7 rfl rfl rfl rfl rfl rfl rfl ⟨rfl, rfl, rfl, rfl, rfl⟩ rfl rfl rfl rfl rfl (by kernel_rfl) Try.func7 (by kernel_rfl)
    (of_decide_eq_true (by kernel_rfl)) (by unfold Func.isWrapper; first | (rw [if_pos (by decide +kernel)]; kernel_rfl) | (rw [if_neg (by decide +kernel)]; exact ⟨rfl, rfl⟩))
    (fun os started H enc _ => lifted os started H enc)

theorem proved : Rows.PlannerStepsSaid := over
end Go.Proofs.Ytmjidoadjinhgaa.plannerSteps
