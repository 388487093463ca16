/- Proved: the statement BoundsStepsSaid: for every input the law returns true, and each argument reads afterwards as it read before. No condition of ours. -/
import Derived.Test.YtnfalgmfmiolbaaGreatRows
import Derived.WalkKit
import Derived.ProofKit
import Derived.OpenShut
import Derived.ShutString
import Derived.ChangeOld
import Derived.Below
import Derived.Test.YtnfalgmfmiolbaaGreatBoundsStepsQ7
namespace Go.Proofs.YtnfalgmfmiolbaaGreat.boundsSteps
open Go.ChangeShapes Go.WideShapes Go.ChangeAt Go.RowKit
set_option linter.unusedVariables false

theorem own : ownKnob Tryz.prog.godebug = none := by kernel_rfl
theorem laidOut : laidOutB Tryz.prog = true := by kernel_rfl

set_option maxRecDepth 100000 in
theorem lifted (os : Os) (started : os.Started) (H : Type) (enc : TypeId × Value → H) :
    ReturnsInHanded {} Tryz.checked os 4 .any (Rows.boundsStepsSpec.pre6 enc Tryz.prog Tryz.f4 Rows.boundsStepsRow.domain false) (Rows.boundsStepsSpec.post enc Tryz.prog Tryz.f4 false true false false) := by
  refine returnsInHanded_of_change (C := Tryz.checked) own started (by kernel_rfl) Tryz.func4
    (ChangeSpec.witness6 (enc := enc) (C := Tryz.checked) false ⟨#[], #[.slice none 0 0, .agg #[.int .i64 0, .int .i64 0, .int .i64 0, .int .i64 0], .agg #[.int .i64 0], .int .i64 0, .int .i64 0, .int .i64 0, .int .i64 0, .agg #[.int .i64 0, .slice none 0 0], .agg #[.int .i64 0, .slice none 0 0]], []⟩ 8 (by kernel_rfl) (by kernel_rfl) (by kernel_rfl) (by kernel_rfl)) ?_
  intro W base args ds gs before hval0 hW hcnd _
  have hval : ∀ (j : Nat) t v, Tryz.f4.params[j]? = some t → args[j]? = some v → Value.okWide Tryz.prog W .any base t v := hval0
  have hW' := hW
  obtain ⟨p, q, hA0, hV, rfl, hfz, hnd⟩ := hW
  have hA : DataW.TrodAll enc Tryz.prog W 0 (fun _ => true) true Tryz.f4.params.toList args.toList ds p := hA0
  rw [Tryz.params4] at hA hval
  obtain ⟨v0, vs0, d0, ds0, p0, q0, hargs, rfl, rfl, h0, r0⟩ := trodAll_cons hA
  obtain ⟨v1, vs1, d1, ds1, p1, q1, rfl, rfl, rfl, h1, r1⟩ := trodAll_cons r0
  obtain ⟨v2, vs2, d2, ds2, p2, q2, rfl, rfl, rfl, h2, r2⟩ := trodAll_cons r1
  obtain ⟨v3, vs3, d3, ds3, p3, q3, rfl, rfl, rfl, h3, r3⟩ := trodAll_cons r2
  obtain ⟨v4, vs4, d4, ds4, p4, q4, rfl, rfl, rfl, h4, r4⟩ := trodAll_cons r3
  obtain ⟨v5, vs5, d5, ds5, p5, q5, rfl, rfl, rfl, h5, r5⟩ := trodAll_cons r4
  obtain ⟨v6, vs6, d6, ds6, p6, q6, rfl, rfl, rfl, h6, r6⟩ := trodAll_cons r5
  obtain ⟨v7, vs7, d7, ds7, p7, q7, rfl, rfl, rfl, h7, r7⟩ := trodAll_cons r6
  obtain ⟨v8, vs8, d8, ds8, p8, q8, rfl, rfl, rfl, h8, r8⟩ := trodAll_cons r7
  obtain ⟨rfl, rfl, rfl⟩ := trodAll_nil r8
  obtain rfl : args = #[v0, v1, v2, v3, v4, v5, v6, v7, v8] := by cases args; simp_all
  obtain ⟨rfl, rfl⟩ := trodVars_none hV
  have k0 := h0
  have lt0 : ∀ x ∈ p0, x.block < W.heap.size := by obtain ⟨m, hm⟩ := k0; exact DataW.trod_lt m _ _ _ hm
  obtain ⟨u0, u0n, u0c, rfl⟩ := okWide_slice Tryz.underlying22 (hval 0 22 v0 rfl rfl)
  obtain ⟨a0, n0, c0, l0, e0, s0, q0, m0, g0⟩ := (tr_slice h0).sliceOf (sz := 1) (fun x : Int => [(.int .u8 x : Value)]) (fun x : Int => (Lit.int .u8 x).wf = true) Tryz.underlying22 (by kernel_rfl) (by decide) (fun x hx => by obtain ⟨n, h1, h2⟩ := hx.int Tryz.underlying5; exact ⟨n, h1, h2⟩)
  obtain ⟨rfl, rfl, rfl⟩ := Value.slice.inj (List.cons.inj e0).1
  have k1 := h1
  have lt1 : ∀ x ∈ p1, x.block < W.heap.size := by obtain ⟨m, hm⟩ := k1; exact DataW.trod_lt m _ _ _ hm
  obtain ⟨cs1, rfl⟩ := arg_agg Tryz.underlying27 (hval 1 27 v1 rfl rfl)
  have t1 := tr_agg h1
  obtain ⟨z1_0, z1_1, z1_2, z1_3, rfl⟩ := len4 (t1.len Tryz.underlying27 (by kernel_rfl))
  have f1 := t1.fld 0 (m := 1) (cs' := [z1_0]) Tryz.underlying27 rfl (by kernel_rfl) rfl
  have f2 := t1.fld 1 (m := 1) (cs' := [z1_1]) Tryz.underlying27 rfl (by kernel_rfl) rfl
  have f3 := t1.fld 2 (m := 1) (cs' := [z1_2]) Tryz.underlying27 rfl (by kernel_rfl) rfl
  have f4 := t1.fld 3 (m := 1) (cs' := [z1_3]) Tryz.underlying27 rfl (by kernel_rfl) rfl
  obtain ⟨a1_0, e1_0, w1_0⟩ := f1.int Tryz.underlying3
  obtain rfl := (List.cons.inj e1_0).1
  obtain ⟨a1_1, e1_1, w1_1⟩ := f2.int Tryz.underlying3
  obtain rfl := (List.cons.inj e1_1).1
  obtain ⟨a1_2, e1_2, w1_2⟩ := f3.int Tryz.underlying3
  obtain rfl := (List.cons.inj e1_2).1
  obtain ⟨a1_3, e1_3, w1_3⟩ := f4.int Tryz.underlying3
  obtain rfl := (List.cons.inj e1_3).1
  have k2 := h2
  have lt2 : ∀ x ∈ p2, x.block < W.heap.size := by obtain ⟨m, hm⟩ := k2; exact DataW.trod_lt m _ _ _ hm
  obtain ⟨cs2, rfl⟩ := arg_agg Tryz.underlying49 (hval 2 49 v2 rfl rfl)
  have t2 := tr_agg h2
  obtain ⟨z2_0, rfl⟩ := len1 (t2.len Tryz.underlying49 (by kernel_rfl))
  have f5 := t2.fld 0 (m := 1) (cs' := [z2_0]) Tryz.underlying49 rfl (by kernel_rfl) rfl
  obtain ⟨a2_0, e2_0, w2_0⟩ := f5.int Tryz.underlying3
  obtain rfl := (List.cons.inj e2_0).1
  have k3 := h3
  have lt3 : ∀ x ∈ p3, x.block < W.heap.size := by obtain ⟨m, hm⟩ := k3; exact DataW.trod_lt m _ _ _ hm
  obtain ⟨a3, rfl, -, -, w3⟩ := open_int Tryz.underlying3 (hval 3 3 v3 rfl rfl) h3
  have k4 := h4
  have lt4 : ∀ x ∈ p4, x.block < W.heap.size := by obtain ⟨m, hm⟩ := k4; exact DataW.trod_lt m _ _ _ hm
  obtain ⟨a4, rfl, -, -, w4⟩ := open_int Tryz.underlying3 (hval 4 3 v4 rfl rfl) h4
  have k5 := h5
  have lt5 : ∀ x ∈ p5, x.block < W.heap.size := by obtain ⟨m, hm⟩ := k5; exact DataW.trod_lt m _ _ _ hm
  obtain ⟨a5, rfl, -, -, w5⟩ := open_int Tryz.underlying3 (hval 5 3 v5 rfl rfl) h5
  have k6 := h6
  have lt6 : ∀ x ∈ p6, x.block < W.heap.size := by obtain ⟨m, hm⟩ := k6; exact DataW.trod_lt m _ _ _ hm
  obtain ⟨a6, rfl, -, -, w6⟩ := open_int Tryz.underlying3 (hval 6 3 v6 rfl rfl) h6
  have k7 := h7
  have lt7 : ∀ x ∈ p7, x.block < W.heap.size := by obtain ⟨m, hm⟩ := k7; exact DataW.trod_lt m _ _ _ hm
  obtain ⟨cs7, rfl⟩ := arg_agg Tryz.underlying73 (hval 7 73 v7 rfl rfl)
  have t7 := tr_agg h7
  obtain ⟨z7_0, z7_1, rfl⟩ := len2 (t7.len Tryz.underlying73 (by kernel_rfl))
  have f6 := t7.fld 0 (m := 1) (cs' := [z7_0]) Tryz.underlying73 rfl (by kernel_rfl) rfl
  have f7 := t7.fld 1 (m := 1) (cs' := [z7_1]) Tryz.underlying73 rfl (by kernel_rfl) rfl
  obtain ⟨a7_0, e7_0, w7_0⟩ := f6.int Tryz.underlying3
  obtain rfl := (List.cons.inj e7_0).1
  obtain ⟨a7_1, n7_1, c7_1, l7_1, e7_1, s7_1, q7_1, m7_1, g7_1⟩ := f7.sliceOf (sz := 2) (fun x : Int × Int => [(.int .i64 x.1 : Value), .int .i64 x.2]) (fun x : Int × Int => (Lit.int .i64 x.1).wf = true ∧ (Lit.int .i64 x.2).wf = true) Tryz.underlying71 (by kernel_rfl) (by decide) (fun x hx => by
    obtain ⟨c0, c1, rfl⟩ := len2 (hx.len Tryz.underlying123 (by kernel_rfl))
    have f8 := hx.fld 0 (m := 1) (cs' := [c0]) Tryz.underlying123 rfl (by kernel_rfl) rfl
    have f9 := hx.fld 1 (m := 1) (cs' := [c1]) Tryz.underlying123 rfl (by kernel_rfl) rfl
    obtain ⟨x0, e0, w0⟩ := f8.int Tryz.underlying3
    obtain rfl := (List.cons.inj e0).1
    obtain ⟨x1, e1, w1⟩ := f9.int Tryz.underlying3
    obtain rfl := (List.cons.inj e1).1
    exact ⟨(x0, x1), rfl, w0, w1⟩)
  obtain rfl := (List.cons.inj e7_1).1
  have k8 := h8
  have lt8 : ∀ x ∈ p8, x.block < W.heap.size := by obtain ⟨m, hm⟩ := k8; exact DataW.trod_lt m _ _ _ hm
  obtain ⟨cs8, rfl⟩ := arg_agg Tryz.underlying76 (hval 8 76 v8 rfl rfl)
  have t8 := tr_agg h8
  obtain ⟨z8_0, z8_1, rfl⟩ := len2 (t8.len Tryz.underlying76 (by kernel_rfl))
  have f10 := t8.fld 0 (m := 1) (cs' := [z8_0]) Tryz.underlying76 rfl (by kernel_rfl) rfl
  have f11 := t8.fld 1 (m := 1) (cs' := [z8_1]) Tryz.underlying76 rfl (by kernel_rfl) rfl
  obtain ⟨a8_0, e8_0, w8_0⟩ := f10.int Tryz.underlying3
  obtain rfl := (List.cons.inj e8_0).1
  obtain ⟨a8_1, n8_1, c8_1, l8_1, e8_1, s8_1, q8_1, m8_1, g8_1⟩ := f11.sliceOf (sz := 1) (fun x : ByteArray => [(.string x : Value)]) (fun x : ByteArray => x.size ≤ maxLen) Tryz.underlying74 (by kernel_rfl) (by decide) (fun x hx => by obtain ⟨n, h1, h2⟩ := hx.str Tryz.underlying9; exact ⟨n, h1, h2⟩)
  obtain rfl := (List.cons.inj e8_1).1
  clear hA0 hval0
  refine (calls_true (by subst g0 g7_1 g8_1; exact (law43_BoundsSteps_c (G := whole W) List.mem_cons_self (slInts s0 q0 m0 rfl) (slR_of (A := Rep.pair (Rep.int .i64) (Rep.int .i64)) s7_1 q7_1 m7_1 rfl (fun x _ => ⟨[_], [_], rfl, rfl, rfl⟩)) (slStrs s8_1 q8_1 m8_1 rfl) (law_steps (fun y hy => wf_u8 (q0 y hy)) _ _ _ _ _ _ _ _)).retv)).mono fun e W' ⟨he, bel⟩ => ?_
  subst he
  exact ⟨_, rfl, _, _, _, [], _, [], hW', trodAll_mk1 (shut_bool Tryz.underlying4 _), (trodAll_cons_mk (Below.trod laidOut (by kernel_rfl) (of_decide_eq_true (by kernel_rfl)) k0 bel lt0) (trodAll_cons_mk (Below.trod laidOut (by kernel_rfl) (of_decide_eq_true (by kernel_rfl)) k1 bel lt1) (trodAll_cons_mk (Below.trod laidOut (by kernel_rfl) (of_decide_eq_true (by kernel_rfl)) k2 bel lt2) (trodAll_cons_mk (Below.trod laidOut (by kernel_rfl) (of_decide_eq_true (by kernel_rfl)) k3 bel lt3) (trodAll_cons_mk (Below.trod laidOut (by kernel_rfl) (of_decide_eq_true (by kernel_rfl)) k4 bel lt4) (trodAll_cons_mk (Below.trod laidOut (by kernel_rfl) (of_decide_eq_true (by kernel_rfl)) k5 bel lt5) (trodAll_cons_mk (Below.trod laidOut (by kernel_rfl) (of_decide_eq_true (by kernel_rfl)) k6 bel lt6) (trodAll_cons_mk (Below.trod laidOut (by kernel_rfl) (of_decide_eq_true (by kernel_rfl)) k7 bel lt7) (trodAll_cons_mk (Below.trod laidOut (by kernel_rfl) (of_decide_eq_true (by kernel_rfl)) k8 bel lt8) trodAll_mk0))))))))), rfl, bel.frame _, fun h => by cases h⟩

theorem over : Rows.boundsStepsRow.holds Tryz.pinned (OpenSpec.ofChange Rows.boundsStepsSpec) :=
  OpenClaim.holds_of_wide 4 Tryz.f4 rfl rfl rfl rfl rfl rfl rfl ⟨rfl, rfl, rfl, rfl, rfl⟩ rfl rfl rfl rfl rfl (by kernel_rfl) Tryz.func4 (by kernel_rfl)
    (of_decide_eq_true (by kernel_rfl)) (by unfold Func.isWrapper; first | (rw [if_pos (by decide +kernel)]; kernel_rfl) | (rw [if_neg (by decide +kernel)]; exact ⟨rfl, rfl⟩))
    (fun os started H enc _ => lifted os started H enc)

theorem proved : Rows.BoundsStepsSaid := over
end Go.Proofs.YtnfalgmfmiolbaaGreat.boundsSteps
