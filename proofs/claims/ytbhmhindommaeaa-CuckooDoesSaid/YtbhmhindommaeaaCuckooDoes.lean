/- Proved: the statement CuckooDoesSaid: for every input the law returns true, and each argument reads afterwards as it read before. No condition of ours. -/
import Derived.Test.YtbhmhindommaeaaRows
import Derived.WalkKit
import Derived.ProofKit
import Derived.OpenShut
import Derived.ShutString
import Derived.ChangeOld
import Derived.Below
import Derived.Test.YtbhmhindommaeaaK14
import Derived.Test.YtbhmhindommaeaaL8
import Derived.Test.YtbhmhindommaeaaWCuckooDoes
import Derived.Test.YtbhmhindommaeaaC19u
namespace Go.Proofs.Ytbhmhindommaeaa.cuckooDoes
open Go.ChangeShapes Go.WideShapes Go.ChangeAt Go.RowKit
set_option linter.unusedVariables false

theorem own : ownKnob Try.prog.godebug = none := by kernel_rfl
theorem laidOut : laidOutB Try.prog = true := by kernel_rfl

set_option maxRecDepth 100000 in
theorem lifted (os : Os) (started : os.Started) (H : Type) (enc : TypeId × Value → H) :
    ReturnsInHanded {} Try.checked os 7 .any (Rows.cuckooDoesSpec.pre6 enc Try.prog Try.f7 Rows.cuckooDoesRow.domain false) (Rows.cuckooDoesSpec.post enc Try.prog Try.f7 false true false false) := by
  refine returnsInHanded_of_change (C := Try.checked) own started (by kernel_rfl) Try.func7
    (ChangeSpec.witness6 (enc := enc) (C := Try.checked) false ⟨#[], #[.slice none 0 0, .agg #[.int .i64 0, .slice none 0 0], .slice none 0 0, .int .i64 0, .int .i64 0, .agg #[.slice none 0 0]], []⟩ 8 (by kernel_rfl) (by kernel_rfl) (by kernel_rfl) (by kernel_rfl)) ?_
  intro W base args ds gs before hval0 hW hcnd _
  have hval : ∀ (j : Nat) t v, Try.f7.params[j]? = some t → args[j]? = some v → Value.okWide Try.prog W .any base t v := hval0
  have hW' := hW
  obtain ⟨p, q, hA0, hV, rfl, hfz, hnd⟩ := hW
  have hA : DataW.TrodAll enc Try.prog W 0 (fun _ => true) true Try.f7.params.toList args.toList ds p := hA0
  rw [Try.params7] at hA hval
  obtain ⟨v0, vs0, d0, ds0, p0, q0, hargs, rfl, rfl, h0, r0⟩ := trodAll_cons hA
  obtain ⟨v1, vs1, d1, ds1, p1, q1, rfl, rfl, rfl, h1, r1⟩ := trodAll_cons r0
  obtain ⟨v2, vs2, d2, ds2, p2, q2, rfl, rfl, rfl, h2, r2⟩ := trodAll_cons r1
  obtain ⟨v3, vs3, d3, ds3, p3, q3, rfl, rfl, rfl, h3, r3⟩ := trodAll_cons r2
  obtain ⟨v4, vs4, d4, ds4, p4, q4, rfl, rfl, rfl, h4, r4⟩ := trodAll_cons r3
  obtain ⟨v5, vs5, d5, ds5, p5, q5, rfl, rfl, rfl, h5, r5⟩ := trodAll_cons r4
  obtain ⟨rfl, rfl, rfl⟩ := trodAll_nil r5
  obtain rfl : args = #[v0, v1, v2, v3, v4, v5] := by cases args; simp_all
  obtain ⟨rfl, rfl⟩ := trodVars_none hV
  have k0 := h0
  have lt0 : ∀ x ∈ p0, x.block < W.heap.size := by obtain ⟨m, hm⟩ := k0; exact DataW.trod_lt m _ _ _ hm
  obtain ⟨u0, u0n, u0c, rfl⟩ := okWide_slice Try.underlying22 (hval 0 22 v0 rfl rfl)
  obtain ⟨a0, n0, c0, l0, e0, s0, q0, m0, g0⟩ := (tr_slice h0).sliceOf (sz := 1) (fun x : Int => [(.int .i64 x : Value)]) (fun x : Int => (Lit.int .i64 x).wf = true) Try.underlying22 (by kernel_rfl) (by decide) (fun x hx => by obtain ⟨n, h1, h2⟩ := hx.int Try.underlying3; exact ⟨n, h1, h2⟩)
  obtain ⟨rfl, rfl, rfl⟩ := Value.slice.inj (List.cons.inj e0).1
  have k1 := h1
  have lt1 : ∀ x ∈ p1, x.block < W.heap.size := by obtain ⟨m, hm⟩ := k1; exact DataW.trod_lt m _ _ _ hm
  obtain ⟨cs1, rfl⟩ := arg_agg Try.underlying25 (hval 1 25 v1 rfl rfl)
  have t1 := tr_agg h1
  obtain ⟨z1_0, z1_1, rfl⟩ := len2 (t1.len Try.underlying25 (by kernel_rfl))
  have f1 := t1.fld 0 (m := 1) (cs' := [z1_0]) Try.underlying25 rfl (by kernel_rfl) rfl
  have f2 := t1.fld 1 (m := 1) (cs' := [z1_1]) Try.underlying25 rfl (by kernel_rfl) rfl
  obtain ⟨a1_0, e1_0, w1_0⟩ := f1.int Try.underlying3
  obtain rfl := (List.cons.inj e1_0).1
  obtain ⟨a1_1, n1_1, c1_1, l1_1, e1_1, s1_1, q1_1, m1_1, g1_1⟩ := f2.sliceOf (sz := 2) (fun x : Int × Int => [(.int .i64 x.1 : Value), .int .i64 x.2]) (fun x : Int × Int => (Lit.int .i64 x.1).wf = true ∧ (Lit.int .i64 x.2).wf = true) Try.underlying23 (by kernel_rfl) (by decide) (fun x hx => by
    obtain ⟨c0, c1, rfl⟩ := len2 (hx.len Try.underlying40 (by kernel_rfl))
    have f3 := hx.fld 0 (m := 1) (cs' := [c0]) Try.underlying40 rfl (by kernel_rfl) rfl
    have f4 := hx.fld 1 (m := 1) (cs' := [c1]) Try.underlying40 rfl (by kernel_rfl) rfl
    obtain ⟨x0, e0, w0⟩ := f3.int Try.underlying3
    obtain rfl := (List.cons.inj e0).1
    obtain ⟨x1, e1, w1⟩ := f4.int Try.underlying3
    obtain rfl := (List.cons.inj e1).1
    exact ⟨(x0, x1), rfl, w0, w1⟩)
  obtain rfl := (List.cons.inj e1_1).1
  have k2 := h2
  have lt2 : ∀ x ∈ p2, x.block < W.heap.size := by obtain ⟨m, hm⟩ := k2; exact DataW.trod_lt m _ _ _ hm
  obtain ⟨u2, u2n, u2c, rfl⟩ := okWide_slice Try.underlying22 (hval 2 22 v2 rfl rfl)
  obtain ⟨a2, n2, c2, l2, e2, s2, q2, m2, g2⟩ := (tr_slice h2).sliceOf (sz := 1) (fun x : Int => [(.int .i64 x : Value)]) (fun x : Int => (Lit.int .i64 x).wf = true) Try.underlying22 (by kernel_rfl) (by decide) (fun x hx => by obtain ⟨n, h1, h2⟩ := hx.int Try.underlying3; exact ⟨n, h1, h2⟩)
  obtain ⟨rfl, rfl, rfl⟩ := Value.slice.inj (List.cons.inj e2).1
  have k3 := h3
  have lt3 : ∀ x ∈ p3, x.block < W.heap.size := by obtain ⟨m, hm⟩ := k3; exact DataW.trod_lt m _ _ _ hm
  obtain ⟨a3, rfl, -, -, w3⟩ := open_int Try.underlying3 (hval 3 3 v3 rfl rfl) h3
  have k4 := h4
  have lt4 : ∀ x ∈ p4, x.block < W.heap.size := by obtain ⟨m, hm⟩ := k4; exact DataW.trod_lt m _ _ _ hm
  obtain ⟨a4, rfl, -, -, w4⟩ := open_int Try.underlying3 (hval 4 3 v4 rfl rfl) h4
  have k5 := h5
  have lt5 : ∀ x ∈ p5, x.block < W.heap.size := by obtain ⟨m, hm⟩ := k5; exact DataW.trod_lt m _ _ _ hm
  obtain ⟨cs5, rfl⟩ := arg_agg Try.underlying43 (hval 5 43 v5 rfl rfl)
  have t5 := tr_agg h5
  obtain ⟨z5_0, rfl⟩ := len1 (t5.len Try.underlying43 (by kernel_rfl))
  have f5 := t5.fld 0 (m := 1) (cs' := [z5_0]) Try.underlying43 rfl (by kernel_rfl) rfl
  obtain ⟨a5_0, n5_0, c5_0, l5_0, e5_0, s5_0, q5_0, m5_0, g5_0⟩ := f5.sliceOf (sz := 1) (fun x : Int => [(.int .i64 x : Value)]) (fun x : Int => (Lit.int .i64 x).wf = true) Try.underlying22 (by kernel_rfl) (by decide) (fun x hx => by obtain ⟨n, h1, h2⟩ := hx.int Try.underlying3; exact ⟨n, h1, h2⟩)
  obtain rfl := (List.cons.inj e5_0).1
  clear hA0 hval0
  refine (calls_true (by subst g0 g1_1 g2 g5_0; exact (law19_CuckooDoes_c (G := whole W) List.mem_cons_self (slInts s0 q0 m0 rfl) (slR_of (A := Rep.pair (Rep.int .i64) (Rep.int .i64)) s1_1 q1_1 m1_1 rfl (fun x _ => ⟨[_], [_], rfl, rfl, rfl⟩)) (slInts s2 q2 m2 rfl) (slInts s5_0 q5_0 m5_0 rfl) (law_does _ _ _ _ _ _)).retv)).mono fun e W' ⟨he, bel⟩ => ?_
  subst he
  exact ⟨_, rfl, _, _, _, [], _, [], hW', trodAll_mk1 (shut_bool Try.underlying4 _), (trodAll_cons_mk (Below.trod laidOut (by kernel_rfl) (of_decide_eq_true (by kernel_rfl)) k0 bel lt0) (trodAll_cons_mk (Below.trod laidOut (by kernel_rfl) (of_decide_eq_true (by kernel_rfl)) k1 bel lt1) (trodAll_cons_mk (Below.trod laidOut (by kernel_rfl) (of_decide_eq_true (by kernel_rfl)) k2 bel lt2) (trodAll_cons_mk (Below.trod laidOut (by kernel_rfl) (of_decide_eq_true (by kernel_rfl)) k3 bel lt3) (trodAll_cons_mk (Below.trod laidOut (by kernel_rfl) (of_decide_eq_true (by kernel_rfl)) k4 bel lt4) (trodAll_cons_mk (Below.trod laidOut (by kernel_rfl) (of_decide_eq_true (by kernel_rfl)) k5 bel lt5) trodAll_mk0)))))), rfl, bel.frame _, fun h => by cases h⟩

theorem over : Rows.cuckooDoesRow.holds Try.pinned (OpenSpec.ofChange Rows.cuckooDoesSpec) :=
  OpenClaim.holds_of_wide 7 Try.f7 rfl rfl rfl rfl rfl rfl rfl ⟨rfl, rfl, rfl, rfl, rfl⟩ rfl rfl rfl rfl rfl (by kernel_rfl) Try.func7 (by kernel_rfl)
    (of_decide_eq_true (by kernel_rfl)) (by unfold Func.isWrapper; first | (rw [if_pos (by decide +kernel)]; kernel_rfl) | (rw [if_neg (by decide +kernel)]; exact ⟨rfl, rfl⟩))
    (fun os started H enc _ => lifted os started H enc)

theorem proved : Rows.CuckooDoesSaid := over
end Go.Proofs.Ytbhmhindommaeaa.cuckooDoes
