/- Proved: the statement LookupStepsUptoSaid: where the arguments are together of bulk at most 1048576, the law returns true, and each argument reads afterwards as it read before. -/
import Derived.Test.YtmfppphlhgneeaaGreatRows
import Derived.WalkKit
import Derived.ProofKit
import Derived.OpenShut
import Derived.ShutString
import Derived.ChangeOld
import Derived.Below
import Derived.JoinedCond
import Derived.Test.YtmfppphlhgneeaaGreatLookupStepsQ6
namespace Go.Proofs.YtmfppphlhgneeaaGreat.lookupSteps
open Go.ChangeShapes Go.WideShapes Go.ChangeAt Go.RowKit
set_option linter.unusedVariables false

theorem own : ownKnob Tryz.prog.godebug = none := by kernel_rfl
theorem laidOut : laidOutB Tryz.prog = true := by kernel_rfl

set_option maxRecDepth 100000 in
theorem contract (H : Type) (enc : TypeId × Value → H) (W : World) (base : Nat) (args : Array Value) (ds gs : List (DataW H)) (before : List MemPlace)
    (hval0 : ∀ (j : Nat) t v, Tryz.f4.params[j]? = some t → args[j]? = some v → Value.okWide Tryz.prog W .any base t v)
    (hW : DataW.Whole enc Tryz.prog Tryz.f4.params.toList Rows.lookupStepsSpec.vars false W args.toList ds gs before) (hk : Rows.uptoSmall H (ds ++ gs) = true) :
    Calls Tryz.prog 4 args W fun e W' => ∃ v, e = .returned v ∧ Rows.lookupStepsSpec.post enc Tryz.prog Tryz.f4 false true false false W args v W' := by
  have hval : ∀ (j : Nat) t v, Tryz.f4.params[j]? = some t → args[j]? = some v → Value.okWide Tryz.prog W .any base t v := hval0
  have hW' := hW
  obtain ⟨p, q, hA0, hV, rfl, hfz, hnd⟩ := hW
  have hA : DataW.TrodAll enc Tryz.prog W 0 (fun _ => true) true Tryz.f4.params.toList args.toList ds p := hA0
  rw [Tryz.params4] at hA hval
  obtain ⟨v0, vs0, d0, ds0, p0, q0, hargs, rfl, rfl, h0, r0⟩ := trodAll_cons hA
  obtain ⟨v1, vs1, d1, ds1, p1, q1, rfl, rfl, rfl, h1, r1⟩ := trodAll_cons r0
  obtain ⟨v2, vs2, d2, ds2, p2, q2, rfl, rfl, rfl, h2, r2⟩ := trodAll_cons r1
  obtain ⟨v3, vs3, d3, ds3, p3, q3, rfl, rfl, rfl, h3, r3⟩ := trodAll_cons r2
  obtain ⟨v4, vs4, d4, ds4, p4, q4, rfl, rfl, rfl, h4, r4⟩ := trodAll_cons r3
  obtain ⟨v5, vs5, d5, ds5, p5, q5, rfl, rfl, rfl, h5, r5⟩ := trodAll_cons r4
  obtain ⟨v6, vs6, d6, ds6, p6, q6, rfl, rfl, rfl, h6, r6⟩ := trodAll_cons r5
  obtain ⟨v7, vs7, d7, ds7, p7, q7, rfl, rfl, rfl, h7, r7⟩ := trodAll_cons r6
  obtain ⟨rfl, rfl, rfl⟩ := trodAll_nil r7
  obtain rfl : args = #[v0, v1, v2, v3, v4, v5, v6, v7] := by cases args; simp_all
  obtain ⟨rfl, rfl⟩ := trodVars_none hV
  have hbk := of_decide_eq_true hk
  simp only [List.cons_append, List.nil_append, Rows.uptoBulkAll] at hbk
  have B0 : Rows.uptoBulk d0 ≤ 1048576 := by omega
  have B1 : Rows.uptoBulk d1 ≤ 1048576 := by omega
  have B2 : Rows.uptoBulk d2 ≤ 1048576 := by omega
  have B3 : Rows.uptoBulk d3 ≤ 1048576 := by omega
  have B4 : Rows.uptoBulk d4 ≤ 1048576 := by omega
  have B5 : Rows.uptoBulk d5 ≤ 1048576 := by omega
  have B6 : Rows.uptoBulk d6 ≤ 1048576 := by omega
  have B7 : Rows.uptoBulk d7 ≤ 1048576 := by omega
  have k0 := h0
  have lt0 : ∀ x ∈ p0, x.block < W.heap.size := by obtain ⟨m, hm⟩ := k0; exact DataW.trod_lt m _ _ _ hm
  obtain ⟨u0, u0n, u0c, rfl⟩ := okWide_slice Tryz.underlying22 (hval 0 22 v0 rfl rfl)
  obtain ⟨l0, ⟨a0, c0, e0, s0⟩, Q0⟩ := (Cvr.sl Tryz.underlying22 (by kernel_rfl) (by decide) (Cvr.int Tryz.underlying5)) _ (Xgf h0 B0)
  obtain ⟨rfl, rfl, rfl⟩ := Value.slice.inj (List.cons.inj e0).1
  have k1 := h1
  have lt1 : ∀ x ∈ p1, x.block < W.heap.size := by obtain ⟨m, hm⟩ := k1; exact DataW.trod_lt m _ _ _ hm
  obtain ⟨cs1, rfl⟩ := Xh7 Tryz.underlying31 (hval 1 31 v1 rfl rfl)
  obtain ⟨⟨⟨x1_0, x1_1⟩, x1_3, x1_4⟩, ⟨_, _, rfl, ⟨_, _, rfl, rfl, ⟨a1_1, k1_1, rfl, s1_1⟩⟩, ⟨_, _, rfl, rfl, ⟨a1_4, k1_4, rfl, s1_4⟩⟩⟩, Q1⟩ := (Cvr.struct3 Tryz.underlying31 (by kernel_rfl) rfl rfl rfl (by kernel_rfl) (by kernel_rfl) (by kernel_rfl) (Cvr.struct2 Tryz.underlying28 (by kernel_rfl) rfl rfl (by kernel_rfl) (by kernel_rfl) (Cvr.int Tryz.underlying3) (Cvr.sl Tryz.underlying26 (by kernel_rfl) (by decide) (Cvr.struct2 Tryz.underlying89 (by kernel_rfl) rfl rfl (by kernel_rfl) (by kernel_rfl) (Cvr.int Tryz.underlying3) (Cvr.int Tryz.underlying3)))) (Cvr.int Tryz.underlying3) (Cvr.sl Tryz.underlying29 (by kernel_rfl) (by decide) (Cvr.sl Tryz.underlying32 (by kernel_rfl) (by decide) (Cvr.struct2 Tryz.underlying69 (by kernel_rfl) rfl rfl (by kernel_rfl) (by kernel_rfl) (Cvr.str Tryz.underlying9) (Cvr.int Tryz.underlying3))))) cs1 (Xj9 h1 B1)
  have k2 := h2
  have lt2 : ∀ x ∈ p2, x.block < W.heap.size := by obtain ⟨m, hm⟩ := k2; exact DataW.trod_lt m _ _ _ hm
  obtain ⟨a2, rfl, -, -, w2⟩ := open_int Tryz.underlying3 (hval 2 3 v2 rfl rfl) h2
  have k3 := h3
  have lt3 : ∀ x ∈ p3, x.block < W.heap.size := by obtain ⟨m, hm⟩ := k3; exact DataW.trod_lt m _ _ _ hm
  obtain ⟨a3, rfl, -, -, w3⟩ := open_int Tryz.underlying3 (hval 3 3 v3 rfl rfl) h3
  have k4 := h4
  have lt4 : ∀ x ∈ p4, x.block < W.heap.size := by obtain ⟨m, hm⟩ := k4; exact DataW.trod_lt m _ _ _ hm
  obtain ⟨cs4, rfl⟩ := Xh7 Tryz.underlying36 (hval 4 36 v4 rfl rfl)
  obtain ⟨z4, rfl⟩ := len1 ((Xls h4).len Tryz.underlying36 (by kernel_rfl))
  obtain ⟨a4, e4, w4⟩ := ((Xls h4).fld 0 (m := 1) (cs' := [z4]) Tryz.underlying36 rfl (by kernel_rfl) rfl).int Tryz.underlying3
  obtain rfl := (List.cons.inj e4).1
  have k5 := h5
  have lt5 : ∀ x ∈ p5, x.block < W.heap.size := by obtain ⟨m, hm⟩ := k5; exact DataW.trod_lt m _ _ _ hm
  obtain ⟨a5, rfl⟩ := okWide_string Tryz.underlying9 (hval 5 9 v5 rfl rfl)
  obtain ⟨x5, e5, w5⟩ := (Xnj h5).str Tryz.underlying9
  obtain rfl := Value.string.inj (List.cons.inj e5).1
  have k6 := h6
  have lt6 : ∀ x ∈ p6, x.block < W.heap.size := by obtain ⟨m, hm⟩ := k6; exact DataW.trod_lt m _ _ _ hm
  obtain ⟨u6, u6n, u6c, rfl⟩ := okWide_slice Tryz.underlying63 (hval 6 63 v6 rfl rfl)
  obtain ⟨l6, ⟨a6, c6, e6, s6⟩, Q6⟩ := (Cvr.sl Tryz.underlying63 (by kernel_rfl) (by decide) (Cvr.struct3 Tryz.underlying80 (by kernel_rfl) rfl rfl rfl (by kernel_rfl) (by kernel_rfl) (by kernel_rfl) (Cvr.int Tryz.underlying40) (Cvr.sl Tryz.underlying48 (by kernel_rfl) (by decide) (Cvr.int Tryz.underlying3)) (Cvr.sl Tryz.underlying48 (by kernel_rfl) (by decide) (Cvr.int Tryz.underlying3)))) _ (Xgf h6 B6)
  obtain ⟨rfl, rfl, rfl⟩ := Value.slice.inj (List.cons.inj e6).1
  have k7 := h7
  have lt7 : ∀ x ∈ p7, x.block < W.heap.size := by obtain ⟨m, hm⟩ := k7; exact DataW.trod_lt m _ _ _ hm
  obtain ⟨cs7, rfl⟩ := Xh7 Tryz.underlying72 (hval 7 72 v7 rfl rfl)
  obtain ⟨⟨x7_0, x7_1⟩, ⟨_, _, rfl, rfl, ⟨a7_1, k7_1, rfl, s7_1⟩⟩, Q7⟩ := (Cvr.struct2 Tryz.underlying72 (by kernel_rfl) rfl rfl (by kernel_rfl) (by kernel_rfl) (Cvr.int Tryz.underlying3) (Cvr.sl Tryz.underlying46 (by kernel_rfl) (by decide) (Cvr.str Tryz.underlying9))) cs7 (Xj9 h7 B7)
  clear hA0 hval0
  refine (Xil (by exact (Xc6 (G := whole W) List.mem_cons_self s0 s1_1 s1_4 s6 s7_1 (Xir (fun y hy => Xou (Q0.2 y hy)) _ _ _ _ _ (fun o ho => (Q6.2 o ho).2.1.1) _)).retv)).mono fun e W' ⟨he, bel⟩ => ?_
  subst he
  exact ⟨_, rfl, _, _, _, [], _, [], hW', trodAll_mk1 (shut_bool Tryz.underlying4 _), (trodAll_cons_mk (Below.trod laidOut (by kernel_rfl) (of_decide_eq_true (by kernel_rfl)) k0 bel lt0) (trodAll_cons_mk (Below.trod laidOut (by kernel_rfl) (of_decide_eq_true (by kernel_rfl)) k1 bel lt1) (trodAll_cons_mk (Below.trod laidOut (by kernel_rfl) (of_decide_eq_true (by kernel_rfl)) k2 bel lt2) (trodAll_cons_mk (Below.trod laidOut (by kernel_rfl) (of_decide_eq_true (by kernel_rfl)) k3 bel lt3) (trodAll_cons_mk (Below.trod laidOut (by kernel_rfl) (of_decide_eq_true (by kernel_rfl)) k4 bel lt4) (trodAll_cons_mk (Below.trod laidOut (by kernel_rfl) (of_decide_eq_true (by kernel_rfl)) k5 bel lt5) (trodAll_cons_mk (Below.trod laidOut (by kernel_rfl) (of_decide_eq_true (by kernel_rfl)) k6 bel lt6) (trodAll_cons_mk (Below.trod laidOut (by kernel_rfl) (of_decide_eq_true (by kernel_rfl)) k7 bel lt7) trodAll_mk0)))))))), rfl, bel.frame _, fun h => by cases h⟩

set_option maxRecDepth 100000 in
theorem lifted (os : Os) (started : os.Started) (H : Type) (enc : TypeId × Value → H) (F : Stop.Interp) :
    ReturnsInHanded {} Tryz.checked os 4 .any ((Rows.OpenSpec.upto Rows.lookupStepsSpec).pre6 enc Tryz.prog Tryz.f4 Rows.lookupStepsUptoRow.domain false) (((Rows.OpenSpec.upto Rows.lookupStepsSpec).at F).post enc Tryz.prog Tryz.f4 false true false false) := by
  refine returnsInHanded_of_cond (C := Tryz.checked) (s := Rows.OpenSpec.upto Rows.lookupStepsSpec) (k := Rows.uptoSmall) rfl own started (by kernel_rfl) Tryz.func4
    (OpenSpec.witness (enc := enc) (C := Tryz.checked) (s := Rows.OpenSpec.upto Rows.lookupStepsSpec) (k := Rows.uptoSmall) rfl false ⟨#[], #[.slice none 0 0, .agg #[.int .i64 0, .slice none 0 0, .int .i64 0, .slice none 0 0], .int .i64 0, .int .i64 0, .agg #[.int .i64 0], .string ⟨#[]⟩, .slice none 0 0, .agg #[.int .i64 0, .slice none 0 0]], []⟩ 8 (by kernel_rfl) (by kernel_rfl) (by kernel_rfl)
      (x := ([.nil, .agg [.agg [.lit (.int .i64 0), .nil], .lit (.int .i64 0), .nil], .lit (.int .i64 0), .lit (.int .i64 0), .agg [.lit (.int .i64 0)], .lit (.string []), .nil, .agg [.lit (.int .i64 0), .nil]], [], [])) (by kernel_rfl) rfl (by kernel_rfl)) ?_
  intro W base args ds gs before hval hW _ hk _
  exact contract H enc W base args ds gs before hval hW hk

theorem over : Rows.lookupStepsUptoRow.holds Tryz.pinned (Rows.OpenSpec.upto Rows.lookupStepsSpec) :=
  OpenClaim.holds_of_cond 4 Tryz.f4 rfl rfl rfl rfl rfl rfl rfl ⟨rfl, rfl, rfl, rfl, rfl⟩ rfl rfl rfl rfl rfl (by kernel_rfl) Tryz.func4 (by kernel_rfl)
    (of_decide_eq_true (by kernel_rfl)) (by unfold Func.isWrapper; first | (rw [if_pos (by decide +kernel)]; kernel_rfl) | (rw [if_neg (by decide +kernel)]; exact ⟨rfl, rfl⟩))
    (fun os started H enc _ F => lifted os started H enc F)

theorem proved : Rows.LookupStepsUptoSaid := over
end Go.Proofs.YtmfppphlhgneeaaGreat.lookupSteps
