/- Chapter 29, plain: schemes, what they bear and cost. -/
import Derived.Test.YtmjidoadjinhgaaS
namespace Go.Proofs.Ytmjidoadjinhgaa

theorem bt {p : Prop} [Decidable p] (h : p) : decide p = true := decide_eq_true h
theorem nb_t {p : Prop} [Decidable p] (h : p) : ¬ ((!decide p) = true) := by simp [h]
theorem nb_f {p : Prop} [Decidable p] (h : ¬ p) : (!decide p) = true := by simp [h]
theorem bf {p : Prop} [Decidable p] (h : ¬ p) : ¬ (decide p = true) := by simp [h]
theorem sd {p q : Prop} [Decidable p] [Decidable q] (h : p ↔ q) : some (decide p) = some (decide q) := congrArg some (decide_eq_decide.2 h)

abbrev Sch := Int × Int × Int × Int
abbrev Cst := Int × Int × Int
abbrev Cho := Sch × Cst × Int
abbrev Wnt := Int × Int × Int × Int × Int × Int × Int × (Int × Int × Int)

/-- A scheme that is one. -/
def okS (s : Sch) : Prop := (2 ≤ s.2.1 ∧ s.2.1 ≤ 10) ∧ ((s.1 = 1 ∧ s.2.2.1 = 0 ∧ s.2.2.2 = 0) ∨ (s.1 = 2 ∧ 1 ≤ s.2.2.1 ∧ s.2.2.1 ≤ s.2.1 - 1 ∧ s.2.2.2 = 0) ∨
  (s.1 = 3 ∧ 1 ≤ s.2.2.1 ∧ 1 ≤ s.2.2.2 ∧ 2 * s.2.2.2 + s.2.2.1 - 1 ≤ s.2.1))
instance (s : Sch) : Decidable (okS s) := by unfold okS; infer_instance

theorem within_eq (x lo hi : Int) : scheme_within x lo hi = some (decide (lo ≤ x ∧ x ≤ hi)) := rfl
theorem pwithin_eq (x lo hi : Int) : planner_within x lo hi = some (decide (lo ≤ x ∧ x ≤ hi)) := rfl

theorem shape_eq (s : Sch) : scheme_Shape s = some (decide (okS s)) := by
  obtain ⟨k, n, a, b⟩ := s
  unfold scheme_Shape
  simp only [within_eq, Option.bind_some]
  by_cases hn : 2 ≤ n ∧ n ≤ 10
  · rw [if_neg (nb_t hn)]
    by_cases h1 : k = 1
    · rw [if_pos h1]; exact sd (by unfold okS; dsimp only; omega)
    rw [if_neg h1]
    by_cases h2 : k = 2
    · rw [if_pos h2, w64_id (by omega) (by omega)]; exact sd (by rw [decide_eq_true_eq]; unfold okS; dsimp only; omega)
    rw [if_neg h2]
    by_cases h3 : k = 3
    · rw [if_pos h3]
      by_cases ha : 1 ≤ a ∧ a ≤ n
      · rw [if_pos (bt ha)]
        simp only [Option.bind_some]
        by_cases hb : 1 ≤ b ∧ b ≤ n
        · rw [w64_id (x := 2 * b) (by omega) (by omega), w64_id (x := 2 * b + a) (by omega) (by omega), w64_id (by omega) (by omega)]
          exact sd (by rw [decide_eq_true_eq]; unfold okS; dsimp only; omega)
        · exact sd (by rw [decide_eq_true_eq]; unfold okS; dsimp only; omega)
      · rw [if_neg (bf ha)]
        simp only [Option.bind_some]
        exact sd (by unfold okS; dsimp only; simp only [Bool.false_eq_true, false_and, false_iff]; omega)
    rw [if_neg h3]
    exact (congrArg some (decide_eq_false (by unfold okS; dsimp only; omega))).symm
  · rw [if_pos (nb_f hn)]
    exact (congrArg some (decide_eq_false (by unfold okS; dsimp only; omega))).symm
theorem rshape_eq (s : Sch) : ref23_Shape s = some (decide (okS s)) := by
  obtain ⟨k, n, a, b⟩ := s
  unfold ref23_Shape
  dsimp only
  by_cases hn : 2 ≤ n ∧ n ≤ 10
  · rw [if_neg (by omega)]
    by_cases h1 : k = 1
    · rw [if_pos h1]; exact sd (by unfold okS; dsimp only; omega)
    rw [if_neg h1]
    by_cases h2 : k = 2
    · rw [if_pos h2, w64_id (by omega) (by omega)]; exact sd (by unfold okS; dsimp only; omega)
    rw [if_neg h2]
    by_cases h3 : k = 3
    · rw [if_pos h3]
      by_cases ha : (1 ≤ a ∧ a ≤ 10) ∧ 1 ≤ b ∧ b ≤ 10
      · rw [w64_id (x := 2 * b) (by omega) (by omega), w64_id (x := 2 * b + a) (by omega) (by omega), w64_id (by omega) (by omega)]
        exact sd (by unfold okS; dsimp only; omega)
      · exact sd (by unfold okS; dsimp only; omega)
    rw [if_neg h3]
    exact (congrArg some (decide_eq_false (by unfold okS; dsimp only; omega))).symm
  · rw [if_pos (by omega)]
    exact (congrArg some (decide_eq_false (by unfold okS; dsimp only; omega))).symm

/-- How many servers may put their heads together. -/
def thr (s : Sch) : Int := if okS s then (if s.1 = 1 then s.2.1 - 1 else s.2.2.1) else 0
/-- How many answers are needed. -/
def need (s : Sch) : Int := if okS s then (if s.1 = 1 then s.2.1 else if s.1 = 2 then s.2.2.1 + 1 else 2 * s.2.2.2 + s.2.2.1 - 1) else 0
theorem thr_eq (s : Sch) : scheme_Threshold s = some (thr s) := by
  unfold scheme_Threshold thr
  rw [shape_eq]
  simp only [Option.bind_some]
  by_cases h : okS s
  · rw [if_neg (nb_t h), if_pos h]
    have := h.1
    split
    · rw [w64_id (by omega) (by omega)]
    · rfl
  · rw [if_pos (nb_f h), if_neg h]
theorem rthr_eq (s : Sch) : ref23_Threshold s = some (thr s) := by
  unfold ref23_Threshold thr
  rw [rshape_eq]
  simp only [Option.bind_some]
  by_cases h : okS s
  · rw [if_neg (nb_t h), if_pos h]
    have := h.1
    split
    · rw [w64_id (by omega) (by omega)]
    · rfl
  · rw [if_pos (nb_f h), if_neg h]
theorem need_eq (s : Sch) : scheme_Need s = some (need s) := by
  unfold scheme_Need need
  rw [shape_eq]
  simp only [Option.bind_some]
  by_cases h : okS s
  · rw [if_neg (nb_t h), if_pos h]
    obtain ⟨k, n, a, b⟩ := s
    have h1 := h.1; have h2 := h.2
    dsimp only at h1 h2 ⊢
    have e : mput (mput (mput ([] : List (Int × Int)) 1 n) 2 (w64 (a + 1))) 3 (w64 (w64 (w64 (2 * b) + a) - 1)) = [(1, n), (2, w64 (a + 1)), (3, w64 (w64 (w64 (2 * b) + a) - 1))] := by simp [mput]
    rw [e]
    rcases h2 with ⟨rfl, _⟩ | ⟨rfl, _, _, _⟩ | ⟨rfl, _, _, _⟩
    · simp [mget]
    · rw [w64_id (x := a + 1) (by omega) (by omega)]; simp [mget]
    · rw [w64_id (x := 2 * b) (by omega) (by omega), w64_id (x := 2 * b + a) (by omega) (by omega), w64_id (x := 2 * b + a - 1) (by omega) (by omega)]; simp [mget]
  · rw [if_pos (nb_f h), if_neg h]
theorem rneed_eq (s : Sch) : ref23_Need s = some (need s) := by
  unfold ref23_Need need
  rw [rshape_eq]
  simp only [Option.bind_some]
  by_cases h : okS s
  · rw [if_neg (nb_t h), if_pos h]
    obtain ⟨k, n, a, b⟩ := s
    have h1 := h.1; have h2 := h.2
    dsimp only at h1 h2 ⊢
    by_cases k1 : k = 1
    · rw [if_pos k1, if_pos k1]
    · rw [if_neg k1, if_neg k1]
      by_cases k2 : k = 2
      · rw [if_pos k2, if_pos k2, w64_id (by omega) (by omega)]
      · rw [if_neg k2, if_neg k2, w64_id (x := 2 * b) (by omega) (by omega), w64_id (x := 2 * b + a) (by omega) (by omega), w64_id (by omega) (by omega)]
  · rw [if_pos (nb_f h), if_neg h]
theorem need_le {s : Sch} (h : okS s) : 0 ≤ need s ∧ need s ≤ 10 := by
  unfold need
  rw [if_pos h]
  obtain ⟨k, n, a, b⟩ := s
  have h1 := h.1; have h2 := h.2
  dsimp only at h1 h2 ⊢
  split
  · omega
  · split <;> omega

/-- What a scheme bears. -/
def bearsP (s : Sch) (x y : Int) : Prop := okS s ∧ (0 ≤ x ∧ x ≤ s.2.1) ∧ (0 ≤ y ∧ y ≤ s.2.1) ∧ need s + x + 2 * y ≤ s.2.1
instance (s : Sch) (x y : Int) : Decidable (bearsP s x y) := by unfold bearsP; infer_instance
theorem bears_eq (s : Sch) (x y : Int) : scheme_Bears s x y = some (decide (bearsP s x y)) := by
  unfold scheme_Bears
  rw [shape_eq, need_eq]
  simp only [within_eq, Option.bind_some]
  by_cases h : okS s
  · have h1 := h.1; have h2 := need_le h
    rw [if_pos (bt h)]
    simp only [Option.bind_some]
    by_cases hx : 0 ≤ x ∧ x ≤ s.2.1
    · rw [if_pos (bt hx)]
      simp only [Option.bind_some]
      by_cases hy : 0 ≤ y ∧ y ≤ s.2.1
      · rw [if_pos (bt hy)]
        simp only [Option.bind_some]
        rw [w64_id (x := need s + x) (by omega) (by omega), w64_id (x := 2 * y) (by omega) (by omega), w64_id (by omega) (by omega)]
        exact sd ⟨fun h3 => ⟨h, hx, hy, h3⟩, fun h3 => h3.2.2.2⟩
      · rw [if_neg (bf hy)]
        exact (congrArg some (decide_eq_false (fun h3 : bearsP s x y => hy h3.2.2.1))).symm
    · rw [if_neg (bf hx)]
      exact (congrArg some (decide_eq_false (fun h3 : bearsP s x y => hx h3.2.1))).symm
  · rw [if_neg (bf h)]
    exact (congrArg some (decide_eq_false (fun h3 : bearsP s x y => h h3.1))).symm
theorem rbears_eq (s : Sch) (x y : Int) : ref23_Bears s x y = some (decide (bearsP s x y)) := by
  unfold ref23_Bears
  rw [rshape_eq, rneed_eq]
  simp only [Option.bind_some, decide_eq_true_eq]
  by_cases h : (((okS s ∧ 0 ≤ x) ∧ 0 ≤ y) ∧ x ≤ s.2.1) ∧ y ≤ s.2.1
  · have h1 := h.1.1.1.1.1; have h2 := need_le h.1.1.1.1
    rw [if_pos h]
    simp only [Option.bind_some]
    rw [w64_id (x := need s + x) (by omega) (by omega), w64_id (x := 2 * y) (by omega) (by omega), w64_id (by omega) (by omega)]
    exact sd ⟨fun h3 => ⟨h.1.1.1.1, by omega, by omega, h3⟩, fun h3 => h3.2.2.2⟩
  · rw [if_neg h]
    exact (congrArg some (decide_eq_false (fun h3 : bearsP s x y => h ⟨⟨⟨⟨h3.1, h3.2.1.1⟩, h3.2.2.1.1⟩, h3.2.1.2⟩, h3.2.2.1.2⟩))).symm
end Go.Proofs.Ytmjidoadjinhgaa
