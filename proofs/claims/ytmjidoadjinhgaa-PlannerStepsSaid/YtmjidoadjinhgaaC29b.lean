/- Chapter 29, plain: wants, candidates, the best one. -/
import Derived.Test.YtmjidoadjinhgaaC29a
namespace Go.Proofs.Ytmjidoadjinhgaa

theorem nz_of {y : Int} (h : y ≠ 0) : nz y = some () := by unfold nz; rw [if_neg h]
theorem lidx_nat {α : Type} {l : List α} {i : Nat} (d : α) (h1 : i < l.length) : lidx l (i : Int) = some (l.getD i d) := by
  refine lidx_of (by omega) ?_
  rw [Int.toNat_natCast, List.getD_eq_getElem?_getD]
  simp [h1]
theorem lapp_ok {α : Type} {l m : List α} (h : l.length + m.length ≤ 16777216) : lapp l m = some (l ++ m) := by unfold lapp; rw [if_pos h]
theorem lsub_ok {α : Type} {l : List α} {i j : Int} (h0 : 0 ≤ i) (h1 : i ≤ j) (h2 : j ≤ l.length) : lsub l i j = some ((l.drop i.toNat).take (j - i).toNat) := by unfold lsub; rw [if_pos ⟨h0, h1, h2⟩]
theorem drop_getD {α : Type} (d : α) {l : List α} {v : Nat} (h : v < l.length) : l.drop v = l.getD v d :: l.drop (v + 1) := by
  rw [List.drop_eq_getElem_cons h, List.getD_eq_getElem?_getD]; simp [h]

/-- What is wanted makes sense. -/
def okW (x : Wnt) : Prop := (2 ≤ x.1 ∧ x.1 ≤ 10) ∧ ((0 ≤ x.2.1 ∧ x.2.1 ≤ x.1) ∧ (0 ≤ x.2.2.1 ∧ x.2.2.1 ≤ x.1) ∧ 0 ≤ x.2.2.2.1 ∧ x.2.2.2.1 ≤ x.1) ∧ (1 ≤ x.2.2.2.2.1 ∧ x.2.2.2.2.1 ≤ 1024) ∧ (1 ≤ x.2.2.2.2.2.1 ∧ x.2.2.2.2.2.1 ≤ 64) ∧
  (1 ≤ x.2.2.2.2.2.2.1 ∧ x.2.2.2.2.2.2.1 ≤ 16) ∧ (0 ≤ x.2.2.2.2.2.2.2.1 ∧ x.2.2.2.2.2.2.2.1 ≤ 1048576) ∧ (0 ≤ x.2.2.2.2.2.2.2.2.1 ∧ x.2.2.2.2.2.2.2.2.1 ≤ 1048576) ∧ 0 ≤ x.2.2.2.2.2.2.2.2.2 ∧ x.2.2.2.2.2.2.2.2.2 ≤ 1048576
instance (x : Wnt) : Decidable (okW x) := by unfold okW; infer_instance
theorem rvalid_eq (x : Wnt) : ref29_Valid x = some (decide (okW x)) := by
  unfold ref29_Valid
  exact sd (by unfold okW; omega)

section
variable (kx : Int → Int → Int → Int → Int → Int → Int → Int → Int → Int → Option Bool) (a b c z1 z2 z3 z4 z5 z6 z7 : Int)
theorem valid_L4 : ∀ (f v : Nat), v ≤ 3 → 3 - v < f → planner_Valid_L4 kx a b c z1 z2 z3 z4 z5 z6 z7 f (v : Int) = if ∀ x ∈ [a, b, c].drop v, 0 ≤ x ∧ x ≤ z1 then kx z1 a b c z2 z3 z4 z5 z6 z7 else some false
  | 0, v, _, h => by omega
  | f + 1, v, h1, h2 => by
    show planner_Valid_B4 kx a b c z1 z2 z3 z4 z5 z6 z7 (planner_Valid_L4 kx a b c z1 z2 z3 z4 z5 z6 z7 f) (v : Int) = _
    unfold planner_Valid_B4
    split
    · have hv : v < [a, b, c].length := by simp; omega
      rw [lidx_nat 0 hv]
      simp only [pwithin_eq, Option.bind_some]
      rw [drop_getD 0 hv, w64_id (by omega) (by omega), show ((v : Int) + 1) = ((v + 1 : Nat) : Int) by omega, valid_L4 f (v + 1) (by omega) (by omega)]
      by_cases h : 0 ≤ [a, b, c].getD v 0 ∧ [a, b, c].getD v 0 ≤ z1
      · rw [if_neg (nb_t h)]
        congr 1
        rw [List.forall_mem_cons]
        exact propext ⟨fun h3 => ⟨h, h3⟩, And.right⟩
      · rw [if_pos (nb_f h), if_neg (fun h3 => h (h3 _ (List.mem_cons_self ..)))]
    · have : v = 3 := by omega
      subst this
      rw [if_pos (by simp)]
theorem valid_L2 : ∀ (f v : Nat), v ≤ 3 → 3 - v < f → planner_Valid_L2 kx a b c z1 z2 z3 z4 z5 z6 z7 f (v : Int) = if ∀ x ∈ [a, b, c].drop v, 0 ≤ x ∧ x ≤ 1048576 then kx z1 z2 z3 z4 z5 z6 z7 a b c else some false
  | 0, v, _, h => by omega
  | f + 1, v, h1, h2 => by
    show planner_Valid_B2 kx a b c z1 z2 z3 z4 z5 z6 z7 (planner_Valid_L2 kx a b c z1 z2 z3 z4 z5 z6 z7 f) (v : Int) = _
    unfold planner_Valid_B2
    split
    · have hv : v < [a, b, c].length := by simp; omega
      rw [lidx_nat 0 hv]
      simp only [pwithin_eq, Option.bind_some]
      rw [drop_getD 0 hv, w64_id (by omega) (by omega), show ((v : Int) + 1) = ((v + 1 : Nat) : Int) by omega, valid_L2 f (v + 1) (by omega) (by omega)]
      by_cases h : 0 ≤ [a, b, c].getD v 0 ∧ [a, b, c].getD v 0 ≤ 1048576
      · rw [if_neg (nb_t h)]
        congr 1
        rw [List.forall_mem_cons]
        exact propext ⟨fun h3 => ⟨h, h3⟩, And.right⟩
      · rw [if_pos (nb_f h), if_neg (fun h3 => h (h3 _ (List.mem_cons_self ..)))]
    · have : v = 3 := by omega
      subst this
      rw [if_pos (by simp)]
end
theorem valid_eq (x : Wnt) : planner_Valid x = some (decide (okW x)) := by
  obtain ⟨n, c, s, w, r, wd, p, y1, y2, y3⟩ := x
  unfold planner_Valid
  dsimp only
  have e4 := valid_L4 planner_Valid_J3 c s w n r wd p y1 y2 y3 big 0 (by omega) (by simp only [big]; omega)
  rw [show (0 : Int) = ((0 : Nat) : Int) from rfl, e4]
  by_cases h1 : ∀ x ∈ [c, s, w].drop 0, 0 ≤ x ∧ x ≤ n
  · rw [if_pos h1]
    unfold planner_Valid_J3
    have e2 := valid_L2 planner_Valid_J1 y1 y2 y3 n c s w r wd p big 0 (by omega) (by simp only [big]; omega)
    rw [show (0 : Int) = ((0 : Nat) : Int) from rfl, e2]
    have h1' : (0 ≤ c ∧ c ≤ n) ∧ (0 ≤ s ∧ s ≤ n) ∧ 0 ≤ w ∧ w ≤ n := by simpa using h1
    by_cases h2 : ∀ x ∈ [y1, y2, y3].drop 0, 0 ≤ x ∧ x ≤ 1048576
    · rw [if_pos h2]
      have h2' : (0 ≤ y1 ∧ y1 ≤ 1048576) ∧ (0 ≤ y2 ∧ y2 ≤ 1048576) ∧ 0 ≤ y3 ∧ y3 ≤ 1048576 := by simpa using h2
      unfold planner_Valid_J1
      simp only [pwithin_eq, Option.bind_some]
      by_cases a1 : 2 ≤ n ∧ n ≤ 10
      · rw [if_pos (bt a1)]
        simp only [Option.bind_some]
        by_cases a2 : 1 ≤ r ∧ r ≤ 1024
        · rw [if_pos (bt a2)]
          simp only [Option.bind_some]
          by_cases a3 : 1 ≤ wd ∧ wd ≤ 64
          · rw [if_pos (bt a3)]
            exact sd (by unfold okW; dsimp only; omega)
          · rw [if_neg (bf a3)]
            exact (congrArg some (decide_eq_false (by unfold okW; dsimp only; omega))).symm
        · rw [if_neg (bf a2)]
          exact (congrArg some (decide_eq_false (by unfold okW; dsimp only; omega))).symm
      · rw [if_neg (bf a1)]
        exact (congrArg some (decide_eq_false (by unfold okW; dsimp only; omega))).symm
    · rw [if_neg h2]
      have h2' : ¬ ((0 ≤ y1 ∧ y1 ≤ 1048576) ∧ (0 ≤ y2 ∧ y2 ≤ 1048576) ∧ 0 ≤ y3 ∧ y3 ≤ 1048576) := by simpa using h2
      exact (congrArg some (decide_eq_false (by unfold okW; dsimp only; omega))).symm
  · rw [if_neg h1]
    have h1' : ¬ ((0 ≤ c ∧ c ≤ n) ∧ (0 ≤ s ∧ s ≤ n) ∧ 0 ≤ w ∧ w ≤ n) := by simpa using h1
    exact (congrArg some (decide_eq_false (by unfold okW; dsimp only; omega))).symm

/-- A scheme serves. -/
def servesP (s : Sch) (x : Wnt) : Prop := okW x ∧ okS s ∧ s.2.1 = x.1 ∧ x.2.1 ≤ thr s ∧ bearsP s x.2.2.1 x.2.2.2.1
instance (s : Sch) (x : Wnt) : Decidable (servesP s x) := by unfold servesP; infer_instance
theorem serves_eq (s : Sch) (x : Wnt) : planner_Serves s x = some (decide (servesP s x)) := by
  unfold planner_Serves
  rw [valid_eq, shape_eq, thr_eq, bears_eq]
  simp only [Option.bind_some]
  have no : ¬ servesP s x → some false = some (decide (servesP s x)) := fun h => (congrArg some (decide_eq_false h)).symm
  by_cases h1 : okW x
  · rw [if_pos (bt h1)]
    simp only [Option.bind_some]
    by_cases h2 : okS s ∧ s.2.1 = x.1
    · rw [if_pos ⟨bt h2.1, h2.2⟩]
      simp only [Option.bind_some]
      by_cases h3 : x.2.1 ≤ thr s
      · rw [if_pos (bt h3)]
        exact sd ⟨fun h => ⟨h1, h2.1, h2.2, h3, h⟩, fun h => h.2.2.2.2⟩
      · rw [if_neg (bf h3)]; exact no (fun h => h3 h.2.2.2.1)
    · rw [if_neg (fun h => h2 ⟨of_decide_eq_true h.1, h.2⟩)]
      simp only [Option.bind_some]
      rw [if_neg (by decide)]; exact no (fun h => h2 ⟨h.2.1, h.2.2.1⟩)
  · rw [if_neg (bf h1)]
    simp only [Option.bind_some]
    rw [if_neg (by simp)]
    simp only [Option.bind_some]
    rw [if_neg (by decide)]; exact no (fun h => h1 h.1)
theorem rserves_eq (s : Sch) (x : Wnt) : ref29_Serves s x = some (decide (servesP s x)) := by
  unfold ref29_Serves
  rw [rvalid_eq, rshape_eq, rthr_eq, rbears_eq]
  simp only [Option.bind_some]
  have no : ¬ servesP s x → some false = some (decide (servesP s x)) := fun h => (congrArg some (decide_eq_false h)).symm
  by_cases h1 : okW x
  · rw [if_pos (bt h1)]
    simp only [Option.bind_some]
    by_cases h2 : okS s ∧ s.2.1 = x.1
    · rw [if_pos ⟨bt h2.1, h2.2⟩]
      simp only [Option.bind_some]
      by_cases h3 : x.2.1 ≤ thr s
      · rw [if_pos (bt h3)]
        exact sd ⟨fun h => ⟨h1, h2.1, h2.2, h3, h⟩, fun h => h.2.2.2.2⟩
      · rw [if_neg (bf h3)]; exact no (fun h => h3 h.2.2.2.1)
    · rw [if_neg (fun h => h2 ⟨of_decide_eq_true h.1, h.2⟩)]
      simp only [Option.bind_some]
      rw [if_neg (by decide)]; exact no (fun h => h2 ⟨h.2.1, h.2.2.1⟩)
  · rw [if_neg (bf h1)]
    simp only [Option.bind_some]
    rw [if_neg (by simp)]
    simp only [Option.bind_some]
    rw [if_neg (by decide)]; exact no (fun h => h1 h.1)

/-- The elements that a read asks for. -/
def un (s : Sch) (r : Int) : Int := if s.1 = 3 then (r + s.2.2.2 - 1) / s.2.2.2 else r
theorem un_le {s : Sch} (h : okS s) {r : Int} (hr : 1 ≤ r ∧ r ≤ 1024) : 0 ≤ un s r ∧ un s r ≤ 1024 := by
  unfold un
  split
  · rename_i h3
    have hb : 1 ≤ s.2.2.2 := by rcases h.2 with h | h | h <;> omega
    constructor
    · exact Int.ediv_nonneg (by omega) (by omega)
    · have : (r + s.2.2.2 - 1) / s.2.2.2 < r + 1 := Int.ediv_lt_of_lt_mul (by omega) (by
        have : r * 1 ≤ r * s.2.2.2 := Int.mul_le_mul_of_nonneg_left hb (by omega)
        rw [Int.add_mul]; omega)
      omega
  · omega
theorem un_w {s : Sch} (h : okS s) (h3 : s.1 = 3) {r : Int} (hr : 1 ≤ r ∧ r ≤ 1024) : (nz s.2.2.2).bind (fun _ => some (w64 (Int.tdiv (w64 (w64 (r + s.2.2.2) - 1)) s.2.2.2))) = some (un s r) := by
  have hb : 1 ≤ s.2.2.2 ∧ s.2.2.2 ≤ 10 := by have := h.1; rcases h.2 with h | h | h <;> omega
  have := un_le h hr
  rw [nz_of (by omega)]
  simp only [Option.bind_some]
  unfold un at this ⊢
  rw [if_pos h3] at this ⊢
  rw [w64_id (x := r + s.2.2.2) (by omega) (by omega), w64_id (x := r + s.2.2.2 - 1) (by omega) (by omega), Int.tdiv_eq_ediv_of_nonneg (by omega), w64_id (by omega) (by omega)]

/-- What a scheme costs. -/
def costI (s : Sch) (r wd p : Int) : Cst × Int :=
  if ¬ okS s then ((0, 0, 0), 40) else if ¬ ((1 ≤ r ∧ r ≤ 1024) ∧ (1 ≤ wd ∧ wd ≤ 64) ∧ 1 ≤ p ∧ p ≤ 16) then ((0, 0, 0), 1)
  else ((p * s.2.1 * un s r, p * s.2.1 * wd, p * s.2.1 * un s r * wd), 0)
theorem mul3 {a b : Int} (ha : 0 ≤ a ∧ a ≤ 1000) (hb : 0 ≤ b ∧ b ≤ 10000) : 0 ≤ a * b ∧ a * b ≤ 10000000 := by
  constructor
  · exact Int.mul_nonneg ha.1 hb.1
  · exact Int.mul_le_mul ha.2 hb.2 hb.1 (by omega)
theorem cost_w {s : Sch} (h : okS s) {r wd p : Int} (hr : 1 ≤ r ∧ r ≤ 1024) (hw : 1 ≤ wd ∧ wd ≤ 64) (hp : 1 ≤ p ∧ p ≤ 16) :
    (0 ≤ p * s.2.1 ∧ p * s.2.1 ≤ 160) ∧ (0 ≤ p * s.2.1 * un s r ∧ p * s.2.1 * un s r ≤ 163840) ∧ (0 ≤ p * s.2.1 * wd ∧ p * s.2.1 * wd ≤ 10240) ∧ 0 ≤ p * s.2.1 * un s r * wd ∧ p * s.2.1 * un s r * wd ≤ 10485760 := by
  have hn := h.1
  have hu := un_le h hr
  have a1 : 0 ≤ p * s.2.1 := Int.mul_nonneg (by omega) (by omega)
  have a2 : p * s.2.1 ≤ 16 * 10 := Int.mul_le_mul (by omega) (by omega) (by omega) (by omega)
  have b1 : 0 ≤ p * s.2.1 * un s r := Int.mul_nonneg a1 hu.1
  have b2 : p * s.2.1 * un s r ≤ 160 * 1024 := Int.mul_le_mul (by omega) (by omega) (by omega) (by omega)
  have c1 : 0 ≤ p * s.2.1 * wd := Int.mul_nonneg a1 (by omega)
  have c2 : p * s.2.1 * wd ≤ 160 * 64 := Int.mul_le_mul (by omega) (by omega) (by omega) (by omega)
  have d1 : 0 ≤ p * s.2.1 * un s r * wd := Int.mul_nonneg b1 (by omega)
  have d2 : p * s.2.1 * un s r * wd ≤ 163840 * 64 := Int.mul_le_mul (by omega) (by omega) (by omega) (by omega)
  omega
/-- Units, or the error. -/
def unitsI (s : Sch) (r : Int) : Int × Int := if okS s then (if 1 ≤ r ∧ r ≤ 1024 then (un s r, 0) else (0, 1)) else (0, 40)
theorem unitsI_1 {s : Sch} {r : Int} (h : ¬ okS s) : unitsI s r = (0, 40) := by unfold unitsI; rw [if_neg h]
theorem unitsI_2 {s : Sch} {r : Int} (h : okS s) (hr : ¬ (1 ≤ r ∧ r ≤ 1024)) : unitsI s r = (0, 1) := by unfold unitsI; rw [if_pos h, if_neg hr]
theorem unitsI_3 {s : Sch} {r : Int} (h : okS s) (hr : 1 ≤ r ∧ r ≤ 1024) : unitsI s r = (un s r, 0) := by unfold unitsI; rw [if_pos h, if_pos hr]
theorem units_eq (s : Sch) (r : Int) : cost_Units s r = some (unitsI s r) := by
  unfold cost_Units scheme_Units
  rw [shape_eq]
  simp only [Option.bind_some, within_eq]
  by_cases h : okS s
  · rw [if_neg (nb_t h)]
    by_cases hr : 1 ≤ r ∧ r ≤ 1024
    · rw [unitsI_3 h hr, if_neg (show ¬ (r < 1 ∨ 1024 < r) by omega), if_neg (nb_t h)]
      simp only [Option.bind_some]
      rw [if_neg (nb_t hr)]
      by_cases h3 : s.1 = 3
      · rw [if_pos h3]
        unfold scheme_storage scheme_groups_units
        simp only [Option.bind_some]
        have := un_w h h3 hr
        rw [this]
        rfl
      · rw [if_neg h3]
        simp only [Option.bind_some]
        unfold un; rw [if_neg h3]
    · rw [unitsI_2 h hr, if_pos (show r < 1 ∨ 1024 < r by omega)]
  · rw [unitsI_1 h, if_pos (nb_f h)]
theorem runits_eq (s : Sch) (r : Int) : ref28_Units s r = some (unitsI s r) := by
  unfold ref28_Units ref23_Units
  rw [rshape_eq]
  simp only [Option.bind_some]
  by_cases h : okS s
  · rw [if_neg (nb_t h)]
    by_cases hr : 1 ≤ r ∧ r ≤ 1024
    · have hn : ¬ (((!decide (okS s)) = true ∨ r < 1) ∨ 1024 < r) := fun h2 => by
        rcases h2 with (h2 | h2) | h2
        · exact nb_t h h2
        · omega
        · omega
      rw [unitsI_3 h hr, if_neg (show ¬ (r < 1 ∨ 1024 < r) by omega), if_neg hn]
      by_cases h3 : s.1 = 3
      · rw [if_pos h3, un_w h h3 hr]; rfl
      · rw [if_neg h3]
        simp only [Option.bind_some]
        unfold un; rw [if_neg h3]
    · rw [unitsI_2 h hr, if_pos (show r < 1 ∨ 1024 < r by omega)]
  · rw [unitsI_1 h, if_pos (nb_f h)]
theorem costI_1 {s : Sch} {r wd p : Int} (h : ¬ okS s) : costI s r wd p = ((0, 0, 0), 40) := by unfold costI; rw [if_pos h]
theorem costI_2 {s : Sch} {r wd p : Int} (h : okS s) (h2 : ¬ ((1 ≤ r ∧ r ≤ 1024) ∧ (1 ≤ wd ∧ wd ≤ 64) ∧ 1 ≤ p ∧ p ≤ 16)) : costI s r wd p = ((0, 0, 0), 1) := by unfold costI; rw [if_neg (fun h3 => h3 h), if_pos h2]
theorem costI_3 {s : Sch} {r wd p : Int} (h : okS s) (h2 : (1 ≤ r ∧ r ≤ 1024) ∧ (1 ≤ wd ∧ wd ≤ 64) ∧ 1 ≤ p ∧ p ≤ 16) : costI s r wd p = ((p * s.2.1 * un s r, p * s.2.1 * wd, p * s.2.1 * un s r * wd), 0) := by unfold costI; rw [if_neg (fun h3 => h3 h), if_neg (fun h3 => h3 h2)]
theorem of_tail (s : Sch) (r wd p : Int) : ((some (unitsI s r) : Option (Int × Int)).bind fun u3 => if (u3.2 ≠ 0) then (some (((0 : Int), (0 : Int), (0 : Int)), u3.2)) else
    if ((((wd < 1) ∨ (64 < wd)) ∨ (p < 1)) ∨ (16 < p)) then (some ((0, 0, 0), 1)) else
    some (((w64 ((w64 (p * s.2.1)) * u3.1)), (w64 ((w64 (p * s.2.1)) * wd)), (w64 ((w64 ((w64 (p * s.2.1)) * u3.1)) * wd))), 0)) = some (costI s r wd p) := by
  simp only [Option.bind_some]
  by_cases h : okS s
  · by_cases hr : 1 ≤ r ∧ r ≤ 1024
    · rw [unitsI_3 h hr, if_neg (show ¬ ((0 : Int) ≠ 0) by decide)]
      by_cases hw : (1 ≤ wd ∧ wd ≤ 64) ∧ 1 ≤ p ∧ p ≤ 16
      · rw [if_neg (by omega), costI_3 h ⟨hr, hw⟩]
        obtain ⟨q1, q2, q3, q4⟩ := cost_w h hr hw.1 hw.2
        rw [w64_id (x := p * s.2.1) (by omega) (by omega), w64_id (x := p * s.2.1 * un s r) (by omega) (by omega), w64_id (x := p * s.2.1 * wd) (by omega) (by omega), w64_id (x := p * s.2.1 * un s r * wd) (by omega) (by omega)]
      · rw [if_pos (by omega), costI_2 h (fun h2 => hw h2.2)]
    · rw [unitsI_2 h hr, if_pos (show (1 : Int) ≠ 0 by decide), costI_2 h (fun h2 => hr h2.1)]
  · rw [unitsI_1 h, if_pos (show (40 : Int) ≠ 0 by decide), costI_1 h]
theorem of_eq (s : Sch) (r wd p : Int) : cost_Of s r wd p = some (costI s r wd p) := by
  unfold cost_Of
  rw [units_eq]
  exact of_tail s r wd p
theorem rof_eq (s : Sch) (r wd p : Int) : ref28_Of s r wd p = some (costI s r wd p) := by
  unfold ref28_Of
  rw [runits_eq]
  exact of_tail s r wd p
/-- A weighted sum of costs. -/
def sumI (c w : Cst) : Int := w64 (w64 (w64 (c.1 * w.1) + w64 (c.2.1 * w.2.1)) + w64 (c.2.2 * w.2.2))
theorem sum_eq (c w : Cst) : cost_Sum c w = some (sumI c w) := rfl
theorem rsum_eq (c w : Cst) : ref28_Sum c w = some (sumI c w) := rfl
end Go.Proofs.Ytmjidoadjinhgaa
