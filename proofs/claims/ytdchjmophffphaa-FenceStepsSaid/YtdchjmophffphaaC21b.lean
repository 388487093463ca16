/- Chapter 21, plain: the law FenceSteps. -/
import Derived.Test.YtdchjmophffphaaC21a
namespace Go.Proofs.Ytdchjmophffphaa

theorem room_L {k : Int → Option Bool} {b : Int} (hb : 2 ≤ b) (hb2 : b ≤ 8) (x : Int) (hx : x ≤ 9) : ∀ (f : Nat) (v i : Int), 0 ≤ i → i ≤ x → x - i < f → 0 ≤ v → v * b ^ (x - i).toNat ≤ 100000000 → law21_FenceSteps_L2 k b x f v i = k (v * b ^ (x - i).toNat)
  | 0, v, i, h0, h1, h2, _, _ => by omega
  | f + 1, v, i, h0, h1, h2, h3, h4 => by
    show law21_FenceSteps_B2 k b x (law21_FenceSteps_L2 k b x f) v i = _
    unfold law21_FenceSteps_B2
    split
    · rename_i h
      have e1 : (x - i).toNat = (x - (i + 1)).toNat + 1 := by omega
      have e2 : v * b ^ (x - i).toNat = (v * b) * b ^ (x - (i + 1)).toNat := by rw [e1, Int.pow_succ]; rw [Int.mul_comm (b ^ _) b, ← Int.mul_assoc]
      have hp : 1 ≤ b ^ (x - (i + 1)).toNat := by have : 0 < b ^ (x - (i + 1)).toNat := Int.pow_pos (by omega); omega
      have h5 : 0 ≤ v * b := Int.mul_nonneg h3 (by omega)
      have h6 : v * b * 1 ≤ (v * b) * b ^ (x - (i + 1)).toNat := Int.mul_le_mul_of_nonneg_left hp h5
      rw [w64_id (x := v * b) (by omega) (by omega), w64_id (x := i + 1) (by omega) (by omega), room_L hb hb2 x hx f _ _ (by omega) (by omega) (by omega) h5 (by rw [← e2]; exact h4), e2]
    · have : (x - i).toNat = 0 := by omega
      rw [this, Int.pow_zero, Int.mul_one]

theorem stepsI_ok {n b : Int} (h : 1 ≤ n ∧ n ≤ 256) (h2 : 2 ≤ b ∧ b ≤ 8) : stepsI n b = ((st b n : Int), 0) := by unfold stepsI; rw [if_pos ⟨h, h2⟩]

theorem law_steps {x0 x1 x2 x3 : Int} (w0 : 0 ≤ x0 ∧ x0 ≤ 255) (w1 : 0 ≤ x1 ∧ x1 ≤ 255) (w2 : 0 ≤ x2 ∧ x2 ≤ 255) (w3 : 0 ≤ x3 ∧ x3 ≤ 255) : law21_FenceSteps x0 x1 x2 x3 = some true := by
  unfold law21_FenceSteps
  rw [sane21]
  simp only [Option.bind_some]
  rw [if_neg (by simp)]
  have t2 : Int.tmod x2 7 = x2 % 7 := Int.tmod_eq_emod_of_nonneg (by omega)
  have t3 : Int.tmod x3 7 = x3 % 7 := Int.tmod_eq_emod_of_nonneg (by omega)
  rw [t2, t3]
  simp (disch := omega) only [w64_id]
  simp only [steps_eq, Option.bind_some]
  generalize hn : 1 + x0 = n
  generalize hm : min 256 (n + x1) = m
  generalize hb : 2 + x2 % 7 = b
  generalize hc : min 8 (b + x3 % 7) = c
  have h1 : 1 ≤ n ∧ n ≤ 256 := by omega
  have h2 : 1 ≤ m ∧ m ≤ 256 := by omega
  have h3 : 2 ≤ b ∧ b ≤ 8 := by omega
  have h4 : 2 ≤ c ∧ c ≤ 8 := by omega
  rw [stepsI_ok h1 h3, stepsI_ok h2 h3, stepsI_ok h1 h4]
  have px := st_pos b n
  have py := st_pos b m
  have pz := st_pos c n
  -- what the steps are
  have le1 : n ≤ b ^ st b n := (st_le h3.1 h1.2 _ px).1 (Nat.le_refl _)
  have le2 : m ≤ b ^ st b m := (st_le h3.1 h2.2 _ py).1 (Nat.le_refl _)
  have mono : st b n ≤ st b m := (st_le h3.1 h1.2 _ py).2 (by omega)
  have pw : ∀ j : Nat, b ^ j ≤ c ^ j := fun j => by
    induction j with
    | zero => simp
    | succ j ih =>
      rw [Int.pow_succ, Int.pow_succ]
      have p1 : 0 < b ^ j := Int.pow_pos (by omega)
      exact Int.mul_le_mul ih (by omega) (by omega) (by omega)
  have anti : st c n ≤ st b n := (st_le h4.1 h1.2 _ px).2 (by have := pw (st b n); omega)
  have x9 : st b n ≤ 8 := (st_le h3.1 h1.2 8 (by omega)).2 (by
    have : (2 : Int) ^ 8 ≤ b ^ 8 := by
      have e : ∀ j : Nat, (2 : Int) ^ j ≤ b ^ j := fun j => by
        induction j with
        | zero => simp
        | succ j ih =>
          rw [Int.pow_succ, Int.pow_succ]
          have p1 : 0 < (2 : Int) ^ j := Int.pow_pos (by omega)
          exact Int.mul_le_mul ih (by omega) (by omega) (by omega)
      exact e 8
    have e : (2 : Int) ^ 8 = 256 := rfl
    omega)
  have ps : b ^ st b n = b ^ (st b n - 1) * b := by rw [← Int.pow_succ]; congr 1; omega
  have small : st b n = 1 ∨ b ^ (st b n - 1) < n := by
    rcases Nat.lt_or_ge 1 (st b n) with h | h
    · refine .inr ?_
      have := (st_le h3.1 h1.2 (st b n - 1) (by omega))
      omega
    · exact .inl (by omega)
  have bigp : b ^ (st b n - 1) ≤ 256 := by
    rcases small with h | h
    · rw [h]; simp
    · omega
  have pp : 0 < b ^ (st b n - 1) := Int.pow_pos (by omega)
  have room : 1 * b ^ ((st b n : Int) - 0).toNat = b ^ st b n := by rw [Int.one_mul]; congr 1
  have hroom : b ^ st b n ≤ 2048 := by
    rw [ps]
    have := Int.mul_le_mul bigp h3.2 (by omega) (by omega)
    omega
  rw [room_L h3.1 h3.2 _ (by omega) _ _ _ (by omega) (by omega) (by simp only [big]; omega) (by omega) (by rw [room]; omega), room]
  unfold law21_FenceSteps_J1
  have one : (st b n = 1) ↔ n ≤ b := by
    have := st_le h3.1 h1.2 1 (by omega)
    rw [Int.pow_succ, Int.pow_zero, Int.one_mul] at this
    omega
  have hdiv : Int.tdiv (b ^ st b n) b = b ^ (st b n - 1) := by
    rw [ps, Int.tdiv_eq_ediv_of_nonneg (by have := Int.mul_nonneg (Int.le_of_lt pp) (by omega : 0 ≤ b); omega)]
    exact Int.mul_ediv_cancel _ (by omega)
  rw [if_pos (by refine ⟨⟨⟨⟨⟨⟨rfl, rfl⟩, rfl⟩, by simpa using mono⟩, by simpa using anti⟩, ?_⟩, le1⟩; rw [decide_eq_decide]; simp only []; omega)]
  rw [nz_of (by omega), hdiv, w64_id (by omega) (by omega)]
  by_cases h : st b n = 1
  · rw [if_pos (by simp only []; omega)]; rfl
  · rw [if_neg (by simp only []; omega)]
    simp only [Option.bind_some]
    rw [decide_eq_true (by omega)]
end Go.Proofs.Ytdchjmophffphaa
