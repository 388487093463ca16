/- Chapter 21, plain: steps. -/
import Derived.Test.YtdchjmophffphaaS
namespace Go.Proofs.Ytdchjmophffphaa

theorem sane21 : law21_sane = some true := by kernel_rfl

/-- How many levels n keys in blocks of b need. -/
def stp (b : Int) : Nat → Int → Nat
  | 0, _ => 1
  | k + 1, n => if n ≤ b then 1 else 1 + stp b k ((n + b - 1) / b)

theorem ceil_le {n b m : Int} (hb : 1 ≤ b) : (n + b - 1) / b ≤ m ↔ n ≤ m * b := by
  constructor
  · intro h
    have h1 := Int.mul_ediv_add_emod (n + b - 1) b
    have h2 := Int.emod_lt_of_pos (n + b - 1) (by omega : 0 < b)
    have h3 : b * ((n + b - 1) / b) ≤ b * m := Int.mul_le_mul_of_nonneg_left h (by omega)
    rw [Int.mul_comm m b]; omega
  · intro h
    have : (n + b - 1) / b < m + 1 := Int.ediv_lt_of_lt_mul (by omega) (by rw [Int.add_mul]; omega)
    omega
theorem ceil_lt {n b : Int} (hb : 2 ≤ b) (h : b < n) : 1 ≤ (n + b - 1) / b ∧ (n + b - 1) / b ≤ n - 1 := by
  constructor
  · exact Int.le_ediv_of_mul_le (by omega) (by omega)
  · rw [ceil_le (by omega)]
    have h1 : 0 ≤ (n - 2) * (b - 2) := Int.mul_nonneg (by omega) (by omega)
    have h2 : (n - 2) * (b - 2) = n * b - 2 * n - 2 * b + 4 := by rw [Int.sub_mul, Int.mul_sub, Int.mul_sub]; omega
    rw [Int.sub_mul]; omega

theorem stp_pos (b : Int) : ∀ (k : Nat) (n : Int), 1 ≤ stp b k n
  | 0, _ => Nat.le_refl _
  | k + 1, n => by simp only [stp]; split <;> omega

theorem stp_le {b : Int} (hb : 2 ≤ b) : ∀ (k : Nat) (n : Int), n ≤ k → ∀ j : Nat, stp b k n ≤ j + 1 ↔ n ≤ b ^ (j + 1)
  | 0, n, h, j => by
    have : 0 < b ^ (j + 1) := Int.pow_pos (by omega)
    simp only [stp]; omega
  | k + 1, n, h, j => by
    simp only [stp]
    split
    · rename_i hn
      have h1 : b ^ 1 ≤ b ^ (j + 1) := by
        rw [Int.pow_succ b j, Int.pow_succ, Int.pow_zero]
        have h0 : 0 < b ^ j := Int.pow_pos (by omega)
        exact Int.mul_le_mul_of_nonneg_right (by omega) (by omega)
      rw [Int.pow_succ, Int.pow_zero] at h1
      omega
    · rename_i hn
      have hc := ceil_lt hb (by omega : b < n)
      cases j with
      | zero =>
        have := stp_pos b k ((n + b - 1) / b)
        rw [Int.pow_succ, Int.pow_zero]
        omega
      | succ j =>
        have ih := stp_le hb k ((n + b - 1) / b) (by omega) j
        have e : 1 + stp b k ((n + b - 1) / b) ≤ j + 1 + 1 ↔ stp b k ((n + b - 1) / b) ≤ j + 1 := by omega
        rw [e, ih, ceil_le (by omega), ← Int.pow_succ]

theorem stp_fuel {b : Int} (hb : 2 ≤ b) {k m : Nat} {n : Int} (h1 : n ≤ k) (h2 : n ≤ m) : stp b k n = stp b m n := by
  have a := stp_pos b k n
  have c := stp_pos b m n
  have h3 := stp_le hb k n h1 (stp b m n - 1)
  have h4 := stp_le hb m n h2 (stp b m n - 1)
  have h5 := stp_le hb k n h1 (stp b k n - 1)
  have h6 := stp_le hb m n h2 (stp b k n - 1)
  have e1 : stp b m n - 1 + 1 = stp b m n := by omega
  have e2 : stp b k n - 1 + 1 = stp b k n := by omega
  rw [e1] at h3 h4
  rw [e2] at h5 h6
  have := h3.2 (h4.1 (Nat.le_refl _))
  have := h6.2 (h5.1 (Nat.le_refl _))
  omega

/-- The steps of at most 256 keys. -/
def st (b n : Int) : Nat := stp b 256 n

theorem st_le {b n : Int} (hb : 2 ≤ b) (hn : n ≤ 256) (j : Nat) (hj : 1 ≤ j) : st b n ≤ j ↔ n ≤ b ^ j := by
  have := stp_le hb 256 n hn (j - 1)
  rwa [Nat.sub_add_cancel hj] at this
theorem st_pos (b n : Int) : 1 ≤ st b n := stp_pos b 256 n
theorem st_small {b n : Int} (h : n ≤ b) : st b n = 1 := by
  show (if n ≤ b then 1 else _) = 1
  rw [if_pos h]
theorem st_large {b n : Int} (hb : 2 ≤ b) (h : b < n) (hn : n ≤ 256) : st b n = 1 + st b ((n + b - 1) / b) := by
  have hc := ceil_lt hb h
  have h1 : st b n = 1 + stp b 255 ((n + b - 1) / b) := by
    unfold st
    show (if n ≤ b then 1 else _) = _
    rw [if_neg (by omega)]
  rw [h1, stp_fuel hb (k := 255) (m := 256) (by omega) (by omega)]; rfl

theorem w64_ceil {n b : Int} (h1 : 1 ≤ n) (h2 : n ≤ 100000) (h3 : 1 ≤ b) (h4 : b ≤ 100000) : w64 (Int.tdiv (w64 (w64 (n + b) - 1)) b) = (n + b - 1) / b := by
  have a := Int.ediv_nonneg (by omega : 0 ≤ n + b - 1) (by omega : 0 ≤ b)
  have c := Int.ediv_le_self b (by omega : 0 ≤ n + b - 1)
  rw [w64_id (x := n + b) (by omega) (by omega), w64_id (x := n + b - 1) (by omega) (by omega), Int.tdiv_eq_ediv_of_nonneg (by omega), w64_id (by omega) (by omega)]

theorem nz_of {y : Int} (h : y ≠ 0) : nz y = some () := by unfold nz; rw [if_neg h]

theorem steps_L {b : Int} (hb : 2 ≤ b) (hb2 : b ≤ 8) : ∀ (f : Nat) (n c : Int), 1 ≤ n → n ≤ 256 → n < f → 0 ≤ c → c + n ≤ 1000 → fence_Steps_L1 b f n c = some (c - 1 + st b n, 0)
  | 0, n, c, h1, _, h3, _, _ => by omega
  | f + 1, n, c, h1, h2, h3, h4, h5 => by
    show fence_Steps_B1 b (fence_Steps_L1 b f) n c = _
    unfold fence_Steps_B1
    split
    · rename_i h
      have hc := ceil_lt hb h
      rw [nz_of (by omega)]
      simp only [Option.bind_some]
      rw [w64_ceil h1 (by omega) (by omega) (by omega), w64_id (x := c + 1) (by omega) (by omega), steps_L hb hb2 f _ _ hc.1 (by omega) (by omega) (by omega) (by omega), st_large hb h h2]
      congr 2; omega
    · rw [st_small (by omega)]
      congr 2; omega
theorem rsteps_L {b : Int} (hb : 2 ≤ b) (hb2 : b ≤ 8) : ∀ (f : Nat) (n c : Int), 1 ≤ n → n ≤ 256 → n < f → 0 ≤ c → c + n ≤ 1000 → ref21_Steps_L1 b f n c = some (c - 1 + st b n, 0)
  | 0, n, c, h1, _, h3, _, _ => by omega
  | f + 1, n, c, h1, h2, h3, h4, h5 => by
    show ref21_Steps_B1 b (ref21_Steps_L1 b f) n c = _
    unfold ref21_Steps_B1
    split
    · rename_i h
      have hc := ceil_lt hb h
      rw [nz_of (by omega)]
      simp only [Option.bind_some]
      rw [w64_ceil h1 (by omega) (by omega) (by omega), w64_id (x := c + 1) (by omega) (by omega), rsteps_L hb hb2 f _ _ hc.1 (by omega) (by omega) (by omega) (by omega), st_large hb h h2]
      congr 2; omega
    · rw [st_small (by omega)]
      congr 2; omega

/-- Steps. -/
def stepsI (n b : Int) : Int × Int := if (1 ≤ n ∧ n ≤ 256) ∧ 2 ≤ b ∧ b ≤ 8 then (st b n, 0) else (0, 1)
theorem steps_eq (n b : Int) : fence_Steps n b = some (stepsI n b) := by
  unfold fence_Steps fence_sized stepsI
  by_cases h : n < 1 ∨ 256 < n
  · rw [if_pos h, if_neg (by omega)]; rfl
  · rw [if_neg h]
    simp only [Option.bind_some]
    by_cases h2 : 2 ≤ b ∧ b ≤ 8
    · rw [if_neg (by simp [h2]), if_pos (by omega), steps_L h2.1 h2.2 _ _ _ (by omega) (by omega) (by simp only [big]; omega) (by omega) (by omega)]
      congr 2; omega
    · rw [if_pos (by simp; omega), if_neg (by omega)]
theorem rsteps_eq (n b : Int) : ref21_Steps n b = some (stepsI n b) := by
  unfold ref21_Steps stepsI
  split
  · rw [if_neg (by omega)]
  · rw [if_pos (by omega), rsteps_L (by omega) (by omega) _ _ _ (by omega) (by omega) (by simp only [big]; omega) (by omega) (by omega)]
    congr 2; omega
end Go.Proofs.Ytdchjmophffphaa
