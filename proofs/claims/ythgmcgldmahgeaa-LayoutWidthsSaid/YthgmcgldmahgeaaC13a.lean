/- Chapter 13, plain: fields, digits, how many rows a record needs. -/
import Derived.Test.YthgmcgldmahgeaaMk0
namespace Go.Proofs.Ythgmcgldmahgeaa

theorem sane13 : law13_sane = some true := by kernel_rfl

theorem bt {p : Prop} [Decidable p] (h : p) : decide p = true := decide_eq_true h
theorem nb_t {p : Prop} [Decidable p] (h : p) : ¬ ((!decide p) = true) := by simp [h]
theorem nb_f {p : Prop} [Decidable p] (h : ¬ p) : (!decide p) = true := by simp [h]
theorem bf {p : Prop} [Decidable p] (h : ¬ p) : ¬ (decide p = true) := by simp [h]
theorem sd {p q : Prop} [Decidable p] [Decidable q] (h : p ↔ q) : some (decide p) = some (decide q) := congrArg some (decide_eq_decide.2 h)

/-- No number from d on divides p (as far as one looks). -/
def vL (p : Int) : Nat → Int → Bool
  | 0, _ => true
  | n + 1, d => if d * d ≤ p then (if Int.tmod p d = 0 then false else vL p n (d + 1)) else true
/-- A valid field. -/
def vF (p : Int) : Bool := decide (2 ≤ p ∧ p ≤ 65521) && vL p 300 2
theorem vF_b {p : Int} (h : vF p = true) : 2 ≤ p ∧ p ≤ 65521 := by
  unfold vF at h; simp only [Bool.and_eq_true, decide_eq_true_eq] at h; exact h.1

theorem sq_le {d : Int} (h0 : 0 ≤ d) (h : d * d ≤ 65521) : d ≤ 255 := by
  rcases Int.lt_or_le 255 d with h1 | h1
  · have := Int.mul_le_mul (show (256 : Int) ≤ d by omega) (show (256 : Int) ≤ d by omega) (by omega) h0
    omega
  · exact h1
theorem sq_b {d : Int} (h0 : 0 ≤ d) (h : d ≤ 256) : 0 ≤ d * d ∧ d * d ≤ 65536 := by
  have := Int.mul_le_mul h h h0 (by omega)
  exact ⟨Int.mul_nonneg h0 h0, by omega⟩

theorem of_L {p : Int} (hp : p ≤ 65521) : ∀ (f g : Nat) (d : Int), 2 ≤ d → d ≤ 256 → 257 - d ≤ f → 257 - d ≤ g → 1 ≤ f → 1 ≤ g → residue_Of_L2 residue_Of_J1 p f d = some (if vL p g d then (p, true) else (0, false))
  | 0, _, d, h2, h3, hf, hg, h1, _ => by omega
  | _ + 1, 0, d, h2, h3, hf, hg, h1, h4 => by omega
  | f + 1, g + 1, d, h2, h3, hf, hg, _, _ => by
    show residue_Of_B2 residue_Of_J1 p (residue_Of_L2 residue_Of_J1 p f) d = _
    unfold residue_Of_B2
    have hb := sq_b (by omega : 0 ≤ d) h3
    rw [w64_id (by omega) (by omega)]
    by_cases hd : d * d ≤ p
    · rw [if_pos hd, nz_ok (by omega)]
      simp only [Option.bind_some]
      by_cases hm : Int.tmod p d = 0
      · have e : vL p (g + 1) d = false := by unfold vL; rw [if_pos hd, if_pos hm]
        rw [if_pos hm, e]; rfl
      · have := sq_le (by omega : 0 ≤ d) (by omega)
        have e : vL p (g + 1) d = vL p g (d + 1) := by rw [vL, if_pos hd, if_neg hm]
        rw [if_neg hm, e, w64_id (by omega) (by omega), of_L hp f g (d + 1) (by omega) (by omega) (by omega) (by omega) (by omega) (by omega)]
    · have e : vL p (g + 1) d = true := by unfold vL; rw [if_neg hd]
      rw [if_neg hd, e]; rfl
theorem of_eq (p : Int) : residue_Of p = some (if vF p then (p, true) else (0, false)) := by
  unfold residue_Of vF
  by_cases h : p < 2 ∨ 65521 < p
  · rw [if_pos h, decide_eq_false (by omega : ¬ (2 ≤ p ∧ p ≤ 65521))]; rfl
  · rw [if_neg h, decide_eq_true (by omega : 2 ≤ p ∧ p ≤ 65521), of_L (by omega) big 300 2 (by omega) (by omega) (by simp only [big]; omega) (by omega) (by simp only [big]; omega) (by omega)]
    rfl
theorem rof_L {p : Int} (hp : p ≤ 65521) : ∀ (f g : Nat) (d : Int), 2 ≤ d → d ≤ 256 → 257 - d ≤ f → 257 - d ≤ g → 1 ≤ f → 1 ≤ g → ref03_Check_L1 p f d = some (if vL p g d then 0 else 9)
  | 0, _, d, h2, h3, hf, hg, h1, _ => by omega
  | _ + 1, 0, d, h2, h3, hf, hg, h1, h4 => by omega
  | f + 1, g + 1, d, h2, h3, hf, hg, _, _ => by
    show ref03_Check_B1 p (ref03_Check_L1 p f) d = _
    unfold ref03_Check_B1
    have hb := sq_b (by omega : 0 ≤ d) h3
    rw [w64_id (by omega) (by omega)]
    by_cases hd : d * d ≤ p
    · rw [if_pos hd, nz_ok (by omega)]
      simp only [Option.bind_some]
      by_cases hm : Int.tmod p d = 0
      · have e : vL p (g + 1) d = false := by unfold vL; rw [if_pos hd, if_pos hm]
        rw [if_pos hm, e]; rfl
      · have := sq_le (by omega : 0 ≤ d) (by omega)
        have e : vL p (g + 1) d = vL p g (d + 1) := by rw [vL, if_pos hd, if_neg hm]
        rw [if_neg hm, e, w64_id (by omega) (by omega), rof_L hp f g (d + 1) (by omega) (by omega) (by omega) (by omega) (by omega) (by omega)]
    · have e : vL p (g + 1) d = true := by unfold vL; rw [if_neg hd]
      rw [if_neg hd, e]; rfl
theorem rof_eq (p : Int) : ref03_Check p = some (if vF p then 0 else 9) := by
  unfold ref03_Check vF
  by_cases h : p < 2 ∨ 65521 < p
  · rw [if_pos h, decide_eq_false (by omega : ¬ (2 ≤ p ∧ p ≤ 65521))]; rfl
  · rw [if_neg h, decide_eq_true (by omega : 2 ≤ p ∧ p ≤ 65521), rof_L (by omega) big 300 2 (by omega) (by omega) (by simp only [big]; omega) (by omega) (by simp only [big]; omega) (by omega)]
    rfl

/-- The least number of digits, from d on. -/
def dgo (p : Nat) : Nat → Nat → Nat
  | 0, d => d
  | f + 1, d => if p ^ d < 256 then dgo p f (d + 1) else d
def dg (p : Nat) : Nat := dgo p 8 1

theorem pow_lb {p : Nat} (hp : 2 ≤ p) (d : Nat) : 2 ^ d ≤ p ^ d := Nat.pow_le_pow_left hp d
theorem dgo_spec {p : Nat} (hp : 2 ≤ p) : ∀ (f d : Nat), d + f = 9 → 1 ≤ d → p ^ (d - 1) < 256 → d ≤ dgo p f d ∧ dgo p f d ≤ 8 + 1 ∧ p ^ (dgo p f d - 1) < 256 ∧ (256 ≤ p ^ (dgo p f d) ∨ dgo p f d = 9)
  | 0, d, h, h1, h2 => by simp only [dgo]; exact ⟨Nat.le_refl _, by omega, h2, .inr (by omega)⟩
  | f + 1, d, h, h1, h2 => by
    simp only [dgo]
    split
    · rename_i hh
      obtain ⟨a, b, c, e⟩ := dgo_spec hp f (d + 1) (by omega) (by omega) (by simpa using hh)
      exact ⟨by omega, b, c, e⟩
    · exact ⟨Nat.le_refl _, by omega, h2, .inl (by omega)⟩
theorem dg_spec {p : Nat} (hp : 2 ≤ p) : 1 ≤ dg p ∧ dg p ≤ 8 ∧ p ^ (dg p - 1) < 256 ∧ 256 ≤ p ^ dg p := by
  obtain ⟨a, b, c, e⟩ := dgo_spec hp 8 1 (by omega) (by omega) (by simp)
  have h9 : dgo p 8 1 ≠ 9 := fun h => by
    rw [h] at c
    have := pow_lb hp 8
    simp at c
    omega
  exact ⟨a, by unfold dg; omega, c, by rcases e with e | e; exact e; exact absurd e h9⟩

theorem digits_L {p : Nat} (hp : 2 ≤ p) (hp2 : p ≤ 65521) : ∀ (f g d : Nat), d + g = 9 → 1 ≤ d → p ^ (d - 1) < 256 → 10 ≤ f + d → layout_digits_L1 (p : Int) f (d : Int) ((p ^ d : Nat) : Int) = some ((dgo p g d : Nat) : Int)
  | 0, g, d, h, h1, h2, h3 => by omega
  | f + 1, g, d, h, h1, h2, h3 => by
    show layout_digits_B1 (p : Int) (layout_digits_L1 (p : Int) f) _ _ = _
    unfold layout_digits_B1
    by_cases hlt : p ^ d < 256
    · rw [if_pos (by omega)]
      have hb : p ^ d * p ≤ 256 * 65521 := Nat.mul_le_mul (by omega) hp2
      have e1 : ((p ^ d : Nat) : Int) * (p : Int) = ((p ^ (d + 1) : Nat) : Int) := by rw [Nat.pow_succ]; omega
      have hb2 : p ^ (d + 1) ≤ 256 * 65521 := by rw [Nat.pow_succ]; exact hb
      rw [w64_id (x := (d : Int) + 1) (by omega) (by omega), e1, w64_id (by omega) (by omega)]
      cases g with
      | zero =>
        have := pow_lb hp d
        have e9 : d = 9 := by omega
        subst e9
        have : 2 ^ 9 ≤ p ^ 9 := pow_lb hp 9
        omega
      | succ g =>
        have := digits_L hp hp2 f g (d + 1) (by omega) (by omega) (by simpa using hlt) (by omega)
        rw [show ((d : Int) + 1) = ((d + 1 : Nat) : Int) by omega, this]
        simp only [dgo]; rw [if_pos hlt]
    · rw [if_neg (by omega)]
      cases g with
      | zero => rfl
      | succ g => simp only [dgo]; rw [if_neg hlt]
theorem digits_eq {p : Int} (hp : vF p = true) : layout_digits p = some ((dg p.toNat : Nat) : Int) := by
  obtain ⟨h1, h2⟩ := vF_b hp
  have := digits_L (p := p.toNat) (by omega) (by omega) big 8 1 (by omega) (by omega) (by simp) (by simp only [big]; omega)
  simp only [Nat.pow_one, Int.toNat_of_nonneg (by omega : 0 ≤ p)] at this
  exact this
theorem rdigits_L {p : Nat} (hp : 2 ≤ p) (hp2 : p ≤ 65521) : ∀ (f g d : Nat), d + g = 9 → 1 ≤ d → p ^ (d - 1) < 256 → 10 ≤ f + d → ref13_digits_L1 (p : Int) f (d : Int) ((p ^ d : Nat) : Int) = some ((dgo p g d : Nat) : Int)
  | 0, g, d, h, h1, h2, h3 => by omega
  | f + 1, g, d, h, h1, h2, h3 => by
    show ref13_digits_B1 (p : Int) (ref13_digits_L1 (p : Int) f) _ _ = _
    unfold ref13_digits_B1
    by_cases hlt : p ^ d < 256
    · rw [if_pos (by omega)]
      have hb : p ^ d * p ≤ 256 * 65521 := Nat.mul_le_mul (by omega) hp2
      have e1 : ((p ^ d : Nat) : Int) * (p : Int) = ((p ^ (d + 1) : Nat) : Int) := by rw [Nat.pow_succ]; omega
      have hb2 : p ^ (d + 1) ≤ 256 * 65521 := by rw [Nat.pow_succ]; exact hb
      rw [w64_id (x := (d : Int) + 1) (by omega) (by omega), e1, w64_id (by omega) (by omega)]
      cases g with
      | zero =>
        have e9 : d = 9 := by omega
        subst e9
        have : 2 ^ 9 ≤ p ^ 9 := pow_lb hp 9
        omega
      | succ g =>
        have := rdigits_L hp hp2 f g (d + 1) (by omega) (by omega) (by simpa using hlt) (by omega)
        rw [show ((d : Int) + 1) = ((d + 1 : Nat) : Int) by omega, this]
        simp only [dgo]; rw [if_pos hlt]
    · rw [if_neg (by omega)]
      cases g with
      | zero => rfl
      | succ g => simp only [dgo]; rw [if_neg hlt]
theorem rdigits_eq {p : Int} (hp : vF p = true) : ref13_digits p = some ((dg p.toNat : Nat) : Int) := by
  obtain ⟨h1, h2⟩ := vF_b hp
  have := rdigits_L (p := p.toNat) (by omega) (by omega) (big - 1) 8 1 (by omega) (by omega) (by simp) (by simp only [big]; omega)
  simp only [Nat.pow_one, Int.toNat_of_nonneg (by omega : 0 ≤ p)] at this
  show ref13_digits_B1 p (ref13_digits_L1 p (big - 1)) 0 1 = _
  unfold ref13_digits_B1
  rw [if_pos (by omega), w64_id (by omega) (by omega), w64_id (by omega) (by omega), Int.one_mul]
  exact this

/-- How many rows a record needs. -/
def nd (p w n : Nat) : Nat := max 1 ((n * dg p + w - 1) / w)

theorem nd_pos (p w n : Nat) : 1 ≤ nd p w n := by unfold nd; omega
theorem nd_core {d w n : Nat} (hd : d ≤ 8) (hw : 1 ≤ w ∧ w ≤ 64) (hn : n ≤ 2000) :
    max 1 (w64 (Int.tdiv (w64 ((w64 ((w64 ((n : Int) * (d : Int))) + (w : Int))) - 1)) (w : Int))) = ((max 1 ((n * d + w - 1) / w) : Nat) : Int) := by
  have h1 : n * d ≤ 2000 * 8 := Nat.mul_le_mul hn hd
  have e1 : (n : Int) * (d : Int) = ((n * d : Nat) : Int) := by omega
  rw [e1, w64_id (x := ((n * d : Nat) : Int)) (by omega) (by omega), w64_id (x := ((n * d : Nat) : Int) + w) (by omega) (by omega), w64_id (x := ((n * d : Nat) : Int) + w - 1) (by omega) (by omega)]
  have e2 : ((n * d : Nat) : Int) + w - 1 = ((n * d + w - 1 : Nat) : Int) := by omega
  rw [e2, Int.tdiv_eq_ediv_of_nonneg (by omega)]
  have h2 : (n * d + w - 1) / w ≤ n * d + w - 1 := Nat.div_le_self _ _
  have e3 : ((n * d + w - 1 : Nat) : Int) / (w : Int) = (((n * d + w - 1) / w : Nat) : Int) := (Int.natCast_ediv _ _).symm
  rw [e3]
  generalize (n * d + w - 1) / w = q at h2 ⊢
  rw [w64_id (by omega) (by omega)]
  omega
theorem needed_eq {p : Int} (hp : vF p = true) {w n : Nat} (hw : 1 ≤ w ∧ w ≤ 64) (hn : n ≤ 2000) : layout_needed p (w : Int) (n : Int) = some ((nd p.toNat w n : Nat) : Int) := by
  unfold layout_needed
  rw [digits_eq hp]
  simp only [Option.bind_some]
  rw [nz_ok (by omega)]
  simp only [Option.bind_some]
  rw [nd_core (dg_spec (by have := vF_b hp; omega)).2.1 hw hn]; rfl
theorem rneed_eq {p : Int} (hp : vF p = true) {w n : Nat} (hw : 1 ≤ w ∧ w ≤ 64) (hn : n ≤ 2000) : ref13_need p (w : Int) (n : Int) = some ((nd p.toNat w n : Nat) : Int) := by
  unfold ref13_need
  rw [rdigits_eq hp]
  simp only [Option.bind_some]
  rw [nz_ok (by omega)]
  simp only [Option.bind_some]
  rw [nd_core (dg_spec (by have := vF_b hp; omega)).2.1 hw hn]; rfl
theorem nd_mul {p w n : Nat} (hw : 1 ≤ w) : n * dg p ≤ nd p w n * w := by
  unfold nd
  have h1 := Nat.div_add_mod (n * dg p + w - 1) w
  have h2 := Nat.mod_lt (n * dg p + w - 1) (by omega : 0 < w)
  have h3 : (n * dg p + w - 1) / w * w ≤ max 1 ((n * dg p + w - 1) / w) * w := Nat.mul_le_mul_right w (Nat.le_max_right _ _)
  rw [Nat.mul_comm] at h1
  omega
theorem nd_le {p w n : Nat} (hw : 1 ≤ w ∧ w ≤ 64) (hn : n ≤ 2000) (hd : dg p ≤ 8) : nd p w n * w ≤ 16128 := by
  unfold nd
  have h0 : n * dg p ≤ 2000 * 8 := Nat.mul_le_mul hn hd
  have h1 := Nat.div_add_mod (n * dg p + w - 1) w
  rw [Nat.mul_comm] at h1
  rcases Nat.le_total 1 ((n * dg p + w - 1) / w) with h | h
  · rw [Nat.max_eq_right h]; omega
  · rw [Nat.max_eq_left h]; omega
theorem digitsI_eq (p : Int) : layout_Digits p = some (if vF p then ((dg p.toNat : Nat) : Int) else 0, if vF p then 0 else 9) := by
  unfold layout_Digits
  rw [of_eq]
  simp only [Option.bind_some]
  by_cases h : vF p = true
  · rw [if_pos h, if_pos h, if_pos h]
    rw [if_neg (by simp), digits_eq h]; rfl
  · rw [if_neg h, if_neg h, if_neg h]; rfl
theorem rdigitsI_eq (p : Int) : ref13_Digits p = some (if vF p then ((dg p.toNat : Nat) : Int) else 0, if vF p then 0 else 9) := by
  unfold ref13_Digits
  rw [rof_eq]
  simp only [Option.bind_some]
  by_cases h : vF p = true
  · rw [if_pos h, if_pos h]
    rw [if_neg (by simp), rdigits_eq h]; rfl
  · rw [if_neg h, if_neg h]; rfl
end Go.Proofs.Ythgmcgldmahgeaa
