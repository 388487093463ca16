/- Chapter 21, plain: ranges, the law FenceRanges. -/
import Derived.Test.YtdchjmophffphaaC21d
namespace Go.Proofs.Ytdchjmophffphaa

/-- The blocks of a range. -/
def rngL (b : Int) (l : List ByteArray) (w : ByteArray) (q : Nat) : List Int := (List.range q).map fun i : Nat => min ((lastN l w l.length : Int) / b + (i : Int)) (((l.length : Int) - 1) / b)
theorem rngL_succ (b : Int) (l : List ByteArray) (w : ByteArray) (q : Nat) : rngL b l w (q + 1) = rngL b l w q ++ [min ((lastN l w l.length : Int) / b + (q : Int)) (((l.length : Int) - 1) / b)] := by
  unfold rngL; rw [List.range_succ, List.map_append]; rfl
theorem rngL_len (b : Int) (l : List ByteArray) (w : ByteArray) (q : Nat) : (rngL b l w q).length = q := by simp [rngL]
/-- What Range hands back. -/
def rangeI (f : Int × List ByteArray) (w : ByteArray) (k : Int) : List Int × Int × Int :=
  if ¬ FenP f then ([], 0, 2) else if ¬ (KeyP w ∧ 1 ≤ k ∧ k ≤ 64) then ([], 0, 1) else (rngL f.1 f.2 w k.toNat, fstN f.2 w, 0)
theorem rangeI_1 {f : Int × List ByteArray} {w : ByteArray} {k : Int} (h : ¬ FenP f) : rangeI f w k = ([], 0, 2) := by unfold rangeI; rw [if_pos h]
theorem rangeI_2 {f : Int × List ByteArray} {w : ByteArray} {k : Int} (h : FenP f) (h2 : ¬ (KeyP w ∧ 1 ≤ k ∧ k ≤ 64)) : rangeI f w k = ([], 0, 1) := by unfold rangeI; rw [if_neg (fun h3 => h3 h), if_pos h2]
theorem rangeI_3 {f : Int × List ByteArray} {w : ByteArray} {k : Int} (h : FenP f) (h2 : KeyP w ∧ 1 ≤ k ∧ k ≤ 64) : rangeI f w k = (rngL f.1 f.2 w k.toNat, (fstN f.2 w : Int), 0) := by unfold rangeI; rw [if_neg (fun h3 => h3 h), if_neg (fun h3 => h3 h2)]

theorem elem_eq {b : Int} {l : List ByteArray} {w : ByteArray} {q : Nat} (hb : 2 ≤ b) (hl : 1 ≤ l.length ∧ l.length ≤ 256) (hq : q ≤ 64) : w64 (w64 (Int.tdiv (lastN l w l.length : Int) b) + (q : Int)) = (lastN l w l.length : Int) / b + q := by
  have h1 := lastN_le l w l.length hl.1
  have h2 := Int.ediv_nonneg (by omega : 0 ≤ (lastN l w l.length : Int)) (by omega : 0 ≤ b)
  have h3 := Int.ediv_le_self b (by omega : 0 ≤ (lastN l w l.length : Int))
  rw [Int.tdiv_eq_ediv_of_nonneg (by omega), w64_id (x := (lastN l w l.length : Int) / b) (by omega) (by omega), w64_id (by omega) (by omega)]
theorem top_eq {b : Int} {l : List ByteArray} (hb : 2 ≤ b) (hl : 1 ≤ l.length ∧ l.length ≤ 256) : w64 (Int.tdiv (w64 ((l.length : Int) - 1)) b) = ((l.length : Int) - 1) / b := by
  have h2 := Int.ediv_nonneg (by omega : 0 ≤ (l.length : Int) - 1) (by omega : 0 ≤ b)
  have h3 := Int.ediv_le_self b (by omega : 0 ≤ (l.length : Int) - 1)
  rw [w64_id (x := (l.length : Int) - 1) (by omega) (by omega), Int.tdiv_eq_ediv_of_nonneg (by omega), w64_id (by omega) (by omega)]

theorem range_L {b : Int} {l : List ByteArray} (hf : FenP (b, l)) (w : ByteArray) (k : Int) (hk : 1 ≤ k ∧ k ≤ 64) (z : Int) : ∀ (f q : Nat), (q : Int) ≤ k → k - q < f →
    fence_Range_L1 w z (((l.length : Int) - 1) / b) k b l f (rngL b l w q) (q : Int) = some (rngL b l w k.toNat, z, 0)
  | 0, q, _, h => by omega
  | f + 1, q, h1, h2 => by
    show fence_Range_B1 w z _ k b l (fence_Range_L1 w z _ k b l f) _ _ = _
    unfold fence_Range_B1
    have hl := hf.1
    dsimp only at hl
    split
    · rw [last_eq (l := l) (by omega) hf.2, nz_ok (by omega)]
      simp only [Option.bind_some]
      rw [elem_eq (by omega) hl.2 (by omega), lapp_ok (by rw [rngL_len]; simp; omega)]
      simp only [Option.bind_some]
      rw [← rngL_succ, w64_id (by omega) (by omega)]
      exact range_L hf w k hk z f (q + 1) (by omega) (by omega)
    · rw [show k.toNat = q by omega]
theorem range_eq (f : Int × List ByteArray) (w : ByteArray) (k : Int) : fence_Range f w k = some (rangeI f w k) := by
  unfold fence_Range
  rw [check_eq, proper_eq]
  simp only [Option.bind_some]
  by_cases hf : FenP f
  · rw [if_pos hf, if_neg (show ¬ ((0 : Int) ≠ 0) by decide)]
    by_cases hk : KeyP w ∧ 1 ≤ k ∧ k ≤ 64
    · rw [if_neg (by rintro ((h | h) | h); · exact nb_t hk.1 h
                     · omega
                     · omega), rangeI_3 hf hk, sstr_eq ⟨hf.1.2.1, by have := hf.1; omega⟩ hf.2, nz_ok (by have := hf.1; omega)]
      simp only [Option.bind_some]
      rw [top_eq hf.1.1.1 hf.1.2]
      exact range_L (b := f.1) (l := f.2) hf w k hk.2 _ big 0 (by omega) (by simp only [big]; omega)
    · rw [rangeI_2 hf hk, if_pos (by
        by_cases h : KeyP w
        · rcases Int.lt_or_le k 1 with h3 | h3
          · exact .inl (.inr h3)
          · rcases Int.lt_or_le 64 k with h4 | h4
            · exact .inr h4
            · exact absurd ⟨h, h3, h4⟩ hk
        · exact .inl (.inl (nb_f h)))]
  · rw [if_neg hf, if_pos (show (2 : Int) ≠ 0 by decide), rangeI_1 hf]

theorem rng_get {b : Int} {l : List ByteArray} {w : ByteArray} {q i : Nat} (h : i < q) : (rngL b l w q).getD i 0 = min ((lastN l w l.length : Int) / b + (i : Int)) (((l.length : Int) - 1) / b) := by
  unfold rngL
  simp [List.getD_eq_getElem?_getD, h]

theorem franges_L {b : Int} {l : List ByteArray} {w : ByteArray} {q : Nat} (hb : 2 ≤ b ∧ b ≤ 8) (hl : 1 ≤ l.length ∧ l.length ≤ 256) (hq : q ≤ 64) (kx : Int → Int → Option Bool) (z : Int) : ∀ (xs : List Int) (i : Nat), (rngL b l w q).drop i = xs →
    law21_FenceRanges_L2 kx (((l.length : Int) - 1) / b) z b (rngL b l w q) xs i = kx z b
  | [], i, _ => rfl
  | x :: xs, i, h => by
    show law21_FenceRanges_B2 kx _ z b _ (law21_FenceRanges_L2 kx _ z b _ xs (i + 1)) x i = _
    unfold law21_FenceRanges_B2
    have hi := drop_lt h
    rw [rngL_len] at hi
    have hx := drop_idx h
    rw [lidx_nat 0 (by rw [rngL_len]; omega), rng_get (by omega)] at hx
    have hx := (Option.some.inj hx).symm
    have h1 := lastN_le l w l.length hl.1
    have h2 := Int.ediv_nonneg (by omega : 0 ≤ (lastN l w l.length : Int)) (by omega : 0 ≤ b)
    have h3 := Int.ediv_le_self b (by omega : 0 ≤ (lastN l w l.length : Int))
    have h4 := Int.ediv_nonneg (by omega : 0 ≤ (l.length : Int) - 1) (by omega : 0 ≤ b)
    have h5 := Int.ediv_le_self b (by omega : 0 ≤ (l.length : Int) - 1)
    rw [if_neg (show ¬ (x < 0 ∨ ((l.length : Int) - 1) / b < x) by omega), franges_L hb hl hq kx z xs (i + 1) (drop_succ h)]
    have e : (if 0 < (i : Int) then (lidx (rngL b l w q) (w64 ((i : Int) - 1))).bind fun u469 => some (decide (x ≠ min (w64 (u469 + 1)) (((l.length : Int) - 1) / b))) else some false) = some false := by
      by_cases h0 : i = 0
      · rw [if_neg (by omega)]
      · rw [if_pos (by omega), w64_id (by omega) (by omega), show ((i : Int) - 1) = ((i - 1 : Nat) : Int) by omega, lidx_nat 0 (by rw [rngL_len]; omega), rng_get (by omega)]
        simp only [Option.bind_some]
        rw [w64_id (by omega) (by omega)]
        exact congrArg some (decide_eq_false (by omega))
    rw [e]
    simp

theorem law_ranges {x0 : List Int} {x1 : Int} (h1 : 0 ≤ x1 ∧ x1 ≤ 255) : law21_FenceRanges x0 x1 = some true := by
  unfold law21_FenceRanges
  rw [sane21, few_eq]
  simp only [Option.bind_some]
  rw [if_neg (by simp)]
  by_cases hl : x0.length ≤ 500
  · rw [if_neg (nb_t hl)]
    show (some (x0, (0 : Int))).bind _ = _
    simp only [Option.bind_some]
    obtain ⟨⟨b, l⟩, e, hf, hF, _, _, _, hd⟩ := fence_ok (l := x0) (by omega) (d := (x0, 0)) ⟨rfl, by dsimp only; omega, by dsimp only; omega⟩
    rw [hf]
    simp only [Option.bind_some]
    obtain ⟨w, e2, hw, hW, hd2⟩ := word_ok (l := x0) (by omega) hd
    rw [hw]
    simp only [Option.bind_some]
    have t1 : Int.tmod x1 9 = x1 % 9 := Int.tmod_eq_emod_of_nonneg (by omega)
    have hk : w64 (1 + w64 (Int.tmod x1 9)) = 1 + x1 % 9 := by rw [t1, w64_id (x := x1 % 9) (by omega) (by omega), w64_id (by omega) (by omega)]
    have hK : KeyP w := by unfold Wd at hW; unfold KeyP; omega
    rw [range_eq, hk, rangeI_3 hF ⟨hK, by omega, by omega⟩]
    simp only [Option.bind_some]
    have hb := hF.1
    dsimp only at hb
    obtain ⟨f1, f2, f3⟩ := fst_ok hF.2 hb.2.1 w
    dsimp only at f1 f2 f3
    have g1 : ((((0 : Int) ≠ 0 ∨ ((rngL b l w (1 + x1 % 9).toNat).length : Int) ≠ 1 + x1 % 9) ∨ (fstN l w : Int) < 0) ∨ (l.length : Int) < (fstN l w : Int)) = False := by
      rw [rngL_len, eq_iff_iff]; constructor
      · omega
      · exact False.elim
    rw [if_neg (by rw [g1]; exact id)]
    have g2 : (if (fstN l w : Int) < (l.length : Int) then (lidx l (fstN l w : Int)).bind fun u511 => some (decide (sLt u511 w)) else some false) = some false := by
      split
      · rw [lidx_nat .empty (by omega)]
        exact congrArg some (decide_eq_false (f3 _ (Nat.le_refl _) (by omega)))
      · rfl
    rw [g2]
    simp only [Option.bind_some]
    have g3 : (if 0 < (fstN l w : Int) then (lidx l (w64 ((fstN l w : Int) - 1))).bind fun u490 => some (decide (¬ sLt u490 w)) else some false) = some false := by
      split
      · rw [w64_id (by omega) (by omega), show ((fstN l w : Int) - 1) = ((fstN l w - 1 : Nat) : Int) by omega, lidx_nat .empty (by omega)]
        exact congrArg some (decide_eq_false (fun h => h (f2 _ (by omega))))
      · rfl
    rw [if_neg (by decide), g3]
    simp only [Option.bind_some]
    rw [if_neg (by decide), nz_ok (by omega), top_eq hb.1.1 hb.2]
    simp only [Option.bind_some]
    rw [franges_L (q := (1 + x1 % 9).toNat) hb.1 hb.2 (by omega) _ _ (rngL b l w (1 + x1 % 9).toNat) 0 rfl]
    unfold law21_FenceRanges_J1
    rw [lidx_ok 0 (by omega) (by rw [rngL_len]; omega), nz_ok (by omega)]
    simp only [Option.bind_some]
    have q1 := lastN_le l w l.length hb.2.1
    have q2 := Int.ediv_nonneg (by omega : 0 ≤ (lastN l w l.length : Int)) (by omega : 0 ≤ b)
    have q3 := Int.ediv_le_self b (by omega : 0 ≤ (lastN l w l.length : Int))
    have q4 := Int.ediv_le_ediv (c := b) (by omega) (by omega : (lastN l w l.length : Int) ≤ (l.length : Int) - 1)
    have q5 : (fstN l w : Int) = lastN l w l.length ∨ (fstN l w : Int) = lastN l w l.length + 1 := by unfold fstN; split <;> omega
    have q6 := Int.ediv_le_ediv (c := b) (by omega) (by omega : (lastN l w l.length : Int) ≤ (fstN l w : Int))
    have q7 := Int.ediv_nonneg (by omega : 0 ≤ (fstN l w : Int)) (by omega : 0 ≤ b)
    have q8 := Int.ediv_le_self b (by omega : 0 ≤ (fstN l w : Int))
    have q9 := Int.mul_ediv_add_emod (lastN l w l.length : Int) b
    have q10 := Int.emod_lt_of_pos (lastN l w l.length : Int) (by omega : 0 < b)
    have q11 : b * ((lastN l w l.length : Int) / b) ≤ 8 * 256 := Int.mul_le_mul (by omega) (by omega) (by omega) (by omega)
    have q12 : 0 ≤ b * ((lastN l w l.length : Int) / b) := Int.mul_nonneg (by omega) (by omega)
    rw [show (0 : Int).toNat = 0 from rfl, rng_get (by omega), show min ((lastN l w l.length : Int) / b + ((0 : Nat) : Int)) (((l.length : Int) - 1) / b) = (lastN l w l.length : Int) / b by omega]
    rw [Int.tdiv_eq_ediv_of_nonneg (by omega), w64_id (x := (fstN l w : Int) / b) (by omega) (by omega), if_pos q6, Int.mul_comm _ b, w64_id (x := b * _) (by omega) (by omega), w64_id (by omega) (by omega)]
    rw [show decide ((fstN l w : Int) ≤ b * ((lastN l w l.length : Int) / b) + b) = true from decide_eq_true (by omega)]
    split <;> rfl
  · rw [if_pos (nb_f hl)]
end Go.Proofs.Ytdchjmophffphaa
