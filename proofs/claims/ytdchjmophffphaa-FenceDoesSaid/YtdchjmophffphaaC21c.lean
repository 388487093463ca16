/- Chapter 21, plain: keys in order, searches. -/
import Derived.Test.YtdchjmophffphaaC21a
import Derived.Test.YtdchjmophffphaaMk
namespace Go.Proofs.Ytdchjmophffphaa

/-- The key at i. -/
abbrev gd (l : List ByteArray) (i : Nat) : ByteArray := l.getD i ByteArray.empty
def okAt (l : List ByteArray) (i : Nat) : Prop := (1 ≤ (gd l i).size ∧ (gd l i).size ≤ 32) ∧ (i = 0 ∨ sLt (gd l (i - 1)) (gd l i))
instance (l : List ByteArray) (i : Nat) : Decidable (okAt l i) := by unfold okAt; infer_instance
/-- From i on the keys are keys, and ascend. -/
def AscF (l : List ByteArray) (i : Nat) : Prop := ∀ j, j < l.length → i ≤ j → okAt l j
instance (l : List ByteArray) (i : Nat) : Decidable (AscF l i) := by unfold AscF; infer_instance
def AscP (l : List ByteArray) : Prop := ∀ j, j < l.length → okAt l j
instance (l : List ByteArray) : Decidable (AscP l) := by unfold AscP; infer_instance
def KeyP (w : ByteArray) : Prop := 1 ≤ w.size ∧ w.size ≤ 32
instance (w : ByteArray) : Decidable (KeyP w) := by unfold KeyP; infer_instance

theorem nb_t {p : Prop} [Decidable p] (h : p) : ¬ ((!decide p) = true) := by simp [h]
theorem nb_f {p : Prop} [Decidable p] (h : ¬ p) : (!decide p) = true := by simp [h]
theorem proper_eq (w : ByteArray) : fence_proper w = some (decide (KeyP w)) := by
  unfold fence_proper; exact congrArg some (decide_eq_decide.2 (by unfold KeyP; omega))
theorem key_eq (w : ByteArray) : ref20_Key w = some (decide (KeyP w)) := by
  unfold ref20_Key; exact congrArg some (decide_eq_decide.2 (by unfold KeyP; omega))

theorem drop_gd {l xs : List ByteArray} {x : ByteArray} {i : Nat} (h : l.drop i = x :: xs) : i < l.length ∧ x = gd l i := by
  have h1 := drop_lt h
  have h2 := drop_idx h
  rw [lidx_nat .empty (by omega)] at h2
  exact ⟨by omega, (Option.some.inj h2).symm⟩

theorem asc_L {z : List ByteArray} (hz : z.length ≤ 10000000) : ∀ (xs : List ByteArray) (i : Nat), z.drop i = xs → fence_ascend_L1 z xs i = some (decide (AscF z i))
  | [], i, h => by
    have := drop_nil h
    show some true = _
    congr 1
    exact (decide_eq_true (fun j h1 h2 => by omega)).symm
  | x :: xs, i, h => by
    obtain ⟨hi, rfl⟩ := drop_gd h
    show fence_ascend_B1 z (fence_ascend_L1 z xs (i + 1)) (gd z i) i = _
    unfold fence_ascend_B1
    rw [asc_L hz xs (i + 1) (drop_succ h), proper_eq]
    simp only [Option.bind_some]
    have e2 : (if (0 < (i : Int)) then ((lidx z (w64 ((i : Int) - 1))).bind fun u127 => some (decide (¬ sLt u127 (gd z i)))) else some false) = some (decide (i ≠ 0 ∧ ¬ sLt (gd z (i - 1)) (gd z i))) := by
      by_cases h0 : i = 0
      · rw [if_neg (by omega)]; simp [h0]
      · rw [if_pos (by omega), w64_id (by omega) (by omega), show ((i : Int) - 1) = ((i - 1 : Nat) : Int) by omega, lidx_nat .empty (by omega)]
        simp [h0]
    rw [e2]
    simp only [Option.bind_some]
    have e3 : (if (!decide (KeyP (gd z i))) = true then some true else some (decide (i ≠ 0 ∧ ¬ sLt (gd z (i - 1)) (gd z i)))) = some (decide (¬ okAt z i)) := by
      by_cases hk : KeyP (gd z i)
      · rw [if_neg (nb_t hk)]
        congr 1
        rw [decide_eq_decide]
        unfold okAt
        constructor
        · rintro ⟨h1, h2⟩ ⟨_, h3 | h3⟩
          · exact h1 h3
          · exact h2 h3
        · intro h1
          exact ⟨fun h2 => h1 ⟨hk, .inl h2⟩, fun h2 => h1 ⟨hk, .inr h2⟩⟩
      · rw [if_pos (nb_f hk)]
        congr 1
        exact (decide_eq_true (p := ¬ okAt z i) (fun h1 => hk h1.1)).symm
    rw [e3]
    simp only [Option.bind_some]
    by_cases ok : okAt z i
    · rw [if_neg (by simp [ok])]
      congr 1
      rw [decide_eq_decide]
      constructor
      · intro h1 j h2 h3
        rcases Nat.eq_or_lt_of_le h3 with rfl | h4
        · exact ok
        · exact h1 j h2 h4
      · exact fun h1 j h2 h3 => h1 j h2 (by omega)
    · rw [if_pos (by simp [ok])]
      congr 1
      exact (decide_eq_false (fun h1 => ok (h1 i hi (Nat.le_refl _)))).symm
theorem ascend_eq {z : List ByteArray} (hz : z.length ≤ 10000000) : fence_ascend z = some (decide (AscP z)) := by
  unfold fence_ascend
  rw [asc_L hz z 0 rfl]
  congr 1
  rw [decide_eq_decide]
  exact ⟨fun h j h1 => h j h1 (by omega), fun h j h1 _ => h j h1⟩
theorem rasc_L (z : List ByteArray) : ∀ (xs : List ByteArray) (i : Nat), ref21_ascend_L1 z xs i = fence_ascend_L1 z xs i
  | [], _ => rfl
  | x :: xs, i => by
    show ref21_ascend_B1 z (ref21_ascend_L1 z xs (i + 1)) x i = fence_ascend_B1 z (fence_ascend_L1 z xs (i + 1)) x i
    rw [rasc_L z xs (i + 1)]
    rfl
theorem rascend_eq {z : List ByteArray} (hz : z.length ≤ 10000000) : ref21_ascend z = some (decide (AscP z)) := (rasc_L z z 0).trans (ascend_eq hz)

/-- A fence is valid. -/
def FenP (f : Int × List ByteArray) : Prop := ((2 ≤ f.1 ∧ f.1 ≤ 8) ∧ 1 ≤ f.2.length ∧ f.2.length ≤ 256) ∧ AscP f.2
instance (f : Int × List ByteArray) : Decidable (FenP f) := by unfold FenP; infer_instance
theorem check_eq (f : Int × List ByteArray) : fence_Check f = some (if FenP f then 0 else 2) := by
  unfold fence_Check fence_sized
  simp only [Option.bind_some]
  by_cases h : (2 ≤ f.1 ∧ f.1 ≤ 8) ∧ 1 ≤ f.2.length ∧ f.2.length ≤ 256
  · rw [if_neg (by simp; omega), ascend_eq (by omega)]
    simp only [Option.bind_some]
    by_cases h2 : AscP f.2
    · rw [if_neg (nb_t h2), if_pos ⟨h, h2⟩]
    · rw [if_pos (nb_f h2), if_neg (fun h3 => h2 h3.2)]
  · rw [if_pos (by simp; omega), if_neg (fun h3 => h h3.1)]; rfl
theorem rcheck_eq (f : Int × List ByteArray) : ref21_Check f = some (if FenP f then 0 else 2) := by
  unfold ref21_Check
  by_cases h : (2 ≤ f.1 ∧ f.1 ≤ 8) ∧ 1 ≤ f.2.length ∧ f.2.length ≤ 256
  · rw [if_neg (by omega), rascend_eq (by omega)]
    simp only [Option.bind_some]
    by_cases h2 : AscP f.2
    · rw [if_neg (nb_t h2), if_pos ⟨h, h2⟩]
    · rw [if_pos (nb_f h2), if_neg (fun h3 => h2 h3.2)]
  · rw [if_pos (by omega), if_neg (fun h3 => h h3.1)]; rfl

theorem asc_lt {l : List ByteArray} (h : AscP l) : ∀ {j i : Nat}, i < j → j < l.length → sLt (gd l i) (gd l j)
  | 0, i, h0, _ => by omega
  | j + 1, i, h0, h1 => by
    rcases (h (j + 1) h1).2 with h2 | h2
    · omega
    · simp only [Nat.add_sub_cancel] at h2
      rcases Nat.lt_or_ge i j with h3 | h3
      · exact sLt_trans (asc_lt h h3 (by omega)) h2
      · obtain rfl : i = j := by omega
        exact h2

/-- The last of the first q keys that is not greater than w; 0 if all are. -/
def lastN (l : List ByteArray) (w : ByteArray) : Nat → Nat
  | 0 => 0
  | q + 1 => if ¬ sLt w (gd l q) then q else lastN l w q
theorem lastN_le (l : List ByteArray) (w : ByteArray) : ∀ q, 1 ≤ q → lastN l w q < q
  | 0, h => by omega
  | q + 1, _ => by
    simp only [lastN]
    split
    · omega
    · rcases Nat.eq_zero_or_pos q with h | h
      · subst h; simp [lastN]
      · have := lastN_le l w q h; omega
theorem lastN_eq {l : List ByteArray} {w : ByteArray} {r : Nat} (h1 : ∀ k, k < r → ¬ sLt w (gd l k)) : ∀ n, r ≤ n → (∀ k, r ≤ k → k < n → sLt w (gd l k)) → lastN l w n = r - 1
  | 0, h, _ => by simp [lastN]; omega
  | n + 1, h, h2 => by
    simp only [lastN]
    rcases Nat.lt_or_ge n r with h3 | h3
    · rw [if_pos (h1 n h3)]; omega
    · rw [if_neg (fun hn => hn (h2 n h3 (by omega)))]
      exact lastN_eq h1 n h3 (fun k h4 h5 => h2 k h4 (by omega))
/-- Where the keys begin that are greater than w. -/
theorem partk {l : List ByteArray} (h : AscP l) (w : ByteArray) : ∀ n, n ≤ l.length → ∃ r, r ≤ n ∧ (∀ k, k < r → ¬ sLt w (gd l k)) ∧ ∀ k, r ≤ k → k < n → sLt w (gd l k)
  | 0, _ => ⟨0, by omega, fun k h => by omega, fun k _ h => by omega⟩
  | n + 1, hn => by
    by_cases hw : sLt w (gd l n)
    · obtain ⟨r, h1, h2, h3⟩ := partk h w n (by omega)
      refine ⟨r, by omega, h2, fun k h4 h5 => ?_⟩
      rcases Nat.lt_or_ge k n with h6 | h6
      · exact h3 k h4 h6
      · obtain rfl : k = n := by omega
        exact hw
    · refine ⟨n + 1, by omega, fun k h4 h5 => ?_, fun k h4 h5 => by omega⟩
      rcases Nat.lt_or_ge k n with h6 | h6
      · exact hw (sLt_trans h5 (asc_lt h h6 (by omega)))
      · obtain rfl : k = n := by omega
        exact hw h5

theorem search_L {z : Int → Option Bool} {P : Int → Prop} [DecidablePred P] {n : Int} (hn : n ≤ 100000000) (hz : ∀ i, 0 ≤ i → i < n → z i = some (decide (P i))) (hm : ∀ i j, 0 ≤ i → i ≤ j → j < n → P i → P j) : ∀ (f : Nat) (i j : Int), 0 ≤ i → i ≤ j → j ≤ n → j - i < f → (∀ k, 0 ≤ k → k < i → ¬ P k) → (∀ k, j ≤ k → k < n → P k) →
    ∃ r, sort_Search_L1 z f i j = some r ∧ 0 ≤ r ∧ r ≤ n ∧ (∀ k, 0 ≤ k → k < r → ¬ P k) ∧ ∀ k, r ≤ k → k < n → P k
  | 0, i, j, h0, h1, h2, h3, _, _ => by omega
  | f + 1, i, j, h0, h1, h2, h3, h4, h5 => by
    show ∃ r, sort_Search_B1 z (sort_Search_L1 z f) i j = some r ∧ _
    unfold sort_Search_B1
    split
    · rename_i hij
      have em : w64 (IntKind.u64.wrap (w64 (i + j)) / 2) = (i + j) / 2 := by
        rw [w64_id (x := i + j) (by omega) (by omega), IntWalk.u64_in _ (by constructor <;> omega), w64_id (by omega) (by omega)]
      rw [em, w64_id (x := (i + j) / 2 + 1) (by omega) (by omega), hz _ (by omega) (by omega)]
      simp only [Option.bind_some]
      by_cases hp : P ((i + j) / 2)
      · rw [if_neg (by simp [hp])]
        exact search_L hn hz hm f _ _ (by omega) (by omega) (by omega) (by omega) h4 (fun k h6 h7 => hm _ _ (by omega) h6 h7 hp)
      · rw [if_pos (by simp [hp])]
        exact search_L hn hz hm f _ _ (by omega) (by omega) (by omega) (by omega) (fun k h6 h7 h8 => hp (hm _ _ h6 (by omega) (by omega) h8)) h5
    · exact ⟨i, rfl, h0, by omega, h4, fun k h6 h7 => h5 k (by omega) h7⟩

theorem behind_ok {l : List ByteArray} (hl : l.length ≤ 10000000) (h : AscP l) (w : ByteArray) : ∃ r : Int, fence_behind l w = some r ∧ 0 ≤ r ∧ r ≤ l.length ∧ (∀ k : Int, 0 ≤ k → k < r → ¬ sLt w (gd l k.toNat)) ∧ ∀ k : Int, r ≤ k → k < l.length → sLt w (gd l k.toNat) := by
  obtain ⟨r, h1, h2⟩ := search_L (z := fun y0 => fence_behind_f1 y0 l w) (P := fun k => sLt w (gd l k.toNat)) (n := l.length) (by omega)
    (fun i h0 h1 => by show fence_behind_f1 i l w = _; unfold fence_behind_f1; rw [lidx_ok .empty h0 h1]; rfl)
    (fun i j h0 h1 h2 hk => by
      rcases Int.lt_or_eq_of_le h1 with h3 | rfl
      · exact sLt_trans hk (asc_lt h (by omega) (by omega))
      · exact hk) big 0 l.length (by omega) (by omega) (by omega) (by simp only [big]; omega) (fun k h0 h1 => by omega) (fun k h0 h1 => by omega)
  refine ⟨r, ?_, h2⟩
  unfold fence_behind sort_Search
  rw [h1]; rfl
theorem last_eq {l : List ByteArray} (hl : l.length ≤ 10000000) (h : AscP l) (w : ByteArray) : fence_last l w = some (lastN l w l.length : Int) := by
  obtain ⟨r, e, h1, h2, h3, h4⟩ := behind_ok hl h w
  unfold fence_last
  rw [e]
  simp only [Option.bind_some]
  rw [w64_id (by omega) (by omega), lastN_eq (r := r.toNat) (fun k hk => by have := h3 k (by omega) (by omega); simpa using this) l.length (by omega) (fun k h5 h6 => by have := h4 k (by omega) (by omega); simpa using this)]
  congr 1
  omega
theorem rlast_L {z : List ByteArray} (w : ByteArray) : ∀ (xs : List ByteArray) (i : Nat), i ≤ z.length → z.drop i = xs → ref21_last_L1 w xs i (lastN z w i) = some (lastN z w z.length : Int)
  | [], i, hi, h => by
    have := drop_nil h
    obtain rfl : i = z.length := by omega
    rfl
  | x :: xs, i, hi, h => by
    obtain ⟨hi, rfl⟩ := drop_gd h
    show ref21_last_B1 w (ref21_last_L1 w xs (i + 1)) (gd z i) i _ = _
    unfold ref21_last_B1
    have ih := rlast_L w xs (i + 1) (by omega) (drop_succ h)
    split
    · rename_i hs
      rw [← ih]
      simp only [lastN]
      rw [if_pos hs]
    · rename_i hs
      rw [← ih]
      simp only [lastN]
      rw [if_neg hs]
theorem rlast_eq (l : List ByteArray) (w : ByteArray) : ref21_last l w = some (lastN l w l.length : Int) := rlast_L w l 0 (by omega) rfl

/-- The first key that is not smaller than w. -/
def fstN (l : List ByteArray) (w : ByteArray) : Nat := if sLt (gd l (lastN l w l.length)) w then lastN l w l.length + 1 else lastN l w l.length
theorem fst_ok {l : List ByteArray} (h : AscP l) (hl : 1 ≤ l.length) (w : ByteArray) : fstN l w ≤ l.length ∧ (∀ k, k < fstN l w → sLt (gd l k) w) ∧ ∀ k, fstN l w ≤ k → k < l.length → ¬ sLt (gd l k) w := by
  obtain ⟨r, h1, h2, h3⟩ := partk h w l.length (Nat.le_refl _)
  have e := lastN_eq h2 l.length h1 h3
  unfold fstN
  rw [e]
  split
  · rename_i hs
    refine ⟨by omega, fun k hk => ?_, fun k hk hk2 => ?_⟩
    · rcases Nat.lt_or_ge k (r - 1) with h4 | h4
      · exact sLt_trans (asc_lt h h4 (by omega)) hs
      · obtain rfl : k = r - 1 := by omega
        exact hs
    · rcases Nat.eq_zero_or_pos r with rfl | hr
      · exact sLt_asymm (h3 k (by omega) hk2)
      · exact sLt_asymm (h3 k (by omega) hk2)
  · rename_i hs
    refine ⟨by omega, fun k hk => ?_, fun k hk hk2 => ?_⟩
    · have h4 := h2 (r - 1) (by omega)
      have h5 := asc_lt h (i := k) (j := r - 1) hk (by omega)
      rcases sLt_tri (gd l (r - 1)) w with h6 | h6 | h6
      · exact absurd h6 hs
      · rw [← h6]; exact h5
      · exact absurd h6 h4
    · rcases Nat.eq_or_lt_of_le hk with rfl | h4
      · exact hs
      · exact sLt_asymm (h3 k (by omega) hk2)
theorem sstr_eq {l : List ByteArray} (hl : 1 ≤ l.length ∧ l.length ≤ 10000000) (h : AscP l) (w : ByteArray) : sort_SearchStrings l w = some (fstN l w : Int) := by
  obtain ⟨r, h1, h2, h3, h4, h5⟩ := search_L (z := fun y0 => sort_SearchStrings_f1 y0 l w) (P := fun k => ¬ sLt (gd l k.toNat) w) (n := l.length) (by omega)
    (fun i h0 h1 => by show sort_SearchStrings_f1 i l w = _; unfold sort_SearchStrings_f1; rw [lidx_ok .empty h0 h1]; rfl)
    (fun i j h0 h1 h2 hk hj => by
      rcases Int.lt_or_eq_of_le h1 with h3 | rfl
      · exact hk (sLt_trans (asc_lt h (by omega) (by omega)) hj)
      · exact hk hj) big 0 l.length (by omega) (by omega) (by omega) (by simp only [big]; omega) (fun k h0 h1 => by omega) (fun k h0 h1 => by omega)
  unfold sort_SearchStrings sort_Search
  rw [h1]
  simp only [Option.bind_some]
  congr 1
  obtain ⟨f1, f2, f3⟩ := fst_ok h hl.1 w
  rcases Int.lt_trichotomy r (fstN l w) with h6 | h6 | h6
  · exact absurd (f2 r.toNat (by omega)) (h5 r (by omega) (by omega))
  · exact h6
  · have := h4 (fstN l w : Int) (by omega) h6
    rw [Int.toNat_natCast] at this
    exact absurd (f3 (fstN l w) (Nat.le_refl _) (by omega)) this

/-- Next. -/
def nextI (b t : Int) (l : List ByteArray) (w : ByteArray) : Int × Int :=
  if ¬ ((2 ≤ b ∧ b ≤ 8) ∧ (0 ≤ t ∧ t ≤ 256) ∧ KeyP w) then (0, 1)
  else if ¬ ((1 ≤ l.length ∧ l.length ≤ b) ∧ AscP l) then (0, 2) else (t * b + lastN l w l.length, 0)
theorem next_tail {b t : Int} {l : List ByteArray} {w : ByteArray} (hb : 2 ≤ b ∧ b ≤ 8) (ht : 0 ≤ t ∧ t ≤ 256) (hl : 1 ≤ l.length ∧ l.length ≤ b) : w64 (w64 (t * b) + (lastN l w l.length : Int)) = t * b + lastN l w l.length := by
  have h1 := lastN_le l w l.length hl.1
  have h2 : 0 ≤ t * b := Int.mul_nonneg (by omega) (by omega)
  have h3 : t * b ≤ 256 * 8 := Int.mul_le_mul (by omega) (by omega) (by omega) (by omega)
  rw [w64_id (x := t * b) (by omega) (by omega), w64_id (by omega) (by omega)]
theorem nextI_1 {b t : Int} {l : List ByteArray} {w : ByteArray} (h : ¬ ((2 ≤ b ∧ b ≤ 8) ∧ (0 ≤ t ∧ t ≤ 256) ∧ KeyP w)) : nextI b t l w = (0, 1) := by unfold nextI; rw [if_pos h]
theorem nextI_2 {b t : Int} {l : List ByteArray} {w : ByteArray} (h1 : 2 ≤ b ∧ b ≤ 8) (h2 : 0 ≤ t ∧ t ≤ 256) (h3 : KeyP w) (h : ¬ ((1 ≤ l.length ∧ l.length ≤ b) ∧ AscP l)) : nextI b t l w = (0, 2) := by
  unfold nextI; rw [if_neg (fun h5 => h5 ⟨h1, h2, h3⟩), if_pos h]
theorem nextI_3 {b t : Int} {l : List ByteArray} {w : ByteArray} (h1 : 2 ≤ b ∧ b ≤ 8) (h2 : 0 ≤ t ∧ t ≤ 256) (h3 : KeyP w) (h : 1 ≤ l.length ∧ l.length ≤ b) (ha : AscP l) : nextI b t l w = (t * b + lastN l w l.length, 0) := by
  unfold nextI; rw [if_neg (fun h5 => h5 ⟨h1, h2, h3⟩), if_neg (fun h5 => h5 ⟨h, ha⟩)]
theorem fnext_eq (b t : Int) (l : List ByteArray) (hl : l.length ≤ 10000000) (w : ByteArray) : fence_Next b t l w = some (nextI b t l w) := by
  unfold fence_Next fence_sized
  simp only [Option.bind_some]
  by_cases h : (2 ≤ b ∧ b ≤ 8) ∧ 0 ≤ t ∧ t ≤ 256
  · rw [if_neg (by simp; omega), proper_eq]
    simp only [Option.bind_some]
    by_cases hk : KeyP w
    · rw [if_neg (nb_t hk)]
      by_cases h2 : 1 ≤ l.length ∧ l.length ≤ b
      · rw [if_neg (show ¬ ((l.length : Int) < 1 ∨ b < (l.length : Int)) by omega), ascend_eq hl]
        simp only [Option.bind_some]
        by_cases ha : AscP l
        · rw [nextI_3 h.1 h.2 hk h2 ha, if_neg (nb_t ha), last_eq hl ha]
          simp only [Option.bind_some]
          rw [next_tail h.1 h.2 h2]
        · rw [nextI_2 h.1 h.2 hk (fun h3 => ha h3.2), if_pos (nb_f ha)]
      · rw [nextI_2 h.1 h.2 hk (fun h3 => h2 h3.1), if_pos (show (l.length : Int) < 1 ∨ b < (l.length : Int) by omega)]; rfl
    · rw [nextI_1 (fun h3 => hk h3.2.2), if_pos (nb_f hk)]
  · rw [nextI_1 (fun h3 => h ⟨h3.1, h3.2.1⟩), if_pos (by simp; omega)]; rfl
theorem rnext_eq (b t : Int) (l : List ByteArray) (hl : l.length ≤ 10000000) (w : ByteArray) : ref21_Next b t l w = some (nextI b t l w) := by
  unfold ref21_Next
  by_cases h : (2 ≤ b ∧ b ≤ 8) ∧ 0 ≤ t ∧ t ≤ 256
  · rw [if_neg (by omega), key_eq]
    simp only [Option.bind_some]
    by_cases hk : KeyP w
    · rw [if_neg (nb_t hk)]
      by_cases h2 : 1 ≤ l.length ∧ l.length ≤ b
      · rw [if_neg (show ¬ ((l.length : Int) < 1 ∨ b < (l.length : Int)) by omega), rascend_eq hl]
        simp only [Option.bind_some]
        by_cases ha : AscP l
        · rw [nextI_3 h.1 h.2 hk h2 ha, if_neg (nb_t ha), rlast_eq]
          simp only [Option.bind_some]
          rw [next_tail h.1 h.2 h2]
        · rw [nextI_2 h.1 h.2 hk (fun h3 => ha h3.2), if_pos (nb_f ha)]
      · rw [nextI_2 h.1 h.2 hk (fun h3 => h2 h3.1), if_pos (show (l.length : Int) < 1 ∨ b < (l.length : Int) by omega)]; rfl
    · rw [nextI_1 (fun h3 => hk h3.2.2), if_pos (nb_f hk)]
  · rw [nextI_1 (fun h3 => h ⟨h3.1, h3.2.1⟩), if_pos (by omega)]; rfl
end Go.Proofs.Ytdchjmophffphaa
