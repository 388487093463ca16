/- Chapter 21, plain: a pack's fence. -/
import Derived.Test.YtdchjmophffphaaC21c
namespace Go.Proofs.Ytdchjmophffphaa

abbrev FK := Int → Int → Int → Option ((Int × List ByteArray) × (List Int × Int))

theorem scan_L (k : FK) (w : ByteArray) (z1 z2 : Int) (l : List ByteArray) (hl : l.length ≤ 1000000) : ∀ (f n : Nat), n ≤ l.length → (∀ j, n ≤ j → j < l.length → sLt w (gd l j)) → n < f →
    ∃ m : Nat, make_Fence_L3 k w z1 z2 l f (n : Int) = k (m : Int) z1 z2 ∧ m ≤ n ∧ (∀ j, m ≤ j → j < l.length → sLt w (gd l j)) ∧ (m = 0 ∨ ¬ sLt w (gd l (m - 1)))
  | 0, n, _, _, h => by omega
  | f + 1, n, h1, h2, h3 => by
    show ∃ m : Nat, make_Fence_B3 k w z1 z2 l (make_Fence_L3 k w z1 z2 l f) (n : Int) = _ ∧ _
    unfold make_Fence_B3
    have e : (if (0 < (n : Int)) then ((lidx l (w64 ((n : Int) - 1))).bind fun u1266 => some (decide (sLt w u1266))) else some false) = some (decide (n ≠ 0 ∧ sLt w (gd l (n - 1)))) := by
      by_cases h0 : n = 0
      · rw [if_neg (by omega)]; simp [h0]
      · rw [if_pos (by omega), w64_id (by omega) (by omega), show ((n : Int) - 1) = ((n - 1 : Nat) : Int) by omega, lidx_nat .empty (by omega)]
        simp [h0]
    rw [e]
    simp only [Option.bind_some]
    by_cases h4 : n ≠ 0 ∧ sLt w (gd l (n - 1))
    · rw [if_pos (decide_eq_true h4), w64_id (by omega) (by omega), show ((n : Int) - 1) = ((n - 1 : Nat) : Int) by omega]
      obtain ⟨m, h5, h6, h7⟩ := scan_L k w z1 z2 l hl f (n - 1) (by omega) (fun j h5 h6 => by
        rcases Nat.eq_or_lt_of_le h5 with rfl | h7
        · exact h4.2
        · exact h2 j (by omega) h6) (by omega)
      exact ⟨m, h5, by omega, h7⟩
    · rw [if_neg (by rw [decide_eq_true_eq]; exact h4)]
      refine ⟨n, rfl, Nat.le_refl _, h2, ?_⟩
      rcases Nat.eq_zero_or_pos n with h5 | h5
      · exact .inl h5
      · exact .inr (fun h6 => h4 ⟨by omega, h6⟩)

theorem gd_ins {l : List ByteArray} {m : Nat} (w : ByteArray) (hm : m ≤ l.length) (j : Nat) : gd (l.take m ++ w :: l.drop m) j = if j < m then gd l j else if j = m then w else gd l (j - 1) := by
  have e : (l.take m).length = m := by simp; omega
  simp only [gd, List.getD_eq_getElem?_getD, List.getElem?_append, e]
  split
  · rename_i h; rw [List.getElem?_take_of_lt h]
  · split
    · rename_i h1 h2; subst h2; simp
    · rename_i h1 h2
      rw [show j - m = (j - m - 1) + 1 by omega, List.getElem?_cons_succ, List.getElem?_drop]
      congr 2; omega

theorem ins_eq {l : List ByteArray} {m : Nat} (w : ByteArray) (hm : m ≤ l.length) :
    (lcpy (l ++ [ByteArray.empty]) ((m : Int) + 1) ((l ++ [ByteArray.empty]).drop (m + 1)).length ((l ++ [ByteArray.empty]).drop m)).set m w = l.take m ++ w :: l.drop m := by
  unfold lcpy
  have e1 : ((m : Int) + 1).toNat = m + 1 := by omega
  rw [e1]
  apply List.ext_getElem?
  intro j
  have eA : (List.take (m + 1) (l ++ [ByteArray.empty])).length = m + 1 := by simp; omega
  have eB : (List.take (List.drop (m + 1) (l ++ [ByteArray.empty])).length (List.drop m (l ++ [ByteArray.empty]))).length = l.length - m := by simp; omega
  have eC : (List.take m l).length = m := by simp; omega
  have eD : m + 1 + min (List.drop m (l ++ [ByteArray.empty])).length (List.drop (m + 1) (l ++ [ByteArray.empty])).length = l.length + 1 := by simp; omega
  have eE : List.drop (l.length + 1) (l ++ [ByteArray.empty]) = [] := List.drop_eq_nil_iff.2 (by simp)
  rw [eD, eE, List.append_nil, List.getElem?_set]
  simp only [List.length_append, eA, eB]
  rw [List.getElem?_append (l₁ := List.take m l), eC]
  by_cases h1 : j < m
  · rw [if_neg (by omega), if_pos h1, List.getElem?_append, eA, if_pos (by omega), List.getElem?_take_of_lt (by omega), List.getElem?_append, if_pos (by omega), List.getElem?_take_of_lt h1]
  · by_cases h2 : m = j
    · subst h2
      rw [if_pos rfl, if_pos (by omega), if_neg h1]; simp
    · rw [if_neg h2, if_neg h1, List.getElem?_append, eA, if_neg (by omega), show j - m = (j - m - 1) + 1 by omega, List.getElem?_cons_succ, List.getElem?_drop]
      rw [show j - (m + 1) = j - m - 1 by omega]
      rcases Nat.lt_or_ge (j - m - 1) (l.length - m) with h3 | h3
      · rw [List.getElem?_take_of_lt (by simp; omega), List.getElem?_drop, List.getElem?_append, if_pos (by omega)]
      · rw [List.getElem?_eq_none (by rw [eB]; omega), List.getElem?_eq_none (by omega)]

theorem asc_of {l : List ByteArray} (h1 : ∀ i, i < l.length → KeyP (gd l i)) (h2 : ∀ i, i + 1 < l.length → sLt (gd l i) (gd l (i + 1))) : AscP l := fun j hj => by
  refine ⟨h1 j hj, ?_⟩
  cases j with
  | zero => exact .inl rfl
  | succ j => exact .inr (h2 j hj)

/-- A pack's keys. -/
def PK (l : List ByteArray) (n : Nat) : Prop := AscP l ∧ (∀ i, i < l.length → Wd (gd l i)) ∧ l.length ≤ n

theorem insert_L (kx : List ByteArray → Int → Int → Option ((Int × List ByteArray) × (List Int × Int))) (p z : Int) : ∀ (xs l : List ByteArray) (n : Nat), PK l n → n + xs.length ≤ 1000 → (∀ x ∈ xs, Wd x) →
    ∃ r, make_Fence_L4 kx xs l p z = kx r p z ∧ PK r (n + xs.length) ∧ l.length ≤ r.length ∧ (xs ≠ [] → 1 ≤ r.length)
  | [], l, n, h, hn, _ => ⟨l, rfl, h, Nat.le_refl _, fun h => absurd rfl h⟩
  | x :: xs, l, n, h, hn, hw => by
    show ∃ r, make_Fence_B4 kx (make_Fence_L4 kx xs) x l p z = _ ∧ _
    unfold make_Fence_B4
    simp only [List.length_cons] at hn
    have hl := h.2.2
    obtain ⟨m, h1, h2, h3, h4⟩ := scan_L (make_Fence_J2 (make_Fence_L4 kx xs) x l) x p z l (by omega) big l.length (Nat.le_refl _) (fun j h5 h6 => by omega) (by simp only [big]; omega)
    rw [h1]
    unfold make_Fence_J2
    have e : (if (0 < (m : Int)) then ((lidx l (w64 ((m : Int) - 1))).bind fun u1202 => some (decide (u1202 = x))) else some false) = some (decide (m ≠ 0 ∧ gd l (m - 1) = x)) := by
      by_cases h0 : m = 0
      · rw [if_neg (by omega)]; simp [h0]
      · rw [if_pos (by omega), w64_id (by omega) (by omega), show ((m : Int) - 1) = ((m - 1 : Nat) : Int) by omega, lidx_nat .empty (by omega)]
        simp [h0]
    rw [e]
    simp only [Option.bind_some]
    by_cases h5 : m ≠ 0 ∧ gd l (m - 1) = x
    · rw [if_pos (decide_eq_true h5)]
      obtain ⟨r, h6, h7, h8, h9⟩ := insert_L kx p z xs l (n + 1) ⟨h.1, h.2.1, by omega⟩ (by omega) (fun y hy => hw y (List.mem_cons_of_mem _ hy))
      exact ⟨r, h6, by rw [List.length_cons, show n + (xs.length + 1) = n + 1 + xs.length by omega]; exact h7, h8, fun _ => by omega⟩
    · rw [if_neg (by rw [decide_eq_true_eq]; exact h5), lapp_ok (by simp; omega)]
      simp only [Option.bind_some]
      rw [w64_id (by omega) (by omega), lsub_ok (by omega) (by simp; omega) (by simp), lsub_ok (by omega) (by simp; omega) (by simp)]
      simp only [Option.bind_some]
      rw [List.take_of_length_le (by simp; omega), List.take_of_length_le (by simp <;> omega), show ((m : Int) + 1).toNat = m + 1 by omega, Int.toNat_natCast]
      have eL : (lcpy (l ++ [ByteArray.empty]) ((m : Int) + 1) ((l ++ [ByteArray.empty]).drop (m + 1)).length ((l ++ [ByteArray.empty]).drop m)).length = l.length + 1 := by
        have := congrArg List.length (ins_eq x (by omega : m ≤ l.length))
        rw [List.length_set] at this
        rw [this]; simp; omega
      rw [lidx_nat .empty (by rw [eL]; omega)]
      simp only [Option.bind_some]
      rw [lupd_ok (by omega) (by rw [eL]; omega)]
      simp only [Option.bind_some]
      rw [Int.toNat_natCast, ins_eq x (by omega)]
      have eN : (l.take m ++ x :: l.drop m).length = l.length + 1 := by simp; omega
      have hx := hw x (List.mem_cons_self ..)
      have wd : ∀ i, i < (l.take m ++ x :: l.drop m).length → Wd (gd (l.take m ++ x :: l.drop m) i) := fun i hi => by
        rw [gd_ins x (by omega)]
        split
        · exact h.2.1 i (by omega)
        · split
          · exact hx
          · exact h.2.1 _ (by omega)
      have hlt : m ≠ 0 → sLt (gd l (m - 1)) x := fun h6 => by
        rcases h4 with h7 | h7
        · exact absurd h7 h6
        · rcases sLt_tri (gd l (m - 1)) x with h8 | h8 | h8
          · exact h8
          · exact absurd ⟨h6, h8⟩ h5
          · exact absurd h8 h7
      obtain ⟨r, h6, h7, h8, h9⟩ := insert_L kx p z xs (l.take m ++ x :: l.drop m) (n + 1) ⟨asc_of (fun i hi => by have := wd i hi; unfold Wd at this; unfold KeyP; omega) (fun i hi => by
          rw [gd_ins x (by omega), gd_ins x (by omega)]
          by_cases a : i + 1 < m
          · rw [if_pos (by omega), if_pos a]; exact asc_lt h.1 (by omega) (by omega)
          · by_cases b : i + 1 = m
            · rw [if_pos (by omega), if_neg a, if_pos b]
              have := hlt (by omega)
              rwa [show m - 1 = i by omega] at this
            · by_cases c : i = m
              · rw [if_neg (by omega), if_pos c, if_neg a, if_neg b, Nat.add_sub_cancel]
                exact h3 i (by omega) (by omega)
              · rw [if_neg (by omega), if_neg c, if_neg a, if_neg b]
                exact asc_lt h.1 (by omega) (by omega)), wd, by omega⟩ (by omega) (fun y hy => hw y (List.mem_cons_of_mem _ hy))
      exact ⟨r, h6, by rw [List.length_cons, show n + (xs.length + 1) = n + 1 + xs.length by omega]; exact h7, by omega, fun _ => by omega⟩

theorem fence_ok {l : List Int} (hl : l.length ≤ 1000) {d : List Int × Int} (hd : Dk l d) : ∃ f e, make_Fence d = some (f, e) ∧ FenP f ∧ f.1 ≤ 6 ∧ f.2.length ≤ 25 ∧ (∀ i, i < f.2.length → Wd (gd f.2 i)) ∧ Dk l e := by
  obtain ⟨vs, e, h1, h2, h3, h4, h5⟩ := words_ok hl hd (n := 24) (by omega)
  unfold make_Fence
  rw [h1]
  simp only [Option.bind_some]
  rw [lapp_ok (by simp; omega)]
  simp only [Option.bind_some]
  obtain ⟨r, h6, h7, h8, h9⟩ := insert_L (make_Fence_J1 e.1) e.2 0 (vs ++ [⟨#[109]⟩]) [] 0 ⟨fun j hj => absurd hj (Nat.not_lt_zero j), fun j hj => absurd hj (Nat.not_lt_zero j), Nat.le_refl _⟩ (by simp; omega) (fun x hx => by
    rcases List.mem_append.1 hx with hx | hx
    · exact h4 x hx
    · simp at hx; subst hx; unfold Wd; exact ⟨by decide, by decide⟩)
  rw [h6]
  unfold make_Fence_J1
  obtain ⟨v, e2, g1, g2, g3, g4⟩ := next_ok hl h2 (n := 5) (by omega)
  rw [show (e.1, e.2) = e from rfl, g1]
  simp only [Option.bind_some]
  rw [w64_id (by omega) (by omega)]
  have a1 := h7.2.2
  have a2 := h9 (by simp)
  simp only [List.length_append, List.length_cons, List.length_nil] at a1
  refine ⟨_, _, rfl, ⟨by dsimp only; omega, h7.1⟩, by dsimp only; omega, by dsimp only; omega, h7.2.1, g4⟩
theorem few_eq (l : List Int) : make_Few l = some (decide (l.length ≤ 500)) := by
  unfold make_Few; exact congrArg some (decide_eq_decide.2 (by omega))
end Go.Proofs.Ytdchjmophffphaa
