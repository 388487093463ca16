/- Chapter 29, plain: the laws PlannerBest, PlannerLess, PlannerSure, PlannerScales. -/
import Derived.Test.YtmjidoadjinhgaaC29d
namespace Go.Proofs.Ytmjidoadjinhgaa

theorem bst_mem : ∀ (cs : List Cho) (c : Cho), bst c cs ∈ c :: cs
  | [], c => List.mem_cons_self ..
  | x :: xs, c => by
    simp only [bst]
    have := bst_mem xs (if x.2.2 < c.2.2 then x else c)
    rcases List.mem_cons.1 this with h | h
    · rw [h]
      split
      · exact List.mem_cons_of_mem _ (List.mem_cons_self ..)
      · exact List.mem_cons_self ..
    · exact List.mem_cons_of_mem _ (List.mem_cons_of_mem _ h)
theorem bst_le : ∀ (cs : List Cho) (c : Cho), ∀ y ∈ c :: cs, (bst c cs).2.2 ≤ y.2.2
  | [], c, y, h => by simp at h; subst h; exact Int.le_refl _
  | x :: xs, c, y, h => by
    simp only [bst]
    have ih := bst_le xs (if x.2.2 < c.2.2 then x else c)
    have h0 := ih _ (List.mem_cons_self ..)
    rcases List.mem_cons.1 h with rfl | h
    · split at h0 <;> rename_i hx
      · rw [if_pos hx]; omega
      · rw [if_neg hx]; omega
    · rcases List.mem_cons.1 h with rfl | h
      · split at h0 <;> rename_i hx
        · rw [if_pos hx]; omega
        · rw [if_neg hx]; omega
      · exact ih y (List.mem_cons_of_mem _ h)

theorem mem_pick {x : Wnt} {l : List Sch} {c : Cho} : c ∈ pick x l ↔ ∃ s ∈ l, servesP s x ∧ c = cho x s := by
  unfold pick
  simp only [List.mem_map, List.mem_filter, decide_eq_true_eq]
  constructor
  · rintro ⟨s, ⟨h1, h2⟩, h3⟩; exact ⟨s, h1, h2, h3.symm⟩
  · rintro ⟨s, h1, h2, h3⟩; exact ⟨s, ⟨h1, h2⟩, h3.symm⟩
/-- Whatever serves is looked at. -/
theorem mem_all {s : Sch} {x : Wnt} (h : servesP s x) : s ∈ allS x.1.toNat := by
  obtain ⟨k, n, a, b⟩ := s
  obtain ⟨h1, h2, h3, _⟩ := h
  have hn := h1.1
  have hs := h2.1; have hk := h2.2
  dsimp only at hn hs hk h3
  rw [← h3]
  unfold allS
  rcases hk with ⟨rfl, rfl, rfl⟩ | ⟨rfl, ha, hb, rfl⟩ | ⟨rfl, ha, hb, hc⟩
  · rw [show ((n.toNat : Nat) : Int) = n by omega]
    exact List.mem_cons_self ..
  · refine List.mem_cons_of_mem _ (List.mem_append_left _ (List.mem_map.2 ⟨a.toNat, List.mem_range.2 (by omega), ?_⟩))
    unfold s2
    rw [show ((n.toNat : Nat) : Int) = n by omega, show ((a.toNat : Nat) : Int) = a by omega]
  · refine List.mem_cons_of_mem _ (List.mem_append_right _ (List.mem_flatMap.2 ⟨b.toNat, List.mem_range.2 (by omega), List.mem_map.2 ⟨a.toNat, List.mem_range.2 (by omega), ?_⟩⟩))
    unfold s3
    rw [show ((n.toNat : Nat) : Int) = n by omega, show ((a.toNat : Nat) : Int) = a by omega, show ((b.toNat : Nat) : Int) = b by omega]
/-- What serves costs something. -/
theorem cost_ok {s : Sch} {x : Wnt} (h : servesP s x) : (costI s x.2.2.2.2.1 x.2.2.2.2.2.1 x.2.2.2.2.2.2.1).2 = 0 := by
  rw [costI_3 h.2.1 ⟨h.1.2.2.1, h.1.2.2.2.1, h.1.2.2.2.2.1⟩]

theorem best_cases (x : Wnt) : (¬ okW x ∧ bestI x = (((0, 0, 0, 0), (0, 0, 0), 0), 42)) ∨ (okW x ∧ pick x (allS x.1.toNat) = [] ∧ bestI x = (((0, 0, 0, 0), (0, 0, 0), 0), 6)) ∨
    ∃ s, okW x ∧ pick x (allS x.1.toNat) ≠ [] ∧ servesP s x ∧ bestI x = (cho x s, 0) ∧ ∀ t, servesP t x → (cho x s).2.2 ≤ (cho x t).2.2 := by
  by_cases h : okW x
  · right
    cases hp : pick x (allS x.1.toNat) with
    | nil => left; exact ⟨h, rfl, by unfold bestI; rw [if_pos h, hp]⟩
    | cons c cs =>
      right
      have hm := bst_mem cs c
      rw [← hp, mem_pick] at hm
      obtain ⟨s, _, hs, e⟩ := hm
      refine ⟨s, h, by simp, hs, by unfold bestI; rw [if_pos h, hp, ← e], fun t ht => ?_⟩
      rw [← e]
      exact bst_le cs c _ (by rw [← hp]; exact mem_pick.2 ⟨t, mem_all ht, ht, rfl⟩)
  · left; exact ⟨h, by unfold bestI; rw [if_neg h]⟩

theorem pb_L1 (x : Wnt) (m : Int) (hm : ∀ t, servesP t x → m ≤ (cho x t).2.2) : ∀ (l : List Cho), (∀ c ∈ l, ∃ s, servesP s x ∧ c = cho x s) → law29_PlannerBest_L1 m x.1 x.2.1 x.2.2.1 x.2.2.2.1 x.2.2.2.2.1 x.2.2.2.2.2.1 x.2.2.2.2.2.2.1 x.2.2.2.2.2.2.2.1 x.2.2.2.2.2.2.2.2.1 x.2.2.2.2.2.2.2.2.2 l = some true
  | [], _ => rfl
  | c :: l, h => by
    obtain ⟨s, hs, rfl⟩ := h c (List.mem_cons_self ..)
    show law29_PlannerBest_B1 m x.1 x.2.1 x.2.2.1 x.2.2.2.1 x.2.2.2.2.1 x.2.2.2.2.2.1 x.2.2.2.2.2.2.1 x.2.2.2.2.2.2.2.1 x.2.2.2.2.2.2.2.2.1 x.2.2.2.2.2.2.2.2.2 (law29_PlannerBest_L1 m x.1 x.2.1 x.2.2.1 x.2.2.2.1 x.2.2.2.2.1 x.2.2.2.2.2.1 x.2.2.2.2.2.2.1 x.2.2.2.2.2.2.2.1 x.2.2.2.2.2.2.2.2.1 x.2.2.2.2.2.2.2.2.2 l) (cho x s) = _
    unfold law29_PlannerBest_B1
    have := hm s hs
    rw [if_neg (by omega), serves_eq]
    have e : servesP (cho x s).1 (x.1, x.2.1, x.2.2.1, x.2.2.2.1, x.2.2.2.2.1, x.2.2.2.2.2.1, x.2.2.2.2.2.2.1, x.2.2.2.2.2.2.2.1, x.2.2.2.2.2.2.2.2.1, x.2.2.2.2.2.2.2.2.2) := hs
    simp only [Option.bind_some]
    rw [if_neg (nb_t e)]
    exact pb_L1 x m hm l (fun c hc => h c (List.mem_cons_of_mem _ hc))

theorem pb_L3 {l : List Int} (hl : Dl l) (x : Wnt) (m : Int) (hm : ∀ t, servesP t x → m ≤ (cho x t).2.2) (kx : Int → Int → Int → Int → Int → Int → Int → Int → Int → Int → Int → Int → Int → Int → Int → Int → Int → Int → Int → Int → Int → List Int → Int → Option Bool) (a1 a2 a3 a4 a5 a6 a7 a8 a9 aa : Int)
    (hk : ∀ p, kx a1 a2 a3 a4 a5 a6 a7 a8 a9 aa m x.1 x.2.1 x.2.2.1 x.2.2.2.1 x.2.2.2.2.1 x.2.2.2.2.2.1 x.2.2.2.2.2.2.1 x.2.2.2.2.2.2.2.1 x.2.2.2.2.2.2.2.2.1 x.2.2.2.2.2.2.2.2.2 l p = some true) : ∀ (f : Nat) (i : Int) (d : List Int × Int), 0 ≤ i → i ≤ 8 → 8 - i < f → Dk l d →
    law29_PlannerBest_L3 kx a1 a2 a3 a4 a5 a6 a7 a8 a9 aa m x.1 x.2.1 x.2.2.1 x.2.2.2.1 x.2.2.2.2.1 x.2.2.2.2.2.1 x.2.2.2.2.2.2.1 x.2.2.2.2.2.2.2.1 x.2.2.2.2.2.2.2.2.1 x.2.2.2.2.2.2.2.2.2 f i d.1 d.2 = some true
  | 0, i, d, _, _, h, _ => by omega
  | f + 1, i, d, h0, h1, h2, hd => by
    have ih := pb_L3 hl x m hm kx a1 a2 a3 a4 a5 a6 a7 a8 a9 aa hk f
    show law29_PlannerBest_B3 kx a1 a2 a3 a4 a5 a6 a7 a8 a9 aa m x.1 x.2.1 x.2.2.1 x.2.2.2.1 x.2.2.2.2.1 x.2.2.2.2.2.1 x.2.2.2.2.2.2.1 x.2.2.2.2.2.2.2.1 x.2.2.2.2.2.2.2.2.1 x.2.2.2.2.2.2.2.2.2 (law29_PlannerBest_L3 kx a1 a2 a3 a4 a5 a6 a7 a8 a9 aa m x.1 x.2.1 x.2.2.1 x.2.2.2.1 x.2.2.2.2.1 x.2.2.2.2.2.1 x.2.2.2.2.2.2.1 x.2.2.2.2.2.2.2.1 x.2.2.2.2.2.2.2.2.1 x.2.2.2.2.2.2.2.2.2 f) i d.1 d.2 = _
    unfold law29_PlannerBest_B3
    split
    · obtain ⟨s, e, h3, k3⟩ := odd_ok hl hd
      rw [show (d.1, d.2) = d from rfl, h3]
      simp only [Option.bind_some]
      rw [serves_eq, w64_id (x := i + 1) (by omega) (by omega)]
      simp only [Option.bind_some]
      by_cases hs : servesP (s.1, x.1, s.2.2.1, s.2.2.2) (x.1, x.2.1, x.2.2.1, x.2.2.2.1, x.2.2.2.2.1, x.2.2.2.2.2.1, x.2.2.2.2.2.2.1, x.2.2.2.2.2.2.2.1, x.2.2.2.2.2.2.2.2.1, x.2.2.2.2.2.2.2.2.2)
      · rw [if_pos (bt hs), rof_eq]
        simp only [Option.bind_some]
        have hc := cost_ok hs
        have hq := hm _ hs
        dsimp only at hc
        rw [hc, if_neg (by decide), rsum_eq]
        simp only [Option.bind_some]
        rw [if_neg (bf (show ¬ _ < m from by unfold cho at hq; dsimp only at hq; exact Int.not_lt.2 hq))]
        exact ih (i + 1) e (by omega) (by omega) (by omega) k3
      · rw [if_neg (bf hs)]
        exact ih (i + 1) e (by omega) (by omega) (by omega) k3
    · rw [hd.1]; exact hk _

theorem law_best {x0 : List Int} (h0 : ∀ y ∈ x0, 0 ≤ y ∧ y ≤ 255) : law29_PlannerBest x0 = some true := by
  unfold law29_PlannerBest
  rw [sane29]
  simp only [Option.bind_some]
  rw [if_neg (by decide)]
  obtain ⟨d, e1, hl, hd⟩ := new_ok h0
  rw [e1]; simp only [Option.bind_some]
  obtain ⟨x, e, e2, hw, he⟩ := wanted_ok hl hd
  rw [e2]; simp only [Option.bind_some]
  rw [valid_eq, best_eq, cand_eq]
  simp only [Option.bind_some]
  rcases best_cases x with ⟨h, hb⟩ | ⟨h, hp, hb⟩ | ⟨s, h, hp, hs, hb, hm⟩
  · rw [if_pos (nb_f h), hb]; rfl
  · rw [if_neg (nb_t h), hb]
    unfold candI; rw [if_pos h, hp]
    rfl
  · rw [if_neg (nb_t h), hb]
    unfold candI; rw [if_pos h]
    have hlen : 0 < (pick x (allS x.1.toNat)).length := List.length_pos_iff.2 hp
    rw [if_neg (by simp; omega), if_neg (by simp), rof_eq]
    simp only [Option.bind_some]
    have hc := cost_ok hs
    have e3 : (costI (cho x s).1 x.2.2.2.2.1 x.2.2.2.2.2.1 x.2.2.2.2.2.2.1) = costI s x.2.2.2.2.1 x.2.2.2.2.2.1 x.2.2.2.2.2.2.1 := rfl
    rw [e3, hc]
    rw [if_neg (by simp [cho]), rsum_eq]
    simp only [Option.bind_some]
    rw [if_neg (by simp [cho]), serves_eq]
    simp only [Option.bind_some]
    have hs' : servesP (cho x s).1 x := hs
    rw [if_neg (nb_t hs')]
    refine pb_L3 hl x (cho x s).2.2 hm _ _ _ _ _ _ _ _ _ _ _ (fun p => ?_) big 0 e (by omega) (by omega) (by simp only [big]; omega) he
    unfold law29_PlannerBest_J2
    exact pb_L1 x _ hm _ (fun c hc => by obtain ⟨s, _, hs, rfl⟩ := mem_pick.1 hc; exact ⟨s, hs, rfl⟩)
end Go.Proofs.Ytmjidoadjinhgaa
