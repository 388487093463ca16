/- Chapter 29, plain: the laws PlannerLess, PlannerSure, PlannerScales. -/
import Derived.Test.YtmjidoadjinhgaaC29e
namespace Go.Proofs.Ytmjidoadjinhgaa

/-- Less collusion, silence and wrong servers. -/
def less (x : Wnt) (c s w : Int) : Wnt := (x.1, c, s, w, x.2.2.2.2)
theorem serves_less {t : Sch} {x : Wnt} {c s w : Int} (hc : 0 ≤ c ∧ c ≤ max 0 x.2.1) (hs : 0 ≤ s ∧ s ≤ x.2.2.1) (hw : 0 ≤ w ∧ w ≤ x.2.2.2.1) (h : servesP t x) : servesP t (less x c s w) := by
  obtain ⟨h1, h2, h3, h4, h5⟩ := h
  have hx := h1
  unfold okW at hx
  refine ⟨?_, h2, h3, ?_, ?_⟩
  · unfold okW less; dsimp only; omega
  · unfold less; dsimp only; omega
  · unfold bearsP at h5 ⊢; unfold less; dsimp only; exact ⟨h5.1, by omega, by omega, by omega⟩
theorem cho_less (t : Sch) (x : Wnt) (c s w : Int) : cho (less x c s w) t = cho x t := rfl

theorem law_less {x0 : List Int} (h0 : ∀ y ∈ x0, 0 ≤ y ∧ y ≤ 255) : law29_PlannerLess x0 = some true := by
  unfold law29_PlannerLess
  rw [sane29]
  simp only [Option.bind_some]
  rw [if_neg (by decide)]
  obtain ⟨d, e1, hl, hd⟩ := new_ok h0
  rw [e1]; simp only [Option.bind_some]
  obtain ⟨x, e, e2, hw, he⟩ := wanted_ok hl hd
  unfold Wd at hw
  rw [e2]; simp only [Option.bind_some]
  rw [w64_id (x := x.2.1 + 1) (by omega) (by omega), w64_id (x := x.2.2.1 + 1) (by omega) (by omega), w64_id (x := x.2.2.2.1 + 1) (by omega) (by omega)]
  obtain ⟨c, d1, g1, b1, k1⟩ := pick_ok hl he (n := max 1 (x.2.1 + 1)) (by omega)
  rw [g1]; simp only [Option.bind_some]
  obtain ⟨s, d2, g2, b2, k2⟩ := pick_ok hl k1 (n := x.2.2.1 + 1) (by omega)
  rw [g2]; simp only [Option.bind_some]
  obtain ⟨w, d3, g3, b3, k3⟩ := pick_ok hl k2 (n := x.2.2.2.1 + 1) (by omega)
  rw [g3]; simp only [Option.bind_some]
  obtain ⟨t, d4, g4, k4⟩ := scheme_ok hl k3
  rw [g4]; simp only [Option.bind_some]
  rw [serves_eq, serves_eq, best_eq, best_eq]
  simp only [Option.bind_some]
  have mono : ∀ t, servesP t x → servesP t (less x c s w) := fun t h => serves_less (by omega) (by omega) (by omega) h
  have el : (x.1, c, s, w, x.2.2.2.2.1, x.2.2.2.2.2.1, x.2.2.2.2.2.2.1, x.2.2.2.2.2.2.2.1, x.2.2.2.2.2.2.2.2.1, x.2.2.2.2.2.2.2.2.2) = less x c s w := rfl
  rw [el]
  have e3 : (if decide (servesP (t.1, x.1, t.2.2.1, t.2.2.2) x) = true then some (!decide (servesP (t.1, x.1, t.2.2.1, t.2.2.2) (less x c s w))) else some false) = some false := by
    by_cases h : servesP (t.1, x.1, t.2.2.1, t.2.2.2) x
    · rw [if_pos (bt h)]
      simp [mono _ h]
    · rw [if_neg (bf h)]
  rw [e3]
  simp only [Option.bind_some]
  rw [if_neg (by decide)]
  refine congrArg some (decide_eq_true ?_)
  rcases best_cases x with ⟨_, hb⟩ | ⟨_, _, hb⟩ | ⟨u, hx, _, hu, hb, hm⟩
  · left; rw [hb]; decide
  · left; rw [hb]; decide
  · right
    rcases best_cases (less x c s w) with ⟨h2, _⟩ | ⟨_, h2, _⟩ | ⟨v, _, _, hv, hb2, hm2⟩
    · exact absurd (mono u hu).1 h2
    · exact absurd (mem_pick.2 ⟨u, mem_all (mono u hu), mono u hu, rfl⟩) (by rw [h2]; simp)
    · rw [hb, hb2]
      exact ⟨rfl, hm2 u (mono u hu)⟩

-- no scheme twice
theorem all_nodup : ∀ n : Nat, n ≤ 10 → (allS n).Nodup := by
  have : (List.range 11).all (fun n => decide ((allS n).Nodup)) = true := by kernel_rfl
  intro n hn
  have := List.all_eq_true.1 this n (List.mem_range.2 (by omega))
  exact of_decide_eq_true this

theorem ps_L1 (rec : Int → Int → Int → Int → Int → Int → Int → Int → Int → Int → Int → Option Bool) (s : Sch) (a1 a2 a3 a4 a5 a6 a7 a8 a9 aa ab : Int) : ∀ (l : List Cho), (∀ c ∈ l, c.1 ≠ s) → law29_PlannerSure_L1 rec s.1 s.2.1 s.2.2.1 s.2.2.2 a1 a2 a3 a4 a5 a6 a7 a8 a9 aa ab l = rec a1 a2 a3 a4 a5 a6 a7 a8 a9 aa ab
  | [], _ => rfl
  | c :: l, h => by
    show law29_PlannerSure_B1 rec s.1 s.2.1 s.2.2.1 s.2.2.2 a1 a2 a3 a4 a5 a6 a7 a8 a9 aa ab (law29_PlannerSure_L1 rec s.1 s.2.1 s.2.2.1 s.2.2.2 a1 a2 a3 a4 a5 a6 a7 a8 a9 aa ab l) c = _
    unfold law29_PlannerSure_B1
    rw [if_neg (fun h2 => h c (List.mem_cons_self ..) h2)]
    exact ps_L1 rec s a1 a2 a3 a4 a5 a6 a7 a8 a9 aa ab l (fun c hc => h c (List.mem_cons_of_mem _ hc))

theorem pick_nodup {x : Wnt} (h : okW x) : ((pick x (allS x.1.toNat)).map (·.1)).Nodup := by
  have e : (pick x (allS x.1.toNat)).map (·.1) = (allS x.1.toNat).filter fun s => decide (servesP s x) := by
    unfold pick; rw [List.map_map]
    exact (List.map_congr_left (fun _ _ => rfl)).trans (List.map_id _)
  rw [e]
  have hn := h.1
  exact (all_nodup _ (by omega)).filter _

theorem ps_L2 {x : Wnt} (h : okW x) (e : Int) : ∀ (xs : List Cho) (i : Nat), (pick x (allS x.1.toNat)).drop i = xs → law29_PlannerSure_L2 (pick x (allS x.1.toNat)) xs i x.1 x.2.1 x.2.2.1 x.2.2.2.1 x.2.2.2.2.1 x.2.2.2.2.2.1 x.2.2.2.2.2.2.1 x.2.2.2.2.2.2.2.1 x.2.2.2.2.2.2.2.2.1 x.2.2.2.2.2.2.2.2.2 e = some true
  | [], _, _ => rfl
  | c :: xs, i, hd => by
    show law29_PlannerSure_B2 (pick x (allS x.1.toNat)) (law29_PlannerSure_L2 (pick x (allS x.1.toNat)) xs (i + 1)) c i x.1 x.2.1 x.2.2.1 x.2.2.2.1 x.2.2.2.2.1 x.2.2.2.2.2.1 x.2.2.2.2.2.2.1 x.2.2.2.2.2.2.2.1 x.2.2.2.2.2.2.2.2.1 x.2.2.2.2.2.2.2.2.2 e = _
    unfold law29_PlannerSure_B2
    have hi := drop_lt hd
    have hx := drop_idx hd
    have hmem : c ∈ pick x (allS x.1.toNat) := by
      obtain ⟨_, _, h3⟩ := lidx_some hx
      exact List.mem_of_getElem? h3
    obtain ⟨s, _, hs, rfl⟩ := mem_pick.1 hmem
    have h1 : x.2.1 ≤ thr s := hs.2.2.2.1
    have h2 : bearsP s x.2.2.1 x.2.2.2.1 := hs.2.2.2.2
    rw [rthr_eq, rbears_eq]
    simp only [Option.bind_some]
    have e1 : (if thr (cho x s).1 < x.2.1 then some true else some (!decide (bearsP (cho x s).1 x.2.2.1 x.2.2.2.1))) = some false := by
      have hq : ¬ thr (cho x s).1 < x.2.1 := by show ¬ thr s < x.2.1; omega
      rw [if_neg hq]
      have : decide (bearsP (cho x s).1 x.2.2.1 x.2.2.2.1) = true := bt h2
      rw [this]; rfl
    rw [e1]
    simp only [Option.bind_some]
    have h3 : s.2.1 = x.1 := hs.2.2.1
    rw [if_neg (by rintro (q | q); exact absurd q (by decide); exact q h3), lsub_ok (by omega) (by omega) (by omega)]
    simp only [Option.bind_some]
    have hn := pick_nodup h
    have := ps_L1 (law29_PlannerSure_L2 (pick x (allS x.1.toNat)) xs (i + 1)) s x.1 x.2.1 x.2.2.1 x.2.2.2.1 x.2.2.2.2.1 x.2.2.2.2.2.1 x.2.2.2.2.2.2.1 x.2.2.2.2.2.2.2.1 x.2.2.2.2.2.2.2.2.1 x.2.2.2.2.2.2.2.2.2 e (List.take ((i : Int) - 0).toNat (List.drop (0 : Int).toNat (pick x (allS x.1.toNat)))) (fun c hc hcs => by
      rw [show ((i : Int) - 0).toNat = i by omega, Int.toNat_zero, List.drop_zero] at hc
      have hsplit : (pick x (allS x.1.toNat)).map (·.1) = ((pick x (allS x.1.toNat)).take i).map (·.1) ++ ((pick x (allS x.1.toNat)).drop i).map (·.1) := by rw [← List.map_append, List.take_append_drop]
      rw [hsplit, hd, List.nodup_append] at hn
      exact hn.2.2 c.1 (List.mem_map.2 ⟨c, hc, rfl⟩) s (List.mem_map.2 ⟨cho x s, List.mem_cons_self .., rfl⟩) hcs)
    have e4 : (cho x s).1 = s := rfl
    rw [e4, this]
    exact ps_L2 h e xs (i + 1) (drop_succ hd)

theorem law_sure {x0 : List Int} (h0 : ∀ y ∈ x0, 0 ≤ y ∧ y ≤ 255) : law29_PlannerSure x0 = some true := by
  unfold law29_PlannerSure
  rw [sane29]
  simp only [Option.bind_some]
  rw [if_neg (by decide)]
  obtain ⟨d, e1, hl, hd⟩ := new_ok h0
  rw [e1]; simp only [Option.bind_some]
  obtain ⟨x, e, e2, _, he⟩ := wanted_ok hl hd
  rw [e2]; simp only [Option.bind_some]
  rw [cand_eq, valid_eq]
  simp only [Option.bind_some]
  by_cases h : okW x
  · unfold candI; rw [if_pos h, if_neg (by simp)]
    exact ps_L2 h _ _ 0 rfl
  · unfold candI; rw [if_neg h, if_pos (by simp)]
    simp [h]

/-- Weights times m. -/
def wgt (x : Wnt) (a b c : Int) : Wnt := (x.1, x.2.1, x.2.2.1, x.2.2.2.1, x.2.2.2.2.1, x.2.2.2.2.2.1, x.2.2.2.2.2.2.1, a, b, c)
theorem serves_wgt {t : Sch} {x : Wnt} {a b c a' b' c' : Int} (h : (0 ≤ a ∧ a ≤ 1048576) ∧ (0 ≤ b ∧ b ≤ 1048576) ∧ 0 ≤ c ∧ c ≤ 1048576) (h' : (0 ≤ a' ∧ a' ≤ 1048576) ∧ (0 ≤ b' ∧ b' ≤ 1048576) ∧ 0 ≤ c' ∧ c' ≤ 1048576) :
    (okW (wgt x a b c) ↔ okW (wgt x a' b' c')) ∧ (servesP t (wgt x a b c) ↔ servesP t (wgt x a' b' c')) := by
  have hw : okW (wgt x a b c) ↔ okW (wgt x a' b' c') := by unfold okW wgt; dsimp only; omega
  refine ⟨hw, ?_⟩
  unfold servesP
  rw [hw]
  rfl
theorem pick_wgt {x : Wnt} {a b c a' b' c' : Int} (h : (0 ≤ a ∧ a ≤ 1048576) ∧ (0 ≤ b ∧ b ≤ 1048576) ∧ 0 ≤ c ∧ c ≤ 1048576) (h' : (0 ≤ a' ∧ a' ≤ 1048576) ∧ (0 ≤ b' ∧ b' ≤ 1048576) ∧ 0 ≤ c' ∧ c' ≤ 1048576) {m : Int}
    (hm : ∀ s, servesP s (wgt x a b c) → (cho (wgt x a' b' c') s).2.2 = (cho (wgt x a b c) s).2.2 * m) : ∀ l : List Sch, pick (wgt x a' b' c') l = (pick (wgt x a b c) l).map fun k => (k.1, k.2.1, k.2.2 * m)
  | [] => rfl
  | s :: l => by
    rw [pick_cons, pick_cons, pick_wgt h h' hm l]
    by_cases hs : servesP s (wgt x a b c)
    · rw [if_pos hs, if_pos ((serves_wgt h h').2.1 hs), List.map_cons]
      congr 1
      have := hm s hs
      unfold cho at this ⊢
      dsimp only at this ⊢
      rw [this]; rfl
    · rw [if_neg hs, if_neg (fun q => hs ((serves_wgt h h').2.2 q))]
theorem bst_map {m : Int} (hm : 1 ≤ m) : ∀ (cs : List Cho) (c : Cho), bst (c.1, c.2.1, c.2.2 * m) (cs.map fun k => (k.1, k.2.1, k.2.2 * m)) = ((bst c cs).1, (bst c cs).2.1, (bst c cs).2.2 * m)
  | [], _ => rfl
  | x :: xs, c => by
    simp only [List.map_cons, bst]
    by_cases h : x.2.2 < c.2.2
    · rw [if_pos h, if_pos (Int.mul_lt_mul_of_pos_right h (by omega)), bst_map hm xs x]
    · rw [if_neg h, if_neg (fun q => h (Int.lt_of_mul_lt_mul_right q (by omega))), bst_map hm xs c]
theorem sum_ok {c1 c2 c3 a b c : Int} (h1 : 0 ≤ c1 ∧ c1 ≤ 10485760) (h2 : 0 ≤ c2 ∧ c2 ≤ 10485760) (h3 : 0 ≤ c3 ∧ c3 ≤ 10485760) (ha : 0 ≤ a ∧ a ≤ 1000) (hb : 0 ≤ b ∧ b ≤ 1000) (hc : 0 ≤ c ∧ c ≤ 1000) : sumI (c1, c2, c3) (a, b, c) = c1 * a + c2 * b + c3 * c ∧ 0 ≤ c1 * a + c2 * b + c3 * c ∧ c1 * a + c2 * b + c3 * c ≤ 31457280000 := by
  have p : ∀ u v : Int, 0 ≤ u ∧ u ≤ 10485760 → 0 ≤ v ∧ v ≤ 1000 → 0 ≤ u * v ∧ u * v ≤ 10485760 * 1000 := fun u v hu hv => ⟨Int.mul_nonneg hu.1 hv.1, Int.mul_le_mul hu.2 hv.2 hv.1 (by omega)⟩
  have q1 := p c1 a h1 ha; have q2 := p c2 b h2 hb; have q3 := p c3 c h3 hc
  unfold sumI
  dsimp only
  rw [w64_id (x := c1 * a) (by omega) (by omega), w64_id (x := c2 * b) (by omega) (by omega), w64_id (x := c3 * c) (by omega) (by omega), w64_id (x := c1 * a + c2 * b) (by omega) (by omega), w64_id (by omega) (by omega)]
  omega

theorem law_scales {x0 : List Int} {x1 : Int} (h0 : ∀ y ∈ x0, 0 ≤ y ∧ y ≤ 255) (h1 : 0 ≤ x1 ∧ x1 ≤ 255) : law29_PlannerScales x0 x1 = some true := by
  unfold law29_PlannerScales
  rw [sane29]
  simp only [Option.bind_some]
  rw [if_neg (by decide)]
  obtain ⟨d, e1, hl, hd⟩ := new_ok h0
  rw [e1]; simp only [Option.bind_some]
  obtain ⟨x, e, e2, _, he⟩ := wanted_ok hl hd
  rw [e2]; simp only [Option.bind_some]
  obtain ⟨a, d1, g1, b1, k1⟩ := pick_ok hl he (n := 9) (by omega)
  rw [g1]; simp only [Option.bind_some]
  obtain ⟨b, d2, g2, b2, k2⟩ := pick_ok hl k1 (n := 9) (by omega)
  rw [g2]; simp only [Option.bind_some]
  obtain ⟨c, d3, g3, b3, k3⟩ := pick_ok hl k2 (n := 3) (by omega)
  rw [g3]; simp only [Option.bind_some]
  have hm : w64 (1 + Int.tmod (w64 x1) 50) = 1 + x1 % 50 := by rw [w64_id (x := x1) (by omega) (by omega), Int.tmod_eq_emod_of_nonneg (by omega), w64_id (by omega) (by omega)]
  rw [hm]
  generalize hM : 1 + x1 % 50 = m
  have m1 : 1 ≤ m ∧ m ≤ 50 := by omega
  have p : ∀ u : Int, 0 ≤ u ∧ u ≤ 8 → 0 ≤ u * m ∧ u * m ≤ 8 * 50 := fun u hu => ⟨Int.mul_nonneg hu.1 (by omega), Int.mul_le_mul hu.2 m1.2 (by omega) (by omega)⟩
  have pa := p a (by omega); have pb := p b (by omega); have pc := p c (by omega)
  rw [w64_id (x := a * m) (by omega) (by omega), w64_id (x := b * m) (by omega) (by omega), w64_id (x := c * m) (by omega) (by omega), best_eq, best_eq]
  simp only [Option.bind_some]
  have E1 : (x.1, x.2.1, x.2.2.1, x.2.2.2.1, x.2.2.2.2.1, x.2.2.2.2.2.1, x.2.2.2.2.2.2.1, a, b, c) = wgt x a b c := rfl
  have E2 : (x.1, x.2.1, x.2.2.1, x.2.2.2.1, x.2.2.2.2.1, x.2.2.2.2.2.1, x.2.2.2.2.2.2.1, a * m, b * m, c * m) = wgt x (a * m) (b * m) (c * m) := rfl
  rw [E1, E2]
  have hA : (0 ≤ a ∧ a ≤ 1048576) ∧ (0 ≤ b ∧ b ≤ 1048576) ∧ 0 ≤ c ∧ c ≤ 1048576 := by omega
  have hB : (0 ≤ a * m ∧ a * m ≤ 1048576) ∧ (0 ≤ b * m ∧ b * m ≤ 1048576) ∧ 0 ≤ c * m ∧ c * m ≤ 1048576 := by omega
  have small : ∀ s, servesP s (wgt x a b c) → (cho (wgt x (a * m) (b * m) (c * m)) s).2.2 = (cho (wgt x a b c) s).2.2 * m ∧ 0 ≤ (cho (wgt x a b c) s).2.2 ∧ (cho (wgt x a b c) s).2.2 ≤ 31457280000 := fun s hs => by
    have hr := hs.1.2.2.1; have hw := hs.1.2.2.2.1; have hp := hs.1.2.2.2.2.1
    obtain ⟨q1, q2, q3, q4⟩ := cost_w hs.2.1 hr hw hp
    have ec := costI_3 hs.2.1 (And.intro hr (And.intro hw hp))
    have s1 := sum_ok (a := a) (b := b) (c := c) (c1 := (wgt x a b c).2.2.2.2.2.2.1 * s.2.1 * un s (wgt x a b c).2.2.2.2.1) (c2 := (wgt x a b c).2.2.2.2.2.2.1 * s.2.1 * (wgt x a b c).2.2.2.2.2.1) (c3 := (wgt x a b c).2.2.2.2.2.2.1 * s.2.1 * un s (wgt x a b c).2.2.2.2.1 * (wgt x a b c).2.2.2.2.2.1) (by omega) (by omega) (by omega) (by omega) (by omega) (by omega)
    have s2 := sum_ok (a := a * m) (b := b * m) (c := c * m) (c1 := (wgt x a b c).2.2.2.2.2.2.1 * s.2.1 * un s (wgt x a b c).2.2.2.2.1) (c2 := (wgt x a b c).2.2.2.2.2.2.1 * s.2.1 * (wgt x a b c).2.2.2.2.2.1) (c3 := (wgt x a b c).2.2.2.2.2.2.1 * s.2.1 * un s (wgt x a b c).2.2.2.2.1 * (wgt x a b c).2.2.2.2.2.1) (by omega) (by omega) (by omega) (by omega) (by omega) (by omega)
    have f1 : (cho (wgt x a b c) s).2.2 = sumI (costI s (wgt x a b c).2.2.2.2.1 (wgt x a b c).2.2.2.2.2.1 (wgt x a b c).2.2.2.2.2.2.1).1 (a, b, c) := rfl
    have f2 : (cho (wgt x (a * m) (b * m) (c * m)) s).2.2 = sumI (costI s (wgt x a b c).2.2.2.2.1 (wgt x a b c).2.2.2.2.2.1 (wgt x a b c).2.2.2.2.2.2.1).1 (a * m, b * m, c * m) := rfl
    rw [f1, f2, ec, s1.1, s2.1]
    refine ⟨?_, s1.2⟩
    rw [Int.add_mul, Int.add_mul, Int.mul_assoc _ a m, Int.mul_assoc _ b m, Int.mul_assoc _ c m]
  have ep := pick_wgt hA hB (m := m) (fun s hs => (small s hs).1) (allS x.1.toNat)
  have F1 : (wgt x a b c).1.toNat = x.1.toNat := rfl
  have F2 : (wgt x (a * m) (b * m) (c * m)).1.toNat = x.1.toNat := rfl
  refine congrArg some (decide_eq_true ?_)
  have hok := (serves_wgt (t := (0, 0, 0, 0)) (x := x) hA hB).1
  by_cases ho : okW (wgt x a b c)
  · cases hp : pick (wgt x a b c) (allS x.1.toNat) with
    | nil =>
      have i1 : bestI (wgt x a b c) = (((0, 0, 0, 0), (0, 0, 0), 0), 6) := by unfold bestI; rw [if_pos ho, F1, hp]
      have i2 : bestI (wgt x (a * m) (b * m) (c * m)) = (((0, 0, 0, 0), (0, 0, 0), 0), 6) := by unfold bestI; rw [if_pos (hok.1 ho), F2, ep, hp]; rfl
      rw [i1, i2]
      exact ⟨rfl, .inl (by decide)⟩
    | cons k ks =>
      have i1 : bestI (wgt x a b c) = (bst k ks, 0) := by unfold bestI; rw [if_pos ho, F1, hp]
      have i2 : bestI (wgt x (a * m) (b * m) (c * m)) = (((bst k ks).1, (bst k ks).2.1, (bst k ks).2.2 * m), 0) := by unfold bestI; rw [if_pos (hok.1 ho), F2, ep, hp, List.map_cons]; simp only []; rw [bst_map m1.1]
      have hmem := bst_mem ks k
      rw [← hp, mem_pick] at hmem
      obtain ⟨s, _, hs, hq⟩ := hmem
      have sm := small s hs
      rw [i1, i2]
      refine ⟨rfl, .inr ⟨⟨rfl, rfl⟩, ?_⟩⟩
      dsimp only
      have hlo : 0 ≤ (bst k ks).2.2 * m := Int.mul_nonneg (by rw [hq]; exact sm.2.1) (by omega)
      have hhi : (bst k ks).2.2 * m ≤ 31457280000 * 50 := Int.mul_le_mul (by rw [hq]; exact sm.2.2) m1.2 (by omega) (by omega)
      rw [w64_id (by omega) (by omega)]
  · have i1 : bestI (wgt x a b c) = (((0, 0, 0, 0), (0, 0, 0), 0), 42) := by unfold bestI; rw [if_neg ho]
    have i2 : bestI (wgt x (a * m) (b * m) (c * m)) = (((0, 0, 0, 0), (0, 0, 0), 0), 42) := by unfold bestI; rw [if_neg (fun q => ho (hok.2 q))]
    rw [i1, i2]
    exact ⟨rfl, .inl (by decide)⟩
end Go.Proofs.Ytmjidoadjinhgaa
