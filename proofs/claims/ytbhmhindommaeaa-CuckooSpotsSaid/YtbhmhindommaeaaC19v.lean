/- Chapter 19, plain: CuckooSpots. -/
import Derived.Test.YtbhmhindommaeaaC19u
namespace Go.Proofs.Ytbhmhindommaeaa
set_option linter.unusedVariables false

theorem rg_app : ∀ (a b lo : Nat), rg lo (a + b) = rg lo a ++ rg (lo + a) b
  | 0, b, lo => by simp [rg]
  | a + 1, b, lo => by
    rw [show a + 1 + b = (a + b) + 1 from by omega, rg, rg_app a b (lo + 1), rg, List.cons_append, show lo + 1 + a = lo + (a + 1) from by omega]
theorem layB_app (h : Hsh) {m n : Nat} (hm : m ≤ n) (b : Int) : ∃ r, layB h n b = layB h m b ++ r := by
  unfold layB
  have := rg_app m (n - m) 0
  rw [show m + (n - m) = n from by omega] at this
  rw [this, List.filter_append]
  exact ⟨_, rfl⟩

/-- How many buckets are in a list. -/
def cB (B : Int) (l : List Int) : Nat := ((rg 0 B.toNat).filter fun b => decide (b ∈ l)).length
def tot (h : Hsh) (n : Nat) : Nat := ((rg 0 h.1.toNat).map fun b => (layB h n b).length).sum
theorem cB_le (B : Int) (l : List Int) : cB B l ≤ B.toNat := by
  have := List.length_filter_le (fun b => decide (b ∈ l)) (rg 0 B.toNat)
  rw [rg_len] at this
  exact this
theorem filter_more {dn : List Int} {b : Int} (hb : b ∉ dn) : ∀ l : List Int, l.Nodup → b ∈ l → (l.filter fun c => decide (c ∈ dn ++ [b])).length = (l.filter fun c => decide (c ∈ dn)).length + 1
  | y :: l, hn, hm => by
    have hn' := List.nodup_cons.1 hn
    by_cases e : y = b
    · subst e
      have h1 : (l.filter fun c => decide (c ∈ dn ++ [y])) = l.filter fun c => decide (c ∈ dn) := by
        apply List.filter_congr
        intro c hc
        have : c ≠ y := fun h => hn'.1 (h ▸ hc)
        simp [this]
      rw [List.filter_cons_of_pos (by simp), List.filter_cons_of_neg (by simpa using hb), h1]; rfl
    · have hm' : b ∈ l := by
        rcases List.mem_cons.1 hm with h | h
        · exact absurd h.symm e
        · exact h
      have ih := filter_more hb l hn'.2 hm'
      by_cases hy : y ∈ dn
      · rw [List.filter_cons_of_pos (by simp [hy]), List.filter_cons_of_pos (by simp [hy]), List.length_cons, List.length_cons, ih]
      · rw [List.filter_cons_of_neg (by simp [hy, e]), List.filter_cons_of_neg (by simp [hy]), ih]
theorem cB_put {B : Int} {dn : List Int} {b : Int} (h0 : 0 ≤ b) (h1 : b < B) : cB B (dn ++ [b]) = cB B dn + if b ∈ dn then 0 else 1 := by
  unfold cB
  by_cases hb : b ∈ dn
  · rw [if_pos hb, Nat.add_zero]
    congr 1
    apply List.filter_congr
    intro c _
    by_cases e : c = b
    · subst e; simp [hb]
    · simp [e]
  · rw [if_neg hb]
    exact filter_more hb _ (rg_nodup _ _) ((rg_mem _ _ _).2 (by omega))
theorem sum_ite (f : Int → Nat) (P : Int → Bool) : ∀ l : List Int, (l.map fun b => f b + if P b = true then 1 else 0).sum = (l.map f).sum + (l.filter P).length
  | [] => rfl
  | y :: l => by
    simp only [List.map_cons, List.sum_cons]
    rw [sum_ite f P l]
    by_cases h : P y = true
    · rw [if_pos h, List.filter_cons_of_pos h, List.length_cons]; omega
    · rw [if_neg h, List.filter_cons_of_neg h]; omega
theorem tot_succ (h : Hsh) (n : Nat) : tot h (n + 1) = tot h n + cB h.1 (homeL h n) := by
  unfold tot cB
  rw [← sum_ite]
  congr 1
  apply List.map_congr_left
  intro b _
  rw [layB_succ]
  by_cases hb : b ∈ homeL h n
  · simp [hb]
  · simp [hb]
theorem tot_0 (h : Hsh) : tot h 0 = 0 := by
  unfold tot
  have : ∀ l : List Int, (l.map fun b => (layB h 0 b).length).sum = 0 := by
    intro l
    induction l with
    | nil => rfl
    | cons y l ih => rw [List.map_cons, List.sum_cons, ih]; rfl
  exact this _
theorem tot_le (h : Hsh) : ∀ n : Nat, tot h n ≤ h.1.toNat * n
  | 0 => by rw [tot_0]; omega
  | n + 1 => by
    rw [tot_succ, Nat.mul_succ]
    have := tot_le h n
    have := cB_le h.1 (homeL h n)
    omega

theorem spots_L8 (kx : Bool → Int → Int → Option Bool) (b z w : Int) : ∀ (xs : List Int) (v : Bool), law19_CuckooSpots_L8 kx b z w xs v = kx (v && decide (b ∉ xs)) z w
  | [], v => by rw [law19_CuckooSpots_L8]; simp
  | x :: xs, v => by
    rw [law19_CuckooSpots_L8]
    unfold law19_CuckooSpots_B8
    rw [spots_L8 kx b z w xs]
    congr 1
    by_cases e : x = b
    · subst e; simp
    · have e' : ¬ b = x := fun h => e h.symm
      cases v <;> simp [e, e']
theorem spots_L6 (kx : Bool → Int → Int → Option Bool) (i z w : Int) : ∀ (xs : List Int) (v : Bool), law19_CuckooSpots_L6 kx i z w xs v = kx (v || decide (i ∈ xs)) z w
  | [], v => by rw [law19_CuckooSpots_L6]; simp
  | x :: xs, v => by
    rw [law19_CuckooSpots_L6]
    unfold law19_CuckooSpots_B6
    rw [spots_L6 kx i z w xs]
    congr 1
    by_cases e : x = i
    · subst e; simp
    · have e' : ¬ i = x := fun h => e h.symm
      cases v <;> simp [e, e']

theorem spots_L9 {h : Hsh} (hk : HshOK h) {n : Nat} (hn : n < 30) (rec : Int → Int → Int → Int → Option Bool) (w0 : Nat) (hw : w0 ≤ 10000) (at0 : Int) : ∀ (xs dn : List Int), dn ++ xs = homeL h n →
    law19_CuckooSpots_L9 rec (n : Int) (lay h 30) (homeL h n) xs dn.length ((w0 + cB h.1 dn : Nat) : Int) h.1 at0 = rec ((w0 + cB h.1 (homeL h n) : Nat) : Int) ((n + 1 : Nat) : Int) h.1 at0
  | [], dn, hd => by
    rw [List.append_nil] at hd
    rw [law19_CuckooSpots_L9, w64_id (by omega) (by omega), hd]; rfl
  | b :: xs, dn, hd => by
    have hbm : b ∈ homeL h n := by rw [← hd]; simp
    obtain ⟨b0, bB⟩ := homeL_range hk n b hbm
    have hc := cB_le h.1 dn
    have hk2 := hk.2.1
    rw [law19_CuckooSpots_L9]
    unfold law19_CuckooSpots_B9
    rw [← hd, lsub_ok (by omega) (by omega) (by simp; omega), Option.bind_some]
    have hd1 : ((dn ++ b :: xs).drop (0 : Int).toNat).take ((dn.length : Int) - 0).toNat = dn := by simp
    rw [hd1, spots_L8]
    unfold law19_CuckooSpots_J7
    rw [at_idx [] b0 (by rw [lay_len]; omega), Option.bind_some, lay_at b0 bB, spots_L6]
    unfold law19_CuckooSpots_J5
    have hin : (n : Int) ∈ layB h 30 b := layB_mem.2 ⟨by omega, hbm⟩
    rw [decide_eq_true hin, Bool.false_or, if_neg (by simp)]
    have ih := spots_L9 hk hn rec w0 hw at0 xs (dn ++ [b]) (by simpa using hd)
    rw [cB_put b0 bB, List.length_append, List.length_singleton, ← hd] at ih
    by_cases hb : b ∈ dn
    · rw [if_pos hb] at ih
      rw [decide_eq_false (by simpa using hb), Bool.and_false, if_neg (by simp)]
      exact ih
    · rw [if_neg hb] at ih
      rw [decide_eq_true hb, Bool.and_true, if_pos rfl, w64_id (by omega) (by omega)]
      exact ih

theorem spots_L10 {h : Hsh} (hk : HshOK h) (kx : Int → Int → Int → Option Bool) (at0 : Int) : ∀ (r n fuel : Nat), n + r = 30 → r < fuel →
    law19_CuckooSpots_L10 kx (lay h 30) h.2 fuel ((tot h n : Nat) : Int) (n : Int) h.1 at0 = kx ((tot h 30 : Nat) : Int) h.1 at0
  | 0, n, fuel, hn, hf => by
    obtain ⟨fuel, rfl⟩ : ∃ k, fuel = k + 1 := ⟨fuel - 1, by omega⟩
    rw [law19_CuckooSpots_L10]
    unfold law19_CuckooSpots_B10
    rw [if_neg (by omega), show n = 30 from by omega]
  | r + 1, n, fuel, hn, hf => by
    obtain ⟨fuel, rfl⟩ : ∃ k, fuel = k + 1 := ⟨fuel - 1, by omega⟩
    have hk2 := hk.2.1
    have htl := tot_le h n
    have hml : h.1.toNat * n ≤ 64 * 30 := Nat.mul_le_mul (by omega) (by omega)
    rw [law19_CuckooSpots_L10]
    unfold law19_CuckooSpots_B10
    rw [if_pos (by omega), homes_ok' (h := (h.1, h.2)) hk (by unfold ItemOK; omega), Option.bind_some, if_neg (by unfold homeL; simp)]
    have := spots_L9 hk (n := n) (by omega) (law19_CuckooSpots_L10 kx (lay h 30) h.2 fuel) (tot h n) (by omega) at0 (homeL h n) [] (by simp)
    have hc0 : cB h.1 [] = 0 := by unfold cB; simp
    rw [hc0, List.length_nil, Nat.add_zero, ← tot_succ] at this
    show law19_CuckooSpots_L9 _ _ _ (homeL h n) (homeL h n) 0 _ _ _ = _
    rw [this]
    exact spots_L10 hk kx at0 r (n + 1) fuel (by omega) (by omega)

theorem spots_L3 (kx : Int → Int → Int → Option Bool) (z w : Int) : ∀ (xs : List (List Int)) (v : Nat), v + (xs.map List.length).sum ≤ 1000000 → law19_CuckooSpots_L3 kx z w xs (v : Int) = kx ((v + (xs.map List.length).sum : Nat) : Int) z w
  | [], v, _ => by rw [law19_CuckooSpots_L3]; simp
  | x :: xs, v, hv => by
    simp only [List.map_cons, List.sum_cons] at hv ⊢
    rw [law19_CuckooSpots_L3]
    unfold law19_CuckooSpots_B3
    rw [w64_id (by omega) (by omega), show (v : Int) + (x.length : Int) = ((v + x.length : Nat) : Int) from by omega, spots_L3 kx z w xs (v + x.length) (by omega)]
    rw [Nat.add_assoc]

theorem spots_chk {h : Hsh} (hk : HshOK h) {l : List Int} (hl : l.length ≤ 1000) {m : Nat} (hm30 : m ≤ 30) (hm : ∀ x ∈ l, 0 ≤ x ∧ x < m) {bk : List Int} (hA : Asg h.1 (l.map (homeL h)) bk) (T : Int) : ∀ (xs : List Int) (b : Nat), bk.drop b = xs →
    law19_CuckooSpots_L1 T T (lay h 30) l (spL (spot (lay h m) bk) l 0) xs b = some true
  | [], b, _ => by rw [law19_CuckooSpots_L1]; simp
  | x :: xs, b, hd => by
    have hb : b < bk.length := by
      rcases Nat.lt_or_ge b bk.length with h | h
      · exact h
      · rw [List.drop_eq_nil_of_le h] at hd; cases hd
    have hx : at' (-1) bk (b : Int) = x := by
      unfold at'
      rw [Int.toNat_natCast, List.getD_eq_getElem?_getD, List.getElem?_eq_getElem hb]
      rw [List.drop_eq_getElem_cons hb] at hd
      exact (List.cons.inj hd).1
    have hB := hA.ok.1
    have hv2 := hA.ok.2 _ (at_mem (-1) (l := bk) (b := (b : Int)) (by omega) (by omega))
    rw [hx] at hv2
    simp only [List.length_map] at hv2
    have ih := spots_chk hk hl hm30 hm hA T xs (b + 1) (drop_succ hd)
    rw [law19_CuckooSpots_L1]
    unfold law19_CuckooSpots_B1
    by_cases h0 : 0 ≤ x
    · have hit := hm _ (at_mem 0 (l := l) (b := x) h0 hv2.2)
      have hedge := hA.edge (b := (b : Int)) (by omega) (by omega) (by rw [hx]; exact h0)
      rw [hx, at_map 0 [] _ h0 hv2.2] at hedge
      have hmem : at' 0 l x ∈ layB h m b := layB_mem.2 ⟨hit, hedge⟩
      obtain ⟨r, hr⟩ := layB_app h hm30 (b : Int)
      have hs : spot (lay h m) bk x (at' 0 l x) = ixL (at' 0 l x) (layB h 30 b) 0 := by
        unfold spot
        rw [ix_count (hA.le x h0) (by omega) (by omega) hx, Int.zero_add, lay_at (by omega) (by omega), hr, ix_app hmem]
      obtain ⟨i0, i1, i2⟩ := ix_at (x := at' 0 l x) (l := layB h 30 b) (by rw [hr]; exact List.mem_append_left _ hmem)
      have hsp : lidx (spL (spot (lay h m) bk) l 0) x = some (ixL (at' 0 l x) (layB h 30 b) 0) := by
        rw [at_idx 0 h0 (by rw [spL_len]; exact hv2.2), spL_at _ _ _ _ h0 hv2.2, ← hs]
        congr 2; omega
      rw [if_pos h0, hsp, Option.bind_some, if_neg (by omega), at_idx [] (by omega) (by rw [lay_len]; omega), lay_at (by omega) (by omega)]
      simp only [Option.bind_some]
      rw [decide_eq_false (by omega), if_neg (by simp), at_idx 0 i0 i1, i2]
      simp only [Option.bind_some]
      rw [at_idx 0 h0 hv2.2]
      simp only [Option.bind_some, ne_eq, not_true_eq_false, decide_false, Bool.false_eq_true, if_false]
      exact ih
    · rw [if_neg h0, Option.bind_some, if_neg (by simp)]
      exact ih

theorem law_spots (t : List Int) : law19_CuckooSpots t = some true := by
  unfold law19_CuckooSpots make_Few make_New
  rw [sane19, Option.bind_some, if_neg (by simp), Option.bind_some]
  by_cases hf : (t.length : Int) ≤ 500
  · rw [if_neg (by simp [hf]), Option.bind_some]
    obtain ⟨h, e1, k1, hk, h8, d1⟩ := hashing_ok (l := t) (by omega) (d := (t, 0)) ⟨rfl, by omega, by omega⟩
    have hb1 := hk.1
    rw [k1, Option.bind_some]
    dsimp only
    rw [show (30 : Int) = ((30 : Nat) : Int) from rfl, (layout_yes hk (by omega)).1, Option.bind_some, if_neg (by rw [lay_len]; simp; omega)]
    have h10 := spots_L10 hk (law19_CuckooSpots_J4 (lay h 30) h.2 e1.1) e1.2 30 0 big (by omega) (by simp only [big]; omega)
    rw [tot_0, show ((0 : Nat) : Int) = 0 from rfl] at h10
    rw [h10]
    unfold law19_CuckooSpots_J4
    have htl := tot_le h 30
    have hsum : ((lay h 30).map List.length).sum = tot h 30 := by
      unfold lay tot
      rw [List.map_map]; rfl
    have h3 := spots_L3 (law19_CuckooSpots_J2 ((tot h 30 : Nat) : Int) (lay h 30) h.2 e1.1) h.1 e1.2 (lay h 30) 0 (by rw [hsum]; omega)
    rw [hsum, Nat.zero_add, show ((0 : Nat) : Int) = 0 from rfl] at h3
    rw [h3]
    unfold law19_CuckooSpots_J2
    obtain ⟨l, e2, k2, d2, hlen, hr⟩ := items_ok (l := t) (by omega) (d := (e1.1, e1.2)) d1 (B := h.1) ⟨hk.1, by omega⟩
    rw [k2, Option.bind_some]
    have hit : ∀ n ∈ l, ItemOK n := fun n hn => by have := hr n hn; unfold ItemOK; omega
    dsimp only
    rw [show (h.1, h.2) = h from rfl]
    rcases assign_ok h l (by omega) with ⟨a, _⟩ | ⟨_, ⟨n, hn, a⟩, _⟩ | ⟨_, _, a, _⟩ | ⟨_, _, _, a1, a2, _⟩ | ⟨_, _, _, a1, bk, fx, a2, _, a3, a4⟩
    · exact absurd hk a
    · exact absurd (hit n hn) a
    · omega
    · rw [a2, Option.bind_some, if_pos (by simp)]; simp
    · have hA := asg_of (homesOK hk l) a3 a4
      have hfy := fits_yes hk hit (by omega) hA
      obtain ⟨r, f1, f2, _⟩ := fits_both h l bk (by omega)
      have hrt : r = true := by rw [hfy] at f1; exact (Option.some.inj f1).symm
      subst hrt
      obtain ⟨m, m1, m2, m3, s1, _⟩ := spots_yes hk (by omega) (fun x hx => by have := hr x hx; omega) f1 f2 hA
      have hm30 : (m : Int) ≤ 30 := m3 30 (by omega) fun x hx => (hr x hx).2
      rw [a2, Option.bind_some, if_neg (by simp), s1, Option.bind_some, if_neg (by rw [spL_len]; simp)]
      exact spots_chk hk (by omega) (by omega) (fun x hx => ⟨(hr x hx).1, m2 x hx⟩) hA _ bk 0 rfl
  · rw [if_pos (by simp [hf])]
end Go.Proofs.Ytbhmhindommaeaa
