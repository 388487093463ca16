/- Chapter 19, plain: spots; CuckooDoes. -/
import Derived.Test.YtbhmhindommaeaaC19t
namespace Go.Proofs.Ytbhmhindommaeaa
set_option linter.unusedVariables false

def spL (f : Int → Int → Int) : List Int → Nat → List Int
  | [], _ => []
  | x :: xs, i => f i x :: spL f xs (i + 1)
theorem spL_len (f : Int → Int → Int) : ∀ (l : List Int) (i : Nat), (spL f l i).length = l.length
  | [], _ => rfl
  | x :: xs, i => by simp [spL, spL_len f xs]
theorem spL_at (f : Int → Int → Int) : ∀ (l : List Int) (i : Nat) (j : Int), 0 ≤ j → j < l.length → at' 0 (spL f l i) j = f (i + j) (at' 0 l j)
  | [], i, j, h0, h1 => by simp at h1; omega
  | x :: xs, i, j, h0, h1 => by
    simp only [List.length_cons] at h1
    by_cases e : j = 0
    · subst e; simp [at', spL]
    · have := spL_at f xs (i + 1) (j - 1) (by omega) (by omega)
      unfold at' at this ⊢
      rw [show j.toNat = (j - 1).toNat + 1 from by omega, spL, List.getD_cons_succ, List.getD_cons_succ, this]
      congr 1; omega

/-- Where an item stands. -/
def spot (ls : List (List Int)) (bk : List Int) (i x : Int) : Int := ixL x (at' [] ls (ixL i bk 0)) 0

theorem max_yes (kx : Int → Int → Option (List Int × Int)) (z : Int) : ∀ (l : List Int) (v : Int), (∀ x ∈ l, 0 ≤ x ∧ x < 1024) → cuckoo_Spots_L3 kx z l v = kx (l.foldl max v) z ∧ ref19_Spots_L4 kx z l v = kx (l.foldl max v) z
  | [], v, _ => ⟨rfl, rfl⟩
  | x :: l, v, h => by
    have hx := h x List.mem_cons_self
    rw [cuckoo_Spots_L3, ref19_Spots_L4]
    unfold cuckoo_Spots_B3 ref19_Spots_B4
    rw [if_neg (by omega), if_neg (by omega)]
    exact max_yes kx z l (max v x) fun y hy => h y (List.mem_cons_of_mem _ hy)
theorem max_no (kx kx2 : Int → Int → Option (List Int × Int)) (z : Int) : ∀ (l : List Int) (v : Int), (∃ x ∈ l, ¬ (0 ≤ x ∧ x < 1024)) → cuckoo_Spots_L3 kx z l v = some ([], 1) ∧ ref19_Spots_L4 kx2 z l v = some ([], 1)
  | [], v, h => by obtain ⟨x, hx, _⟩ := h; cases hx
  | x :: l, v, h => by
    rw [cuckoo_Spots_L3, ref19_Spots_L4]
    unfold cuckoo_Spots_B3 ref19_Spots_B4
    by_cases hx : x < 0 ∨ 1024 ≤ x
    · rw [if_pos hx, if_pos hx]; exact ⟨rfl, rfl⟩
    · rw [if_neg hx, if_neg hx]
      refine max_no kx kx2 z l (max v x) ?_
      obtain ⟨y, hy, hn⟩ := h
      rcases List.mem_cons.1 hy with rfl | hy
      · omega
      · exact ⟨y, hy, hn⟩
theorem max_bd : ∀ (l : List Int) (v : Int), (∀ x ∈ l, 0 ≤ x ∧ x < 1024) → v < 1024 → v ≤ l.foldl max v ∧ l.foldl max v < 1024 ∧ ∀ x ∈ l, x ≤ l.foldl max v
  | [], v, _, hv => ⟨Int.le_refl _, hv, by simp⟩
  | x :: l, v, h, hv => by
    have hx := h x List.mem_cons_self
    obtain ⟨h1, h2, h3⟩ := max_bd l (max v x) (fun y hy => h y (List.mem_cons_of_mem _ hy)) (by omega)
    refine ⟨by simp only [List.foldl_cons]; omega, h2, fun y hy => ?_⟩
    simp only [List.foldl_cons]
    rcases List.mem_cons.1 hy with rfl | hy
    · omega
    · exact h3 y hy

theorem Asg.ix {B : Int} {homes : List (List Int)} {bk : Bk} (h : Asg B homes bk) {j : Int} (h0 : 0 ≤ j) (h1 : j < homes.length) : ∃ b, 0 ≤ b ∧ b < B ∧ b ∈ at' [] homes j ∧ at' (-1) bk b = j ∧ ixL j bk 0 = b := by
  obtain ⟨b, b0, bB, hm, e⟩ := h.has j h0 h1
  have := h.ok.1
  exact ⟨b, b0, bB, hm, e, by rw [ix_count (h.le j h0) b0 (by omega) e]; omega⟩

theorem spots_L1 {ls : List (List Int)} {bk l : List Int} (hl : l.length ≤ 1000) (hix : ∀ j : Int, 0 ≤ j → j < l.length → 0 ≤ ixL j bk 0 ∧ ixL j bk 0 < ls.length) : ∀ (xs : List Int) (i : Nat) (acc : List Int), i + xs.length = l.length → acc.length = i →
    cuckoo_Spots_L1 ls bk xs i acc = some (acc ++ spL (spot ls bk) xs i, 0)
  | [], i, acc, _, _ => by rw [cuckoo_Spots_L1]; simp [spL]
  | x :: xs, i, acc, hi, ha => by
    simp only [List.length_cons] at hi
    obtain ⟨h1, h2⟩ := hix i (by omega) (by omega)
    rw [cuckoo_Spots_L1]
    unfold cuckoo_Spots_B1
    rw [index_ok, Option.bind_some, at_idx [] h1 h2, Option.bind_some, index_ok, Option.bind_some, lapp_ok (by simp; omega), Option.bind_some]
    rw [spots_L1 hl hix xs (i + 1) _ (by omega) (by simp; omega)]
    simp [spL, spot]

theorem rspots_L1 (rec : List Int → Int → Option (List Int × Int)) {l : List Int} (hl : l.length ≤ 1000) (i B : Int) (hi : i < l.length) : ∀ (xs : List Int) (k : Nat) (v : List Int), xs.Nodup → v.length = l.length →
    ref19_Spots_L1 rec l i B xs k v = rec (if i < 0 then v else if at' 0 l i ∈ xs then v.set i.toNat (ixL (at' 0 l i) xs k) else v) B
  | [], k, v, _, _ => by rw [ref19_Spots_L1]; simp
  | x :: xs, k, v, hn, hv => by
    rw [ref19_Spots_L1]
    unfold ref19_Spots_B1
    by_cases h0 : 0 ≤ i
    · rw [if_pos h0, at_idx 0 h0 hi, Option.bind_some, Option.bind_some]
      by_cases e : x = at' 0 l i
      · rw [decide_eq_true e, if_pos rfl, at_idx 0 h0 (by omega), Option.bind_some, lupd_ok h0 (by omega), Option.bind_some]
        rw [rspots_L1 rec hl i B hi xs (k + 1) _ (List.nodup_cons.1 hn).2 (by simpa using hv)]
        rw [if_neg (by omega), if_neg (by rw [← e]; exact (List.nodup_cons.1 hn).1), if_neg (by omega), if_pos (by rw [e]; exact List.mem_cons_self), ixL, if_pos e.symm]
      · rw [decide_eq_false e, if_neg (by simp)]
        rw [rspots_L1 rec hl i B hi xs (k + 1) _ (List.nodup_cons.1 hn).2 hv]
        have e' : ¬ at' 0 l i = x := fun h => e h.symm
        rw [ixL, if_neg e', show ((k + 1 : Nat) : Int) = (k : Int) + 1 from by omega]
        simp only [List.mem_cons, e', false_or]
    · rw [if_neg h0, Option.bind_some, if_neg (by simp)]
      rw [rspots_L1 rec hl i B hi xs (k + 1) _ (List.nodup_cons.1 hn).2 hv, if_pos (by omega), if_pos (by omega)]

theorem rspots_L2 {h : Hsh} {l : List Int} (hl : l.length ≤ 1000) {m : Nat} (hm : ∀ x ∈ l, 0 ≤ x ∧ x < m) {bk : Bk} (hA : Asg h.1 (l.map (homeL h)) bk) : ∀ (xs : List Int) (b : Nat) (v : List Int) (z : Int), bk.drop b = xs → v.length = l.length → (∀ c : Int, 0 ≤ c → c < b → c < h.1 → 0 ≤ at' (-1) bk c → at' 0 v (at' (-1) bk c) = spot (lay h m) bk (at' (-1) bk c) (at' 0 l (at' (-1) bk c))) →
    ref19_Spots_L2 l (lay h m) xs b v z = some (spL (spot (lay h m) bk) l 0, 0)
  | [], b, v, z, hd, hv, inv => by
    have hb : bk.length ≤ b := List.drop_eq_nil_iff.1 hd
    have hB := hA.ok.1
    rw [ref19_Spots_L2]
    congr 2
    refine ext_at 0 (by rw [hv, spL_len]) fun j h0 h1 => ?_
    obtain ⟨c, c0, cB, _, e, _⟩ := hA.ix h0 (by simp; omega)
    have := inv c c0 (by omega) cB (by omega)
    rw [e] at this
    rw [this, spL_at _ _ _ _ h0 (by omega)]
    congr 1; omega
  | x :: xs, b, v, z, hd, hv, inv => by
    have hb : b < bk.length := by
      rcases Nat.lt_or_ge b bk.length with h | h
      · exact h
      · rw [List.drop_eq_nil_of_le h] at hd; cases hd
    have hd' : bk.drop (b + 1) = xs := by rw [← List.drop_drop, hd]; rfl
    have hx : at' (-1) bk (b : Int) = x := by
      unfold at'
      rw [Int.toNat_natCast, List.getD_eq_getElem?_getD, List.getElem?_eq_getElem hb]
      rw [List.drop_eq_getElem_cons hb] at hd
      exact (List.cons.inj hd).1
    have hB := hA.ok.1
    have hv2 := hA.ok.2 _ (at_mem (-1) (l := bk) (b := (b : Int)) (by omega) (by omega))
    rw [hx] at hv2
    simp only [List.length_map] at hv2
    rw [ref19_Spots_L2]
    unfold ref19_Spots_B2
    rw [at_idx [] (by omega) (by rw [lay_len]; omega), Option.bind_some, lay_at (by omega) (by omega)]
    rw [rspots_L1 _ hl x z hv2.2 (layB h m b) 0 v (layB_nodup h m b) hv]
    by_cases h0 : x < 0
    · rw [if_pos h0]
      refine rspots_L2 hl hm hA xs (b + 1) v z hd' hv fun c c0 cb cB hc => inv c c0 ?_ cB hc
      by_cases e : c = b
      · rw [e, hx] at hc; omega
      · omega
    · have hit := hm _ (at_mem 0 (l := l) (b := x) (by omega) hv2.2)
      have hedge := hA.edge (b := (b : Int)) (by omega) (by omega) (by rw [hx]; omega)
      rw [hx, at_map 0 [] _ (by omega) hv2.2] at hedge
      have hmem : at' 0 l x ∈ layB h m b := layB_mem.2 ⟨hit, hedge⟩
      rw [if_neg h0, if_pos hmem]
      refine rspots_L2 hl hm hA xs (b + 1) _ z hd' (by simpa using hv) fun c c0 cb cB hc => ?_
      have hlt := hA.ok.2 _ (at_mem (-1) (l := bk) c0 (by omega))
      rw [at_set 0 (by omega) (by omega) hc]
      by_cases e : c = b
      · subst e
        rw [hx, if_pos rfl]
        unfold spot
        rw [ix_count (hA.le x (by omega)) (by omega) (by omega) hx, Int.zero_add, lay_at (by omega) (by omega)]
        rfl
      · have hne : at' (-1) bk c ≠ x := fun h1 => by
          have h2 := at_count (l := bk) ⟨c0, by omega⟩ ⟨by omega, by omega⟩ h1 hx e
          have := hA.le x (by omega)
          omega
        rw [if_neg hne]
        exact inv c c0 (by omega) cB hc

theorem spots_yes {h : Hsh} (hk : HshOK h) {l : List Int} (hl : l.length ≤ 1000) (hr : ∀ x ∈ l, 0 ≤ x ∧ x < 1024) {bk : List Int} (hf : cuckoo_Fits h l bk = some true) (hf2 : ref19_Fits h l bk = some true) (hA : Asg h.1 (l.map (homeL h)) bk) :
    ∃ m : Nat, m ≤ 1024 ∧ (∀ x ∈ l, x < m) ∧ (∀ k : Int, 0 ≤ k → (∀ x ∈ l, x < k) → m ≤ k) ∧ cuckoo_Spots h l bk = some (spL (spot (lay h m) bk) l 0, 0) ∧ ref19_Spots h l bk = some (spL (spot (lay h m) bk) l 0, 0) := by
  have e0 : cuckoo_Check h = some 0 := by
    rcases check_ok h with ⟨e, _⟩ | ⟨_, hq⟩
    · exact e
    · exact absurd hk hq
  obtain ⟨b1, b2, b3⟩ := max_bd l (-1) hr (by omega)
  have hleast : ∀ k : Int, 0 ≤ k → (∀ x ∈ l, x < k) → l.foldl max (-1) < k := by
    have : ∀ (l : List Int) (v k : Int), v < k → (∀ x ∈ l, x < k) → l.foldl max v < k := by
      intro l
      induction l with
      | nil => intro v k h _; exact h
      | cons x l ih =>
        intro v k h1 h2
        have := h2 x List.mem_cons_self
        exact ih (max v x) k (by omega) fun y hy => h2 y (List.mem_cons_of_mem _ hy)
    intro k h0 h1
    exact this l (-1) k (by omega) h1
  have hB := hA.ok.1
  have hb2 := hk.2.1
  generalize hmx : l.foldl max (-1) = mx at b1 b2 b3 hleast
  have hm : mx + 1 = (((mx + 1).toNat : Nat) : Int) := by omega
  refine ⟨(mx + 1).toNat, by omega, fun x hx => by have := b3 x hx; omega, fun k h0 h1 => by have := hleast k h0 h1; omega, ?_, ?_⟩
  · unfold cuckoo_Spots
    rw [e0, Option.bind_some, if_neg (by simp), (max_yes _ h.1 l (-1) hr).1, hmx]
    unfold cuckoo_Spots_J2
    rw [show (h.1, h.2) = h from rfl, hf, Option.bind_some, if_neg (by simp), w64_id (by omega) (by omega), hm, (layout_yes hk (by omega)).1, Option.bind_some]
    rw [spots_L1 hl (fun j h0 h1 => by
      obtain ⟨b, b0, bB, _, _, e⟩ := hA.ix h0 (by simpa using h1)
      rw [e, lay_len]; omega) l 0 [] (by omega) rfl]
    rfl
  · have hml : lmk (l.length : Int) (0 : Int) = some (List.replicate l.length 0) := by unfold lmk; rw [if_pos (by omega), Int.toNat_natCast]
    unfold ref19_Spots
    rw [rcheck, e0, Option.bind_some, if_neg (by simp), (max_yes _ h.1 l (-1) hr).2, hmx]
    unfold ref19_Spots_J3
    rw [show (h.1, h.2) = h from rfl, hf2, Option.bind_some, if_neg (by simp), w64_id (by omega) (by omega), hm, (layout_yes hk (by omega)).2, Option.bind_some, hml, Option.bind_some]
    exact rspots_L2 hl (fun x hx => ⟨(hr x hx).1, by have := b3 x hx; omega⟩) hA bk 0 _ h.1 rfl (by simp) (fun c c0 cb => by omega)

theorem spots_same (h : Hsh) (l bk : List Int) (hl : l.length ≤ 1000) : ∃ r, cuckoo_Spots h l bk = some r ∧ ref19_Spots h l bk = some r := by
  rcases check_ok h with ⟨e0, hk⟩ | ⟨e0, _⟩
  · by_cases hr : ∀ x ∈ l, 0 ≤ x ∧ x < 1024
    · obtain ⟨r, hf, hf2, h3⟩ := fits_both h l bk (by omega)
      cases r with
      | true =>
        obtain ⟨_, _, hA⟩ := h3 rfl
        obtain ⟨m, _, _, _, e1, e2⟩ := spots_yes hk hl hr hf hf2 hA
        exact ⟨_, e1, e2⟩
      | false =>
        refine ⟨([], 2), ?_, ?_⟩
        · unfold cuckoo_Spots
          rw [e0, Option.bind_some, if_neg (by simp), (max_yes _ h.1 l (-1) hr).1]
          unfold cuckoo_Spots_J2
          rw [show (h.1, h.2) = h from rfl, hf, Option.bind_some, if_pos (by simp)]
        · unfold ref19_Spots
          rw [rcheck, e0, Option.bind_some, if_neg (by simp), (max_yes _ h.1 l (-1) hr).2]
          unfold ref19_Spots_J3
          rw [show (h.1, h.2) = h from rfl, hf2, Option.bind_some, if_pos (by simp)]
    · have hr' : ∃ x ∈ l, ¬ (0 ≤ x ∧ x < 1024) := by
        classical
        by_cases h1 : ∃ x ∈ l, ¬ (0 ≤ x ∧ x < 1024)
        · exact h1
        · exact absurd (fun x hx => Classical.byContradiction fun h2 => h1 ⟨x, hx, h2⟩) hr
      refine ⟨([], 1), ?_, ?_⟩
      · unfold cuckoo_Spots
        rw [e0, Option.bind_some, if_neg (by simp)]
        exact (max_no _ (cuckoo_Spots_J2 l h.2 bk) h.1 l (-1) hr').1
      · unfold ref19_Spots
        rw [rcheck, e0, Option.bind_some, if_neg (by simp)]
        exact (max_no (ref19_Spots_J3 l h.2 bk) _ h.1 l (-1) hr').2
  · refine ⟨([], 2), ?_, ?_⟩
    · unfold cuckoo_Spots; rw [e0, Option.bind_some, if_pos (by simp)]
    · unfold ref19_Spots; rw [rcheck, e0, Option.bind_some, if_pos (by simp)]

theorem homes_same (h : Hsh) (n : Int) : ∃ r, cuckoo_Homes h n = some r ∧ ref19_Homes h n = some r := by
  rcases check_ok h with ⟨e0, hk⟩ | ⟨e0, _⟩
  · by_cases hn : ItemOK n
    · exact ⟨_, homes_ok' hk hn, rhomes_ok hk hn⟩
    · refine ⟨_, ?_, rhomes_bad hk hn⟩
      have hi : cuckoo_item n = some false := by
        unfold cuckoo_item
        congr 1
        simp only [decide_eq_false_iff_not]
        exact hn
      unfold cuckoo_Homes
      rw [e0, Option.bind_some, if_neg (by simp), hi, Option.bind_some, if_pos (by simp)]
  · refine ⟨([], 2), ?_, ?_⟩
    · unfold cuckoo_Homes; rw [e0, Option.bind_some, if_pos (by simp)]
    · unfold ref19_Homes; rw [rcheck, e0, Option.bind_some, if_pos (by simp)]

theorem lidx_drop {α : Type} {l xs : List α} {x : α} {i : Nat} (h : l.drop i = x :: xs) : lidx l (i : Int) = some x := drop_idx h
theorem same04_L (l : List Int) : ∀ (xs : List Int) (i : Nat), l.drop i = xs → ref04_Same_L1 l xs i = some true
  | [], _, _ => rfl
  | x :: xs, i, h => by
    rw [ref04_Same_L1]
    unfold ref04_Same_B1
    rw [drop_idx h, Option.bind_some, if_neg (by simp)]
    exact same04_L l xs (i + 1) (drop_succ h)
theorem same04 (l : List Int) : ref04_Same l l = some true := by
  unfold ref04_Same
  rw [if_neg (by simp)]
  exact same04_L l l 0 rfl
theorem same19_L (l : List Int) : ∀ (xs : List Int) (i : Nat), l.drop i = xs → ref19_Same_L1 l xs i = some true
  | [], _, _ => rfl
  | x :: xs, i, h => by
    rw [ref19_Same_L1]
    unfold ref19_Same_B1
    rw [drop_idx h, Option.bind_some, if_neg (by simp)]
    exact same19_L l xs (i + 1) (drop_succ h)
theorem same19 (l : List Int) : ref19_Same l l = some true := by
  unfold ref19_Same
  rw [if_neg (by simp)]
  exact same19_L l l 0 rfl
theorem sameRows_L (l : List (List Int)) : ∀ (xs : List (List Int)) (i : Nat), l.drop i = xs → ref04_SameRows_L1 l xs i = some true
  | [], _, _ => rfl
  | x :: xs, i, h => by
    rw [ref04_SameRows_L1]
    unfold ref04_SameRows_B1
    rw [drop_idx h, Option.bind_some, same04, Option.bind_some, if_neg (by simp)]
    exact sameRows_L l xs (i + 1) (drop_succ h)
theorem sameRows (l : List (List Int)) : ref04_SameRows l l = some true := by
  unfold ref04_SameRows
  rw [if_neg (by simp)]
  exact sameRows_L l l 0 rfl

theorem does_L1 (rec : Int → List Int → Int → Int → Int → Option Bool) {m : List Int} (hm : m.length ≤ 1000) (v : List Int) (w : Int) (h : Hsh) (z1 z2 : Int) (ok : rec h.1 v w z1 z2 = some true) : ∀ xs : List (List Int), law19_CuckooDoes_L1 rec m v w h.1 h.2 z1 z2 xs = some true
  | [] => ok
  | x :: xs => by
    rw [law19_CuckooDoes_L1]
    unfold law19_CuckooDoes_B1
    obtain ⟨r, e1, e2, _⟩ := fits_both h m x (by omega)
    obtain ⟨q, e3, e4⟩ := spots_same h m x hm
    rw [show (h.1, h.2) = h from rfl, e1, Option.bind_some, e2, Option.bind_some, if_neg (by simp), e3, Option.bind_some, e4, Option.bind_some, if_neg (by simp), same04, Option.bind_some, Option.bind_some, if_neg (by simp)]
    exact does_L1 rec hm v w h z1 z2 ok xs

theorem assign_same (h : Hsh) (l : List Int) (hl : l.length ≤ 1000) : ∃ bk e, cuckoo_Assign h l = some (bk, e) ∧ ref19_Assign h l = some (bk, e) ∧ bk.length ≤ 64 := by
  rcases assign_ok h l (by omega) with ⟨_, a, b⟩ | ⟨_, _, a, b⟩ | ⟨_, _, _, a, b⟩ | ⟨_, _, _, _, a, b⟩ | ⟨hk, _, _, _, bk, fx, a, b, c, _⟩
  · exact ⟨_, _, a, b, by simp⟩
  · exact ⟨_, _, a, b, by simp⟩
  · exact ⟨_, _, a, b, by simp⟩
  · exact ⟨_, _, a, b, by simp⟩
  · exact ⟨_, _, a, b, by have := c.ok.1; have := hk.2.1; omega⟩

theorem does_L3 {t : List Int} (ht : t.length ≤ 1000) (rec : List Int → Int → Int → Int → Option Bool) (z1 z2 : Int) (ok : ∀ d : List Int × Int, Dk t d → rec d.1 d.2 z1 z2 = some true) (h : Hsh) (x5 : List Int) : ∀ (xs : List (List Int)) (d : List Int × Int), (∀ m ∈ xs, m.length ≤ 1000) → Dk t d → law19_CuckooDoes_L3 rec h.2 x5 xs h.1 d.1 d.2 z1 z2 = some true
  | [], d, _, hd => ok d hd
  | m :: xs, d, hx, hd => by
    have hm := hx m List.mem_cons_self
    have ih := fun d hd => does_L3 ht rec z1 z2 ok h x5 xs d (fun m hm => hx m (List.mem_cons_of_mem _ hm)) hd
    rw [law19_CuckooDoes_L3]
    unfold law19_CuckooDoes_B3
    obtain ⟨bk, e, e1, e2, hb⟩ := assign_same h m hm
    rw [show (h.1, h.2) = h from rfl, e1, Option.bind_some, e2, Option.bind_some, if_neg (by simp), same19, Option.bind_some, Option.bind_some, if_neg (by simp), lapp_ok (by simp; omega), Option.bind_some, List.nil_append]
    unfold law19_CuckooDoes_J2
    by_cases h0 : 0 < (bk.length : Int)
    · rw [if_pos h0]
      obtain ⟨v, f1, h1, a1, b1, c1⟩ := next_ok ht (d := (d.1, d.2)) hd (n := (bk.length : Int)) (by omega)
      rw [h1, Option.bind_some, w64_id (x := (m.length : Int) + 2) (by omega) (by omega)]
      obtain ⟨w, f2, h2, a2, b2, c2⟩ := next_ok ht c1 (n := (m.length : Int) + 2) (by omega)
      rw [h2, Option.bind_some, at_idx 0 a1 b1, Option.bind_some, lupd_ok a1 b1, Option.bind_some]
      exact does_L1 _ hm f2.1 f2.2 h z1 z2 (ih f2 c2) _
    · rw [if_neg h0]
      exact does_L1 _ hm d.1 d.2 h z1 z2 (ih d hd) _

theorem does_L5 (kx : Int → Int → Int → Int → Option Bool) (h : Hsh) (z1 z2 z3 : Int) (ok : kx h.1 z1 z2 z3 = some true) : ∀ xs : List Int, law19_CuckooDoes_L5 kx h.1 h.2 z1 z2 z3 xs = some true
  | [] => ok
  | x :: xs => by
    rw [law19_CuckooDoes_L5]
    unfold law19_CuckooDoes_B5
    obtain ⟨l, e, e1, e2⟩ := layout_same h x
    rw [show (h.1, h.2) = h from rfl, e1, Option.bind_some, e2, Option.bind_some, if_neg (by simp), sameRows, Option.bind_some, Option.bind_some, if_neg (by simp)]
    exact does_L5 kx h z1 z2 z3 ok xs
theorem does_L7 (kx : Int → Int → Int → Int → Option Bool) (h : Hsh) (z1 z2 z3 : Int) (ok : kx h.1 z1 z2 z3 = some true) : ∀ xs : List Int, law19_CuckooDoes_L7 kx h.1 h.2 z1 z2 z3 xs = some true
  | [] => ok
  | x :: xs => by
    rw [law19_CuckooDoes_L7]
    unfold law19_CuckooDoes_B7
    obtain ⟨r, e1, e2⟩ := homes_same h x
    rw [show (h.1, h.2) = h from rfl, e1, Option.bind_some, e2, Option.bind_some, if_neg (by simp), same04, Option.bind_some, Option.bind_some, if_neg (by simp)]
    exact does_L7 kx h z1 z2 z3 ok xs

theorem does_L8 {t : List Int} (ht : t.length ≤ 1000) {l own : List Int} (hl : l.length ≤ 1000) (ho : own.length ≤ 1000) (count item : Int) (x5 : List Int) : ∀ (gs : List Hsh) (d : List Int × Int) (z1 z2 : Int), Dk t d → law19_CuckooDoes_L8 l count item own x5 gs d.1 d.2 z1 z2 = some true
  | [], _, _, _, _ => rfl
  | g :: gs, d, z1, z2, hd => by
    rw [law19_CuckooDoes_L8]
    unfold law19_CuckooDoes_B8
    have hc : ∃ c, cuckoo_Check g = some c := by
      rcases check_ok g with ⟨e, _⟩ | ⟨e, _⟩ <;> exact ⟨_, e⟩
    obtain ⟨c, hc⟩ := hc
    rw [rcheck, hc, Option.bind_some, Option.bind_some, if_neg (by simp), mod_big (by omega) (by omega), Option.bind_some]
    apply does_L7
    unfold law19_CuckooDoes_J6
    rw [mod_big (by omega) (by omega), Option.bind_some]
    apply does_L5
    unfold law19_CuckooDoes_J4
    refine does_L3 ht _ z1 z2 (fun e he => does_L8 ht hl ho count item x5 gs e z1 z2 he) g x5 _ d (fun m hm => ?_) hd
    rcases List.mem_cons.1 hm with rfl | hm
    · exact hl
    · rw [List.mem_singleton.1 hm]; exact ho

theorem law_does (t : List Int) (raw : Hsh) (l : List Int) (count item : Int) (x : List Int) : law19_CuckooDoes t raw l count item x = some true := by
  unfold law19_CuckooDoes make_Few make_New
  rw [sane19, Option.bind_some, if_neg (by simp), Option.bind_some]
  by_cases hf : (((!decide ((t.length : Int) ≤ 500)) = true ∨ 20 < (raw.2.length : Int)) ∨ 80 < (l.length : Int)) ∨ 200 < (x.length : Int)
  · rw [if_pos hf]
  · rw [if_neg hf]
    have hl : (t.length : Int) ≤ 500 ∧ (l.length : Int) ≤ 80 := by
      by_cases h : (t.length : Int) ≤ 500
      · exact ⟨h, by omega⟩
      · exact absurd (.inl (.inl (.inl (by simp [h])))) hf
    obtain ⟨h, e1, k1, hk, h8, d1⟩ := hashing_ok (l := t) (by omega) (d := (t, 0)) ⟨rfl, by omega, by omega⟩
    rw [Option.bind_some, k1, Option.bind_some]
    obtain ⟨own, e2, k2, d2, hlen, hr⟩ := items_ok (l := t) (by omega) d1 (B := h.1) ⟨hk.1, by omega⟩
    rw [k2, Option.bind_some]
    exact does_L8 (by omega) (by omega) (by dsimp only; omega) count item x _ e2 _ _ d2
end Go.Proofs.Ytbhmhindommaeaa
