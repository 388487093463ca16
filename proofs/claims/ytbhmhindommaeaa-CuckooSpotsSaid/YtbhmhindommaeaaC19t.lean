/- Chapter 19, plain: layouts, what fits, spots: the program's are the reference's. -/
import Derived.Test.YtbhmhindommaeaaC19r
namespace Go.Proofs.Ytbhmhindommaeaa
set_option linter.unusedVariables false

/-- The items that have a bucket among their homes. -/
def layB (h : Hsh) (n : Nat) (b : Int) : List Int := (rg 0 n).filter fun i => decide (b ∈ homeL h i)
def lay (h : Hsh) (n : Nat) : List (List Int) := (rg 0 h.1.toNat).map (layB h n)

theorem at_map {α β : Type} (d : α) (e : β) (f : α → β) {l : List α} {i : Int} (h0 : 0 ≤ i) (h1 : i < l.length) : at' e (l.map f) i = f (at' d l i) := by
  unfold at'
  rw [List.getD_eq_getElem?_getD, List.getD_eq_getElem?_getD, List.getElem?_map, List.getElem?_eq_getElem (by omega : i.toNat < l.length)]; rfl
theorem getD_rg : ∀ (n lo k : Nat), k < n → (rg lo n).getD k 0 = ((lo + k : Nat) : Int)
  | n + 1, lo, 0, _ => by simp [rg]
  | n + 1, lo, k + 1, hk => by rw [rg, List.getD_cons_succ, getD_rg n (lo + 1) k (by omega)]; congr 1; omega
theorem at_rg {n lo : Nat} {i : Int} (h0 : 0 ≤ i) (h1 : i < n) : at' 0 (rg lo n) i = lo + i := by
  unfold at'
  rw [getD_rg n lo i.toNat (by omega)]
  omega
theorem lay_len (h : Hsh) (n : Nat) : (lay h n).length = h.1.toNat := by unfold lay; simp [rg_len]
theorem lay_at {h : Hsh} {n : Nat} {b : Int} (b0 : 0 ≤ b) (bB : b < h.1) : at' [] (lay h n) b = layB h n b := by
  unfold lay
  rw [at_map 0 [] _ b0 (by rw [rg_len]; omega), at_rg b0 (by omega)]
  simp
theorem ext_at {α : Type} (d : α) {l m : List α} (hl : l.length = m.length) (h : ∀ b : Int, 0 ≤ b → b < l.length → at' d l b = at' d m b) : l = m := by
  apply List.ext_getElem hl
  intro n h1 h2
  have := h n (by omega) (by omega)
  unfold at' at this
  rw [Int.toNat_natCast, List.getD_eq_getElem?_getD, List.getD_eq_getElem?_getD, List.getElem?_eq_getElem h1, List.getElem?_eq_getElem h2] at this
  exact this
theorem layB_succ (h : Hsh) (n : Nat) (b : Int) : layB h (n + 1) b = layB h n b ++ if b ∈ homeL h n then [(n : Int)] else [] := by
  unfold layB
  have := rg_snoc n 0
  rw [Nat.zero_add] at this
  rw [this, List.filter_append]
  by_cases hb : b ∈ homeL h n <;> simp [hb]
theorem layB_lt {h : Hsh} {n : Nat} {b x : Int} (hx : x ∈ layB h n b) : 0 ≤ x ∧ x < n := by
  have := (rg_mem n 0 x).1 (List.mem_filter.1 hx).1
  omega
theorem layB_mem {h : Hsh} {n : Nat} {b x : Int} : x ∈ layB h n b ↔ (0 ≤ x ∧ x < n) ∧ b ∈ homeL h x := by
  unfold layB
  rw [List.mem_filter, rg_mem]; simp
theorem rg_nodup : ∀ (n lo : Nat), (rg lo n).Nodup
  | 0, _ => List.nodup_nil
  | n + 1, lo => by
    rw [rg, List.nodup_cons]
    refine ⟨fun h => ?_, rg_nodup n (lo + 1)⟩
    have := (rg_mem n (lo + 1) _).1 h; omega
theorem layB_nodup (h : Hsh) (n : Nat) (b : Int) : (layB h n b).Nodup := (rg_nodup n 0).sublist List.filter_sublist
theorem layB_len (h : Hsh) (n : Nat) (b : Int) : (layB h n b).length ≤ n := by
  have := List.length_filter_le (fun i => decide (b ∈ homeL h i)) (rg 0 n)
  rw [rg_len] at this
  exact this

/-- The buckets while an item is put into its homes. -/
def Mid (h : Hsh) (n : Nat) (dn : List Int) (v : List (List Int)) : Prop := (v.length : Int) = h.1 ∧ ∀ b, 0 ≤ b → b < h.1 → at' [] v b = layB h n b ++ if b ∈ dn then [(n : Int)] else []
theorem Mid.put {h : Hsh} {n : Nat} {dn : List Int} {v : List (List Int)} (m : Mid h n dn v) {b : Int} (b0 : 0 ≤ b) (bB : b < h.1) (hb : b ∉ dn) : Mid h n (dn ++ [b]) (v.set b.toNat (at' [] v b ++ [(n : Int)])) := by
  have hl := m.1
  refine ⟨by simpa using m.1, fun c c0 cB => ?_⟩
  rw [at_set [] b0 (by omega) c0]
  by_cases e : c = b
  · subst e
    rw [if_pos rfl, m.2 c c0 cB, if_neg hb]; simp
  · rw [if_neg e, m.2 c c0 cB]
    congr 1
    simp [e]
theorem Mid.skip {h : Hsh} {n : Nat} {dn : List Int} {v : List (List Int)} (m : Mid h n dn v) {b : Int} (hb : b ∈ dn) : Mid h n (dn ++ [b]) v := by
  refine ⟨m.1, fun c c0 cB => ?_⟩
  rw [m.2 c c0 cB]
  congr 1
  by_cases e : c = b
  · subst e; simp [hb]
  · simp [e]

theorem lay_L1 {h : Hsh} {n : Nat} (hn : n ≤ 1024) (rec : Int → List (List Int) → Int → Option (List (List Int) × Int)) (z : Int) : ∀ (bs dn : List Int) (v : List (List Int)), (∀ b ∈ bs, 0 ≤ b ∧ b < h.1) → Mid h n dn v →
    ∃ w, cuckoo_Layout_L1 rec (n : Int) z bs v = rec ((n + 1 : Nat) : Int) w z ∧ Mid h n (dn ++ bs) w
  | [], dn, v, _, m => ⟨v, by rw [cuckoo_Layout_L1, w64_id (by omega) (by omega)]; rfl, by simpa using m⟩
  | b :: bs, dn, v, hb, m => by
    obtain ⟨b0, bB⟩ := hb b List.mem_cons_self
    have hl := m.1
    have hv := m.2 b b0 bB
    have hlb := layB_len h n b
    rw [cuckoo_Layout_L1]
    unfold cuckoo_Layout_B1
    rw [at_idx [] b0 (by omega)]
    simp only [Option.bind_some]
    by_cases hd : b ∈ dn
    · rw [if_pos hd] at hv
      have h1 : ((at' [] v b).length : Int) = (layB h n b).length + 1 := by rw [hv]; simp
      have h2 : lidx (at' [] v b) (w64 (((at' [] v b).length : Int) - 1)) = some (n : Int) := by
        rw [w64_id (by omega) (by omega), hv, lidx_app (by simp)]
        unfold lidx
        rw [if_pos (by simp)]
        simp
      rw [if_neg (by omega), h2]
      simp only [Option.bind_some]
      rw [if_neg (by simp)]
      obtain ⟨w, e, hw⟩ := lay_L1 hn rec z bs (dn ++ [b]) v (fun c hc => hb c (List.mem_cons_of_mem _ hc)) (m.skip hd)
      exact ⟨w, e, by simpa using hw⟩
    · rw [if_neg hd, List.append_nil] at hv
      have hc : ((if ((at' [] v b).length : Int) = 0 then some true else (lidx (at' [] v b) (w64 (((at' [] v b).length : Int) - 1))).bind fun u383 => some (decide (u383 ≠ (n : Int)))) : Option Bool) = some true := by
        by_cases h0 : ((at' [] v b).length : Int) = 0
        · rw [if_pos h0]
        · rw [if_neg h0, w64_id (by rw [hv]; omega) (by rw [hv]; omega), at_idx 0 (by omega) (by omega)]
          simp only [Option.bind_some]
          have hm : at' 0 (at' [] v b) (((at' [] v b).length : Int) - 1) ∈ at' [] v b := at_mem 0 (by omega) (by omega)
          generalize at' 0 (at' [] v b) (((at' [] v b).length : Int) - 1) = x at hm ⊢
          rw [hv] at hm
          have := layB_lt hm
          congr 1
          simp; omega
      rw [hc, Option.bind_some, if_pos rfl, lapp_ok (by rw [hv]; simp; omega)]
      simp only [Option.bind_some]
      rw [lupd_ok b0 (by omega)]
      simp only [Option.bind_some]
      obtain ⟨w, e, hw⟩ := lay_L1 hn rec z bs (dn ++ [b]) _ (fun c hc => hb c (List.mem_cons_of_mem _ hc)) (m.put b0 bB hd)
      exact ⟨w, e, by simpa using hw⟩

theorem has_ok (x : Int) : ∀ l : List Int, ref19_has_L1 x l = some (decide (x ∈ l))
  | [] => rfl
  | y :: l => by
    rw [ref19_has_L1]
    unfold ref19_has_B1
    by_cases e : y = x
    · rw [if_pos e]; simp [e]
    · rw [if_neg e, has_ok x l]
      congr 1
      have : ¬ x = y := fun h => e h.symm
      simp [this]

theorem rlay_L1 {h : Hsh} {n : Nat} (hn : n ≤ 1024) (rec : Int → List (List Int) → Int → Option (List (List Int) × Int)) (z : Int) : ∀ (bs dn : List Int) (v : List (List Int)), (∀ b ∈ bs, 0 ≤ b ∧ b < h.1) → Mid h n dn v →
    ∃ w, ref19_Layout_L1 rec (n : Int) (dn ++ bs) z bs dn.length v = rec ((n + 1 : Nat) : Int) w z ∧ Mid h n (dn ++ bs) w
  | [], dn, v, _, m => ⟨v, by rw [ref19_Layout_L1, w64_id (by omega) (by omega)]; rfl, by simpa using m⟩
  | b :: bs, dn, v, hb, m => by
    obtain ⟨b0, bB⟩ := hb b List.mem_cons_self
    have hl := m.1
    have hv := m.2 b b0 bB
    have hlb := layB_len h n b
    rw [ref19_Layout_L1]
    unfold ref19_Layout_B1
    rw [lsub_ok (by omega) (by omega) (by simp; omega)]
    simp only [Option.bind_some]
    have hd1 : ((dn ++ b :: bs).drop (0 : Int).toNat).take ((dn.length : Int) - 0).toNat = dn := by simp
    rw [hd1]
    unfold ref19_has
    rw [has_ok]
    simp only [Option.bind_some]
    by_cases hd : b ∈ dn
    · rw [decide_eq_true hd, if_neg (by simp)]
      have ih := rlay_L1 hn rec z bs (dn ++ [b]) v (fun c hc => hb c (List.mem_cons_of_mem _ hc)) (m.skip hd)
      simp only [List.append_assoc, List.singleton_append, List.length_append, List.length_singleton] at ih
      exact ih
    · rw [if_neg hd, List.append_nil] at hv
      rw [decide_eq_false hd, if_pos (by simp), at_idx [] b0 (by omega)]
      simp only [Option.bind_some]
      rw [lapp_ok (by rw [hv]; simp; omega)]
      simp only [Option.bind_some]
      rw [lupd_ok b0 (by omega)]
      simp only [Option.bind_some]
      have ih := rlay_L1 hn rec z bs (dn ++ [b]) _ (fun c hc => hb c (List.mem_cons_of_mem _ hc)) (m.put b0 bB hd)
      simp only [List.append_assoc, List.singleton_append, List.length_append, List.length_singleton] at ih
      exact ih

theorem Mid.next {h : Hsh} {n : Nat} {w : List (List Int)} (m : Mid h n ([] ++ homeL h n) w) : Mid h (n + 1) [] w := by
  refine ⟨m.1, fun b b0 bB => ?_⟩
  rw [m.2 b b0 bB, layB_succ]; simp
theorem Mid.done {h : Hsh} (hk : HshOK h) {n : Nat} {w : List (List Int)} (m : Mid h n [] w) : w = lay h n := by
  have hl := m.1
  have := hk.1
  refine ext_at [] (by rw [lay_len]; omega) fun b b0 bB => ?_
  rw [m.2 b b0 (by omega), lay_at b0 (by omega)]; simp
theorem lay_L2 {h : Hsh} (hk : HshOK h) {items : Nat} (hi : items ≤ 1024) : ∀ (r n fuel : Nat) (v : List (List Int)), n + r = items → r < fuel → Mid h n [] v → cuckoo_Layout_L2 (items : Int) h.2 fuel (n : Int) v h.1 = some (lay h items, 0)
  | 0, n, fuel, v, hn, hf, m => by
    obtain ⟨fuel, rfl⟩ : ∃ k, fuel = k + 1 := ⟨fuel - 1, by omega⟩
    rw [cuckoo_Layout_L2]
    unfold cuckoo_Layout_B2
    rw [if_neg (by omega), m.done hk, show n = items from by omega]
  | r + 1, n, fuel, v, hn, hf, m => by
    obtain ⟨fuel, rfl⟩ : ∃ k, fuel = k + 1 := ⟨fuel - 1, by omega⟩
    rw [cuckoo_Layout_L2]
    unfold cuckoo_Layout_B2
    rw [if_pos (by omega), homes_ok (h := (h.1, h.2)) hk (by unfold ItemOK; omega)]
    simp only [Option.bind_some]
    obtain ⟨w, e, hw⟩ := lay_L1 (h := h) (n := n) (by omega) (cuckoo_Layout_L2 (items : Int) h.2 fuel) h.1 (homeL h n) [] v (homeL_range hk n) m
    rw [show homeL (h.1, h.2) (n : Int) = homeL h n from rfl, e]
    exact lay_L2 hk hi r (n + 1) fuel w (by omega) (by omega) hw.next
theorem rlay_L2 {h : Hsh} (hk : HshOK h) {items : Nat} (hi : items ≤ 1024) : ∀ (r n fuel : Nat) (v : List (List Int)), n + r = items → r < fuel → Mid h n [] v → ref19_Layout_L2 (items : Int) h.2 fuel (n : Int) v h.1 = some (lay h items, 0)
  | 0, n, fuel, v, hn, hf, m => by
    obtain ⟨fuel, rfl⟩ : ∃ k, fuel = k + 1 := ⟨fuel - 1, by omega⟩
    rw [ref19_Layout_L2]
    unfold ref19_Layout_B2
    rw [if_neg (by omega), m.done hk, show n = items from by omega]
  | r + 1, n, fuel, v, hn, hf, m => by
    obtain ⟨fuel, rfl⟩ : ∃ k, fuel = k + 1 := ⟨fuel - 1, by omega⟩
    rw [ref19_Layout_L2]
    unfold ref19_Layout_B2
    rw [if_pos (by omega), rhomes_ok (h := (h.1, h.2)) hk (by unfold ItemOK; omega)]
    simp only [Option.bind_some]
    obtain ⟨w, e, hw⟩ := rlay_L1 (h := h) (n := n) (by omega) (ref19_Layout_L2 (items : Int) h.2 fuel) h.1 (homeL h n) [] v (homeL_range hk n) m
    rw [List.nil_append, List.length_nil] at e
    rw [show homeL (h.1, h.2) (n : Int) = homeL h n from rfl, e]
    exact rlay_L2 hk hi r (n + 1) fuel w (by omega) (by omega) hw.next

theorem mid0 {h : Hsh} (hk : HshOK h) : Mid h 0 [] (List.replicate h.1.toNat ([] : List Int)) := by
  have := hk.1
  refine ⟨by simp; omega, fun b b0 bB => ?_⟩
  rw [at_rep _ _ b0 (by omega)]; simp [layB, rg]
theorem layout_yes {h : Hsh} (hk : HshOK h) {n : Nat} (hn : n ≤ 1024) : cuckoo_Layout h n = some (lay h n, 0) ∧ ref19_Layout h n = some (lay h n, 0) := by
  have h1 := hk.1; have h2 := hk.2.1
  have hm : lmk h.1 ([] : List Int) = some (List.replicate h.1.toNat []) := by unfold lmk; rw [if_pos (by omega)]
  have e0 : cuckoo_Check h = some 0 := by
    rcases check_ok h with ⟨e, _⟩ | ⟨_, hq⟩
    · exact e
    · exact absurd hk hq
  constructor
  · unfold cuckoo_Layout
    rw [e0, Option.bind_some, if_neg (by simp), if_neg (by omega), hm, Option.bind_some]
    exact lay_L2 hk hn n 0 big _ (by omega) (by simp only [big]; omega) (mid0 hk)
  · unfold ref19_Layout
    rw [rcheck, e0, Option.bind_some, if_neg (by simp), if_neg (by omega), hm, Option.bind_some]
    exact rlay_L2 hk hn n 0 big _ (by omega) (by simp only [big]; omega) (mid0 hk)
theorem layout_same (h : Hsh) (n : Int) : ∃ l e, cuckoo_Layout h n = some (l, e) ∧ ref19_Layout h n = some (l, e) := by
  rcases check_ok h with ⟨e, hk⟩ | ⟨e, _⟩
  · by_cases hn : n < 0 ∨ 1024 < n
    · refine ⟨[], 4, ?_, ?_⟩
      · unfold cuckoo_Layout; rw [e, Option.bind_some, if_neg (by simp), if_pos hn]
      · unfold ref19_Layout; rw [rcheck, e, Option.bind_some, if_neg (by simp), if_pos hn]
    · obtain ⟨m, rfl⟩ : ∃ m : Nat, n = m := ⟨n.toNat, by omega⟩
      exact ⟨_, _, layout_yes hk (by omega)⟩
  · refine ⟨[], 2, ?_, ?_⟩
    · unfold cuckoo_Layout; rw [e, Option.bind_some, if_pos (by simp)]
    · unfold ref19_Layout; rw [rcheck, e, Option.bind_some, if_pos (by simp)]

/-- What is to be found of an assignment behind bucket i. -/
def Rst (h : Hsh) (l : List Int) : Nat → List Bool → List Int → Prop
  | _, v, [] => ∀ j : Int, 0 ≤ j → j < l.length → at' false v j = true
  | i, v, x :: xs => (x = -1 ∧ Rst h l (i + 1) v xs) ∨ (0 ≤ x ∧ x < l.length ∧ at' false v x = false ∧ (i : Int) ∈ homeL h (at' 0 l x) ∧ Rst h l (i + 1) (v.set x.toNat true) xs)

theorem count_true_le (v : List Bool) : v.count true ≤ v.length := List.count_le_length
theorem all_true {v : List Bool} (h : v.count true = v.length) {j : Int} (h0 : 0 ≤ j) (h1 : j < v.length) : at' false v j = true := by
  have := (List.count_eq_length.1 h) _ (at_mem false h0 h1)
  exact this.symm
theorem fitsb_L {h : Hsh} (hk : HshOK h) {l : List Int} (hl : ∀ n ∈ l, ItemOK n) (hlen : l.length ≤ 100000) (B : Int) : ∀ (xs : List Int) (i : Nat) (v : List Bool), v.length = l.length →
    ∃ r, cuckoo_Fits_L2 cuckoo_Fits_J1 l h.1 h.2 xs i v = some r ∧ ref19_Fits_L2 (ref19_Fits_J1 l) l B (l.map (homeL h)) xs i ((v.count true : Nat) : Int) v = some r ∧ (r = true → Rst h l i v xs)
  | [], i, v, hv => by
    have hc := count_true_le v
    refine ⟨decide (((v.count true : Nat) : Int) = (l.length : Int)), ?_, rfl, fun hr j h0 h1 => ?_⟩
    · rw [cuckoo_Fits_L2]
      unfold cuckoo_Fits_J1
      obtain ⟨r, e, hr⟩ := containsb_ok v false
      rw [e]
      simp only [Option.bind_some]
      congr 1
      cases r with
      | true =>
        have hm := hr.1 rfl
        have : ¬ (((v.count true : Nat) : Int) = (l.length : Int)) := fun he => by
          have h2 : v.count true = v.length := by omega
          have := (List.count_eq_length.1 h2) _ hm
          cases this
        simp [this]
      | false =>
        have hm : false ∉ v := fun h => by have := hr.2 h; cases this
        have h2 : v.count true = v.length := List.count_eq_length.2 fun b hb => by
          cases b with
          | true => rfl
          | false => exact absurd hb hm
        have : (((v.count true : Nat) : Int) = (l.length : Int)) := by omega
        simp [this]
    · have h2 : ((v.count true : Nat) : Int) = (l.length : Int) := by simpa using hr
      exact all_true (by omega) h0 (by omega)
  | x :: xs, i, v, hv => by
    rw [cuckoo_Fits_L2, ref19_Fits_L2]
    unfold cuckoo_Fits_B2 ref19_Fits_B2
    by_cases h1 : x = -1
    · rw [if_pos h1, if_pos h1]
      obtain ⟨r, e1, e2, h⟩ := fitsb_L hk hl hlen B xs (i + 1) v hv
      exact ⟨r, e1, e2, fun hr => .inl ⟨h1, h hr⟩⟩
    · rw [if_neg h1, if_neg h1]
      by_cases h2 : x < 0 ∨ (l.length : Int) ≤ x
      · rw [if_pos h2]
        exact ⟨false, rfl, rfl, fun h => by cases h⟩
      · have hx0 : 0 ≤ x := by omega
        have hxl : x < l.length := by omega
        rw [if_neg h2, at_idx false hx0 (by omega)]
        simp only [Option.bind_some]
        by_cases hf : at' false v x = true
        · rw [hf]
          exact ⟨false, rfl, rfl, fun h => by cases h⟩
        · have hf' : at' false v x = false := by simpa using hf
          rw [hf']
          simp only [Bool.false_eq_true, if_false]
          have hit : at' 0 l x ∈ l := at_mem 0 hx0 hxl
          rw [at_idx 0 hx0 hxl, at_idx [] hx0 (by simpa using hxl), at_map 0 [] _ hx0 hxl]
          simp only [Option.bind_some]
          rw [homes_ok (h := (h.1, h.2)) hk (hl _ hit)]
          simp only [Option.bind_some]
          obtain ⟨r, e, hr⟩ := contains_ok (homeL (h.1, h.2) (at' 0 l x)) (i : Int)
          rw [e]
          unfold ref19_has
          rw [has_ok]
          have hrd : r = decide ((i : Int) ∈ homeL h (at' 0 l x)) := by
            have hr' : (r = true ↔ (i : Int) ∈ homeL h (at' 0 l x)) := hr
            by_cases hm : (i : Int) ∈ homeL h (at' 0 l x)
            · rw [hr'.2 hm, decide_eq_true hm]
            · rw [decide_eq_false hm]
              cases r with
              | true => exact absurd (hr'.1 rfl) hm
              | false => rfl
          rw [hrd]
          simp only [Option.bind_some]
          by_cases hm : (i : Int) ∈ homeL h (at' 0 l x)
          · rw [decide_eq_true hm]
            simp only [Bool.not_true, Bool.false_eq_true, if_false]
            rw [lupd_ok hx0 (by omega)]
            simp only [Option.bind_some]
            have hcnt := count_set' false true true hx0 (by omega : x < v.length) (l := v)
            rw [hf'] at hcnt
            simp at hcnt
            have hcl := count_true_le v
            rw [w64_id (by omega) (by omega)]
            obtain ⟨r2, e1, e2, h4⟩ := fitsb_L hk hl hlen B xs (i + 1) (v.set x.toNat true) (by simpa using hv)
            rw [show ((v.count true : Nat) : Int) + 1 = (((v.set x.toNat true).count true : Nat) : Int) from by omega]
            exact ⟨r2, e1, e2, fun hr2 => .inr ⟨hx0, hxl, hf', hm, h4 hr2⟩⟩
          · rw [decide_eq_false hm]
            exact ⟨false, rfl, rfl, fun h => by cases h⟩

theorem Rst.all {h : Hsh} {l : List Int} : ∀ (xs : List Int) (i : Nat) (v : List Bool), v.length = l.length → Rst h l i v xs →
    (∀ y ∈ xs, -1 ≤ y ∧ y < l.length) ∧ (∀ j : Int, 0 ≤ j → j < l.length → xs.count j + (if at' false v j = true then 1 else 0) = 1) ∧ (∀ k : Nat, k < xs.length → 0 ≤ xs.getD k 0 → ((i + k : Nat) : Int) ∈ homeL h (at' 0 l (xs.getD k 0)))
  | [], i, v, hv, hr => ⟨by simp, fun j h0 h1 => by rw [hr j h0 h1]; simp, fun k hk => by simp at hk⟩
  | x :: xs, i, v, hv, hr => by
    rcases hr with ⟨h1, hr⟩ | ⟨x0, xl, hf, hm, hr⟩
    · obtain ⟨a, b, c⟩ := Rst.all xs (i + 1) v hv hr
      refine ⟨fun y hy => ?_, fun j h0 h2 => ?_, fun k hk h0 => ?_⟩
      · rcases List.mem_cons.1 hy with rfl | hy
        · omega
        · exact a y hy
      · rw [List.count_cons]
        have : (x == j) = false := by simp; omega
        rw [this]
        simpa using b j h0 h2
      · cases k with
        | zero => simp only [List.getD_cons_zero] at h0; omega
        | succ k =>
          simp only [List.getD_cons_succ, List.length_cons] at h0 hk ⊢
          have := c k (by omega) h0
          rwa [show i + 1 + k = i + (k + 1) from by omega] at this
    · obtain ⟨a, b, c⟩ := Rst.all xs (i + 1) (v.set x.toNat true) (by simpa using hv) hr
      refine ⟨fun y hy => ?_, fun j h0 h2 => ?_, fun k hk h0 => ?_⟩
      · rcases List.mem_cons.1 hy with rfl | hy
        · omega
        · exact a y hy
      · have := b j h0 h2
        rw [at_set false x0 (by omega) h0] at this
        rw [List.count_cons]
        by_cases e : j = x
        · subst e
          rw [if_pos rfl] at this
          rw [hf]; simp at this ⊢; exact this
        · rw [if_neg e] at this
          have e2 : (x == j) = false := by simp; omega
          rw [e2]; simpa using this
      · cases k with
        | zero => simpa using hm
        | succ k =>
          simp only [List.getD_cons_succ, List.length_cons] at h0 hk ⊢
          have := c k (by omega) h0
          rwa [show i + 1 + k = i + (k + 1) from by omega] at this

theorem fits_both (h : Hsh) (l x : List Int) (hlen : l.length ≤ 100000) : ∃ r, cuckoo_Fits h l x = some r ∧ ref19_Fits h l x = some r ∧ (r = true → HshOK h ∧ (∀ n ∈ l, ItemOK n) ∧ Asg h.1 (l.map (homeL h)) x) := by
  have hA : cuckoo_Check h = some 0 → ref19_all h l = ref19_all_L1 h.1 h.2 l [] := fun he => by
    unfold ref19_all; rw [rcheck, he, Option.bind_some, if_neg (by simp)]
  rcases asked_ok h l with ⟨e, hk⟩ | ⟨e, hk, hx⟩ | ⟨e, hk, hx⟩
  · rcases check_ok h with ⟨_, hc⟩ | ⟨ec, _⟩
    · exact absurd hc hk
    · refine ⟨false, ?_, ?_, fun h => by cases h⟩
      · unfold cuckoo_Fits; rw [e, Option.bind_some, if_pos (by simp)]
      · unfold ref19_Fits ref19_all; rw [rcheck, ec, Option.bind_some, if_pos (by simp), Option.bind_some, if_pos (by simp)]
  · rcases check_ok h with ⟨ec, _⟩ | ⟨_, hc⟩
    · rcases all_L' hk l [] (by simp; omega) with ⟨ha, _⟩ | ⟨_, ea⟩
      · obtain ⟨n, hn, hb⟩ := hx; exact absurd (ha n hn) hb
      · refine ⟨false, ?_, ?_, fun h => by cases h⟩
        · unfold cuckoo_Fits; rw [e, Option.bind_some, if_pos (by simp)]
        · unfold ref19_Fits; rw [hA ec, ea, Option.bind_some, if_pos (by simp)]
    · exact absurd hk hc
  · rcases check_ok h with ⟨ec, _⟩ | ⟨_, hc⟩
    · rcases all_L' hk l [] (by simp; omega) with ⟨_, ea⟩ | ⟨⟨n, hn, hb⟩, _⟩
      · rw [List.nil_append] at ea
        by_cases hb : (x.length : Int) = h.1
        · have hm : lmk (l.length : Int) false = some (List.replicate l.length false) := by unfold lmk; rw [if_pos (by omega), Int.toNat_natCast]
          obtain ⟨r, e1, e2, h3⟩ := fitsb_L hk hx hlen h.1 x 0 (List.replicate l.length false) (by simp)
          have hc0 : (List.replicate l.length false).count true = 0 := by rw [List.count_replicate]; simp
          rw [hc0, show ((0 : Nat) : Int) = 0 from rfl] at e2
          refine ⟨r, ?_, ?_, fun hr => ⟨hk, hx, ?_⟩⟩
          · unfold cuckoo_Fits; rw [e, Option.bind_some, if_neg (by simp [hb]), hm, Option.bind_some, e1]
          · unfold ref19_Fits; rw [hA ec, ea, Option.bind_some, if_neg (by simp [hb]), hm, Option.bind_some, e2]
          · obtain ⟨a, b, c⟩ := Rst.all x 0 _ (by simp) (h3 hr)
            have hb' : ∀ j : Int, 0 ≤ j → j < l.length → x.count j = 1 := fun j h0 h1 => by
              have := b j h0 h1
              rw [at_rep _ _ h0 (by omega)] at this
              simpa using this
            refine ⟨⟨hb, fun v hv => by simpa using a v hv⟩, fun j h0 => ?_, fun j h0 h1 => ?_⟩
            · by_cases hj : j < l.length
              · rw [hb' j h0 hj]; omega
              · rw [List.count_eq_zero.2 fun hm => by have := (a j hm).2; omega]; omega
            · simp only [List.length_map] at h1
              obtain ⟨p, p0, pl, hp⟩ := at_of_mem (-1) (List.count_pos_iff.1 (by rw [hb' j h0 h1]; omega))
              refine ⟨p, p0, by omega, ?_, hp⟩
              rw [at_map 0 [] _ h0 h1]
              have h5 : x.getD p.toNat 0 = j := by
                rw [← hp]; unfold at'
                rw [List.getD_eq_getElem?_getD, List.getD_eq_getElem?_getD, List.getElem?_eq_getElem (by omega : p.toNat < x.length)]; rfl
              have := c p.toNat (by omega) (by rw [h5]; exact h0)
              rw [h5] at this
              rwa [show ((0 + p.toNat : Nat) : Int) = p from by omega] at this
        · refine ⟨false, ?_, ?_, fun h => by cases h⟩
          · unfold cuckoo_Fits; rw [e, Option.bind_some, if_pos (.inr hb)]
          · unfold ref19_Fits; rw [hA ec, ea, Option.bind_some, if_pos (.inr hb)]
      · exact absurd (hx n hn) hb
    · exact absurd hk hc

/-- The first place of a number. -/
def ixL (x : Int) : List Int → Int → Int
  | [], _ => -1
  | y :: l, i => if x = y then i else ixL x l (i + 1)
theorem index_ix (x : Int) : ∀ (l : List Int) (i : Nat), slices_Index_Lintint_L1 x l i = some (ixL x l i)
  | [], _ => rfl
  | y :: l, i => by
    rw [slices_Index_Lintint_L1, ixL]
    unfold slices_Index_Lintint_B1
    by_cases h : x = y
    · rw [if_pos h, if_pos h]
    · rw [if_neg h, if_neg h, index_ix x l (i + 1), show ((i + 1 : Nat) : Int) = (i : Int) + 1 from by omega]
theorem index_ok (l : List Int) (x : Int) : slices_Index_Lintint l x = some (ixL x l 0) := index_ix x l 0
theorem ix_mem {x : Int} : ∀ {l : List Int} {i : Int}, x ∈ l → i ≤ ixL x l i ∧ ixL x l i < i + l.length ∧ l.getD (ixL x l i - i).toNat 0 = x
  | y :: l, i, h => by
    rw [ixL]
    by_cases e : x = y
    · rw [if_pos e]
      simp [e]; omega
    · rw [if_neg e]
      obtain ⟨h1, h2, h3⟩ := ix_mem (l := l) (i := i + 1) (by
        rcases List.mem_cons.1 h with h | h
        · exact absurd h e
        · exact h)
      refine ⟨by omega, by simp only [List.length_cons]; omega, ?_⟩
      rw [show (ixL x l (i + 1) - i).toNat = (ixL x l (i + 1) - (i + 1)).toNat + 1 from by omega, List.getD_cons_succ]
      exact h3
theorem ix_app {x : Int} : ∀ {l m : List Int} {i : Int}, x ∈ l → ixL x (l ++ m) i = ixL x l i
  | y :: l, m, i, h => by
    rw [List.cons_append, ixL, ixL]
    by_cases e : x = y
    · rw [if_pos e, if_pos e]
    · rw [if_neg e, if_neg e, ix_app (by
        rcases List.mem_cons.1 h with h | h
        · exact absurd h e
        · exact h)]
theorem ix_at {x : Int} {l : List Int} (h : x ∈ l) : 0 ≤ ixL x l 0 ∧ ixL x l 0 < l.length ∧ at' 0 l (ixL x l 0) = x := by
  obtain ⟨h1, h2, h3⟩ := ix_mem (i := 0) h
  exact ⟨h1, by omega, by unfold at'; simpa using h3⟩
theorem ix_uniq {x : Int} : ∀ {l : List Int} {b i : Int}, l.Nodup → 0 ≤ b → b < l.length → at' (-1) l b = x → ixL x l i = i + b
  | [], b, i, _, h0, h1, _ => by simp at h1; omega
  | y :: l, b, i, hn, h0, h1, h => by
    rw [ixL]
    by_cases e : b = 0
    · subst e
      have : y = x := h
      rw [if_pos this.symm]; omega
    · have hb : at' (-1) l (b - 1) = x := by
        rw [← h]; unfold at'
        rw [show b.toNat = (b - 1).toNat + 1 from by omega, List.getD_cons_succ]
      simp only [List.length_cons] at h1
      have hm : x ∈ l := hb ▸ at_mem (-1) (by omega) (by omega)
      rw [if_neg (fun hxy : x = y => (List.nodup_cons.1 hn).1 (by rw [← hxy]; exact hm)), ix_uniq (List.nodup_cons.1 hn).2 (by omega) (by omega) hb]
      omega
/-- The bucket of an item. -/
theorem ix_count {x : Int} : ∀ {l : List Int} {b i : Int}, l.count x ≤ 1 → 0 ≤ b → b < l.length → at' (-1) l b = x → ixL x l i = i + b
  | [], b, i, _, h0, h1, _ => by simp at h1; omega
  | y :: l, b, i, hn, h0, h1, h => by
    rw [ixL]
    by_cases e : b = 0
    · subst e
      have : y = x := h
      rw [if_pos this.symm]; omega
    · have hb : at' (-1) l (b - 1) = x := by
        rw [← h]; unfold at'
        rw [show b.toNat = (b - 1).toNat + 1 from by omega, List.getD_cons_succ]
      simp only [List.length_cons] at h1
      have hm : x ∈ l := hb ▸ at_mem (-1) (by omega) (by omega)
      have hc := List.count_pos_iff.2 hm
      rw [List.count_cons] at hn
      have hxy : ¬ x = y := fun hxy => by rw [hxy] at hn hc; simp at hn; omega
      rw [if_neg hxy, ix_count (l := l) (by omega) (by omega) (by omega) hb]
      omega
end Go.Proofs.Ytbhmhindommaeaa
