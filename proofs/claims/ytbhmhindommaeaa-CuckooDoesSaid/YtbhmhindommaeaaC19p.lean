/- Chapter 19, plain: sets of items; the program's Failures. -/
import Derived.Test.YtbhmhindommaeaaC19o
namespace Go.Proofs.Ytbhmhindommaeaa
set_option linter.unusedVariables false

/-- All sets of k elements of a list, in order. -/
def combos : Nat → List Int → List (List Int)
  | 0, _ => [[]]
  | _ + 1, [] => []
  | k + 1, x :: l => (combos k l).map (x :: ·) ++ combos (k + 1) l
/-- The numbers from lo on. -/
def rg : Nat → Nat → List Int
  | _, 0 => []
  | lo, n + 1 => (lo : Int) :: rg (lo + 1) n
theorem rg_len : ∀ (n lo : Nat), (rg lo n).length = n
  | 0, _ => rfl
  | n + 1, lo => by simp [rg, rg_len n]
theorem rg_mem : ∀ (n lo : Nat) (x : Int), x ∈ rg lo n ↔ lo ≤ x ∧ x < (lo : Int) + n
  | 0, lo, x => by simp [rg]
  | n + 1, lo, x => by
    simp only [rg, List.mem_cons, rg_mem n (lo + 1) x]
    omega
theorem combos_short : ∀ (k : Nat) (l : List Int), l.length < k → combos k l = []
  | 0, _, h => by omega
  | k + 1, [], _ => rfl
  | k + 1, x :: l, h => by
    simp only [List.length_cons] at h
    rw [combos, combos_short k l (by omega), combos_short (k + 1) l (by omega)]; rfl
theorem combos_mem : ∀ (k : Nat) (l s : List Int), s ∈ combos k l → s.length = k ∧ ∀ x ∈ s, x ∈ l
  | 0, l, s, h => by simp [combos] at h; subst h; simp
  | k + 1, [], s, h => by simp [combos] at h
  | k + 1, y :: l, s, h => by
    rw [combos, List.mem_append] at h
    rcases h with h | h
    · obtain ⟨s', h1, rfl⟩ := List.mem_map.1 h
      obtain ⟨h2, h3⟩ := combos_mem k l s' h1
      refine ⟨by simp [h2], fun x hx => ?_⟩
      rcases List.mem_cons.1 hx with rfl | hx
      · exact List.mem_cons_self
      · exact List.mem_cons_of_mem _ (h3 x hx)
    · obtain ⟨h2, h3⟩ := combos_mem (k + 1) l s h
      exact ⟨h2, fun x hx => List.mem_cons_of_mem _ (h3 x hx)⟩

open Classical in
/-- A set that has no assignment. -/
noncomputable def bad (h : Hsh) (s : List Int) : Bool := decide (h.1 < s.length ∨ ¬ Placeable (s.map (homeL h)) (nofix h) 0)
theorem bad_iff (h : Hsh) (s : List Int) : bad h s = true ↔ h.1 < s.length ∨ ¬ Placeable (s.map (homeL h)) (nofix h) 0 := by unfold bad; simp

theorem leaf_ok {h : Hsh} (hk : HshOK h) {s : List Int} (hs : ∀ x ∈ s, ItemOK x) (hl : s.length ≤ 100000) :
    ((if (h.1 < (s.length : Int)) then (some true) else (cuckoo_start h s).bind fun u70 => (cuckoo_placing_all u70 0).bind fun u100 => some (!u100.1)) : Option Bool) = some (bad h s) := by
  by_cases hc : h.1 < (s.length : Int)
  · rw [if_pos hc, (bad_iff h s).2 (.inl hc)]
  · rw [if_neg hc, start_ok hk hs (by omega)]
    simp only [Option.bind_some]
    have h1 := hk.1; have h2 := hk.2.1
    have hf : ((nofix h).length : Int) = h.1 := by unfold nofix; simp; omega
    obtain ⟨r, bk, e, _, hr⟩ := all_ok (homesOK hk s) hf (by omega) (by simp; omega) (a := 0) (by simp) (fst0 hk (s.map (homeL h))).stand
    rw [show List.replicate h.1.toNat false = nofix h from rfl, e]
    simp only [Option.bind_some]
    congr 1
    cases r with
    | true =>
      cases hb : bad h s with
      | false => rfl
      | true =>
        rcases (bad_iff h s).1 hb with h3 | h3
        · exact absurd h3 hc
        · exact absurd (hr.1 rfl) h3
    | false => exact ((bad_iff h s).2 (.inr fun hp => by have := hr.2 hp; cases this)).symm

theorem through_ok {h : Hsh} (hk : HshOK h) {items size : Nat} (hi : items ≤ 1024) (hsz : size ≤ items) : ∀ (need fuel : Nat) (chosen : List Int) (m n : Nat) (cnt fl : Nat), chosen.length + need = size → need < fuel → n + m = items → (∀ x ∈ chosen, 0 ≤ x ∧ x < items) → fl ≤ cnt → cnt + (combos need (rg n m)).length ≤ 1000000 →
    cuckoo_Failures_f1_R fuel chosen (n : Int) (size : Int) (cnt : Int) h (fl : Int) (items : Int) = some (((cnt + (combos need (rg n m)).length : Nat) : Int), ((fl + (combos need (rg n m)).countP fun s => bad h (chosen ++ s) : Nat) : Int))
  | 0, fuel, chosen, m, n, cnt, fl, h1, h2, h3, h4, h5, h6 => by
    obtain ⟨fuel, rfl⟩ : ∃ k, fuel = k + 1 := ⟨fuel - 1, by omega⟩
    simp only [combos, List.length_singleton] at h6
    rw [cuckoo_Failures_f1_R]
    unfold cuckoo_Failures_f1_B2
    rw [if_pos (by omega), show (size : Int) = (chosen.length : Int) from by omega, leaf_ok hk (fun x hx => by have := h4 x hx; unfold ItemOK; omega) (by omega)]
    simp only [Option.bind_some]
    rw [w64_id (by omega) (by omega), w64_id (by omega) (by omega)]
    simp only [combos, List.length_singleton, List.countP_singleton, List.append_nil]
    by_cases hb : bad h chosen = true
    · rw [if_pos hb, if_pos hb]; simp
    · rw [if_neg hb, if_neg hb]; simp
  | need + 1, fuel, chosen, m, n, cnt, fl, h1, h2, h3, h4, h5, h6 => by
    obtain ⟨fuel, rfl⟩ : ∃ k, fuel = k + 1 := ⟨fuel - 1, by omega⟩
    rw [cuckoo_Failures_f1_R]
    unfold cuckoo_Failures_f1_B2
    rw [if_neg (by omega)]
    have loop : ∀ (m f2 n cnt fl : Nat), m < f2 → n + m = items → fl ≤ cnt → cnt + (combos (need + 1) (rg n m)).length ≤ 1000000 →
        cuckoo_Failures_f1_L1 (cuckoo_Failures_f1_R fuel) (size : Int) h.1 h.2 (items : Int) chosen f2 (n : Int) (cnt : Int) (fl : Int) = some (((cnt + (combos (need + 1) (rg n m)).length : Nat) : Int), ((fl + (combos (need + 1) (rg n m)).countP fun s => bad h (chosen ++ s) : Nat) : Int)) := by
      intro m
      induction m with
      | zero =>
        intro f2 n cnt fl hf hn hfl hc
        obtain ⟨f2, rfl⟩ : ∃ k, f2 = k + 1 := ⟨f2 - 1, by omega⟩
        rw [cuckoo_Failures_f1_L1]
        unfold cuckoo_Failures_f1_B1
        rw [w64_id (x := (size : Int) - _) (by omega) (by omega), w64_id (by omega) (by omega), if_neg (by omega)]
        simp [rg, combos]
      | succ m ih =>
        intro f2 n cnt fl hf hn hfl hc
        obtain ⟨f2, rfl⟩ : ∃ k, f2 = k + 1 := ⟨f2 - 1, by omega⟩
        rw [cuckoo_Failures_f1_L1]
        unfold cuckoo_Failures_f1_B1
        rw [w64_id (x := (size : Int) - _) (by omega) (by omega), w64_id (by omega) (by omega)]
        by_cases hle : need + 1 ≤ m + 1
        · rw [if_pos (by omega), lapp_ok (by simp; omega)]
          simp only [Option.bind_some]
          simp only [rg, combos, List.length_append, List.length_map, List.countP_append, List.countP_map] at hc ⊢
          rw [w64_id (by omega) (by omega), show (n : Int) + 1 = ((n + 1 : Nat) : Int) from by omega]
          have hcp : ((combos need (rg (n + 1) m)).countP fun s => bad h (chosen ++ [(n : Int)] ++ s)) ≤ (combos need (rg (n + 1) m)).length := List.countP_le_length
          rw [show (h.1, h.2) = h from rfl, through_ok hk hi hsz need fuel (chosen ++ [(n : Int)]) m (n + 1) cnt fl (by simp; omega) (by omega) (by omega) (fun x hx => by
            rcases List.mem_append.1 hx with hx | hx
            · exact h4 x hx
            · simp at hx; omega) hfl (by omega)]
          simp only [Option.bind_some]
          rw [ih f2 (n + 1) _ _ (by omega) (by omega) (by omega) (by omega)]
          have hfun : ((combos need (rg (n + 1) m)).countP fun s => bad h (chosen ++ [(n : Int)] ++ s)) = (combos need (rg (n + 1) m)).countP ((fun s => bad h (chosen ++ s)) ∘ fun x => (n : Int) :: x) := by
            congr 1; funext s; simp
          rw [hfun]
          simp only [Nat.add_assoc]
        · rw [if_neg (by omega), combos_short (need + 1) (rg n (m + 1)) (by rw [rg_len]; omega)]
          simp
    exact loop m big n cnt fl (by simp only [big]; omega) h3 h5 h6

theorem failures_ok {h : Hsh} (hk : HshOK h) {items size : Nat} (hi : items ≤ 1024) (hsz : size ≤ items) {c : Int} (hc : cuckoo_sets items size = some c) (hc2 : c ≤ 4096) (hn : (combos size (rg 0 items)).length ≤ 1000000) :
    cuckoo_Failures h items size = some ((((combos size (rg 0 items)).countP (bad h) : Nat) : Int), (((combos size (rg 0 items)).length : Nat) : Int), 0) := by
  unfold cuckoo_Failures
  rcases check_ok h with ⟨e, _⟩ | ⟨_, hq⟩
  · rw [e]
    simp only [Option.bind_some]
    rw [if_neg (by simp), if_neg (by omega), hc]
    simp only [Option.bind_some]
    rw [if_neg (by omega)]
    have := through_ok hk hi hsz size big [] items 0 0 0 (by simp) (by simp only [big]; omega) (by omega) (by simp) (by omega) (by omega)
    unfold cuckoo_Failures_f1
    rw [show ((0 : Nat) : Int) = 0 from rfl] at this
    rw [this]
    simp
  · exact absurd hk hq
end Go.Proofs.Ytbhmhindommaeaa
