/- Chapter 19, plain: CuckooFails. -/
import Derived.Test.YtbhmhindommaeaaC19q
namespace Go.Proofs.Ytbhmhindommaeaa
set_option linter.unusedVariables false

/-- How many sets there are. -/
def ch : Nat → Nat → Nat
  | _, 0 => 1
  | 0, _ + 1 => 0
  | n + 1, k + 1 => ch n k + ch n (k + 1)
theorem combos_len : ∀ (k : Nat) (l : List Int), (combos k l).length = ch l.length k
  | 0, l => by cases l <;> rfl
  | k + 1, [] => rfl
  | k + 1, x :: l => by
    simp only [combos, List.length_append, List.length_map, List.length_cons, ch]
    rw [combos_len k l, combos_len (k + 1) l]
theorem ch_zero : ∀ (n k : Nat), n < k → ch n k = 0
  | n, 0, h => by omega
  | 0, k + 1, _ => rfl
  | n + 1, k + 1, h => by rw [ch, ch_zero n k (by omega), ch_zero n (k + 1) (by omega)]
theorem ch_0 (n : Nat) : ch n 0 = 1 := by cases n <;> rfl
theorem ch_self : ∀ n : Nat, ch n n = 1
  | 0 => rfl
  | n + 1 => by rw [ch, ch_self n, ch_zero n (n + 1) (by omega)]
theorem ch_mul : ∀ (n k : Nat), ch n (k + 1) * (k + 1) = ch n k * (n - k)
  | 0, k => by simp [ch]
  | n + 1, 0 => by
    have h := ch_mul n 0
    rw [show ch (n + 1) (0 + 1) = ch n 0 + ch n (0 + 1) from rfl, ch_0, ch_0]; rw [ch_0] at h; omega
  | n + 1, k + 1 => by
    have h1 := ch_mul n (k + 1)
    have h2 := ch_mul n k
    by_cases hk : k + 1 ≤ n
    · rw [ch, Nat.add_mul, h1]
      rw [show ch (n + 1) (k + 1) = ch n k + ch n (k + 1) from rfl, Nat.add_mul]
      rw [show n + 1 - (k + 1) = n - k from by omega, ← h2]
      have e1 : ch n (k + 1) * (k + 1 + 1) + ch n (k + 1) * (n - (k + 1)) = ch n (k + 1) * (k + 1) + ch n (k + 1) * (n - k) := by
        rw [← Nat.mul_add, ← Nat.mul_add]; congr 1; omega
      exact e1
    · rw [ch_zero (n + 1) (k + 1 + 1) (by omega), show n + 1 - (k + 1) = 0 from by omega]; omega
theorem ch_sym : ∀ (s a b : Nat), a + b = s → ch s a = ch s b
  | 0, a, b, h => by rw [show a = 0 from by omega, show b = 0 from by omega]
  | s + 1, 0, b, h => by rw [show b = s + 1 from by omega, ch_self, ch_0]
  | s + 1, a + 1, 0, h => by rw [show a + 1 = s + 1 from by omega, ch_self, ch_0]
  | s + 1, a + 1, b + 1, h => by
    rw [ch, ch, ch_sym s a (b + 1) (by omega), ch_sym s (a + 1) b (by omega)]; omega

theorem sets_L {n k : Nat} (hn : n ≤ 1024) (hk : k ≤ n) : ∀ (r j f1 f2 : Nat), j + r = min k (n - k) → r < f1 → r < f2 → ch n j ≤ 4096 →
    ∃ c d, cuckoo_sets_L1 (n : Int) (k : Int) f1 ((ch n j : Nat) : Int) ((j + 1 : Nat) : Int) = some c ∧ ref19_sets_L1 (n : Int) (k : Int) f2 ((ch n j : Nat) : Int) (j : Int) = some d ∧ ((4096 < c ∧ 4096 < d) ∨ (c = ((ch n k : Nat) : Int) ∧ d = c ∧ c ≤ 4096))
  | 0, j, f1, f2, hj, h1, h2, hc => by
    obtain ⟨f1, rfl⟩ : ∃ i, f1 = i + 1 := ⟨f1 - 1, by omega⟩
    obtain ⟨f2, rfl⟩ : ∃ i, f2 = i + 1 := ⟨f2 - 1, by omega⟩
    have he : ch n j = ch n k := by
      by_cases hh : k ≤ n - k
      · rw [show j = k from by omega]
      · rw [show j = n - k from by omega]; exact ch_sym n (n - k) k (by omega)
    refine ⟨((ch n j : Nat) : Int), ((ch n j : Nat) : Int), ?_, ?_, .inr ⟨by rw [he], rfl, by omega⟩⟩
    · rw [cuckoo_sets_L1]; unfold cuckoo_sets_B1
      rw [w64_id (x := (n : Int) - k) (by omega) (by omega), if_neg (by omega)]
    · rw [ref19_sets_L1]; unfold ref19_sets_B1
      rw [w64_id (x := (n : Int) - k) (by omega) (by omega), if_neg (by omega)]
  | r + 1, j, f1, f2, hj, h1, h2, hc => by
    obtain ⟨f1, rfl⟩ : ∃ i, f1 = i + 1 := ⟨f1 - 1, by omega⟩
    obtain ⟨f2, rfl⟩ : ∃ i, f2 = i + 1 := ⟨f2 - 1, by omega⟩
    have hm := ch_mul n j
    have hbound : ch n j * (n - j) ≤ 4096 * 1024 := Nat.mul_le_mul hc (by omega)
    have hdiv : Int.tdiv (((ch n j * (n - j) : Nat) : Int)) ((j + 1 : Nat) : Int) = ((ch n (j + 1) : Nat) : Int) := by
      rw [← hm]
      rw [Int.tdiv_eq_ediv_of_nonneg (by omega)]
      rw [← Int.natCast_ediv, Nat.mul_div_cancel _ (by omega)]
    have hle : ch n (j + 1) ≤ ch n j * (n - j) := by rw [← hm]; exact Nat.le_mul_of_pos_right _ (by omega)
    have hmulI : ((ch n j : Nat) : Int) * ((n : Int) - j) = ((ch n j * (n - j) : Nat) : Int) := by
      rw [Int.natCast_mul]; congr 1; omega
    have hP : cuckoo_sets_L1 (n : Int) (k : Int) (f1 + 1) ((ch n j : Nat) : Int) ((j + 1 : Nat) : Int) = if 4096 < ((ch n (j + 1) : Nat) : Int) then some ((ch n (j + 1) : Nat) : Int) else cuckoo_sets_L1 (n : Int) (k : Int) f1 ((ch n (j + 1) : Nat) : Int) ((j + 1 + 1 : Nat) : Int) := by
      rw [cuckoo_sets_L1]; unfold cuckoo_sets_B1
      rw [w64_id (x := (n : Int) - k) (by omega) (by omega), if_pos (by omega), nz_ok (by omega)]
      simp only [Option.bind_some]
      rw [w64_id (x := (n : Int) - ((j + 1 : Nat) : Int)) (by omega) (by omega), w64_id (x := (n : Int) - ((j + 1 : Nat) : Int) + 1) (by omega) (by omega), show (n : Int) - ((j + 1 : Nat) : Int) + 1 = (n : Int) - j from by omega, hmulI, w64_id (x := ((ch n j * (n - j) : Nat) : Int)) (by omega) (by omega), hdiv, w64_id (x := ((ch n (j + 1) : Nat) : Int)) (by omega) (by omega), w64_id (x := ((j + 1 : Nat) : Int) + 1) (by omega) (by omega)]
      rfl
    have hR : ref19_sets_L1 (n : Int) (k : Int) (f2 + 1) ((ch n j : Nat) : Int) (j : Int) = if 4096 < ((ch n (j + 1) : Nat) : Int) then some 4097 else ref19_sets_L1 (n : Int) (k : Int) f2 ((ch n (j + 1) : Nat) : Int) ((j + 1 : Nat) : Int) := by
      rw [ref19_sets_L1]; unfold ref19_sets_B1
      rw [w64_id (x := (n : Int) - k) (by omega) (by omega), if_pos (by omega), w64_id (x := (j : Int) + 1) (by omega) (by omega), nz_ok (by omega)]
      simp only [Option.bind_some]
      rw [w64_id (x := (n : Int) - j) (by omega) (by omega), hmulI, w64_id (x := ((ch n j * (n - j) : Nat) : Int)) (by omega) (by omega), show (j : Int) + 1 = ((j + 1 : Nat) : Int) from by omega, hdiv, w64_id (x := ((ch n (j + 1) : Nat) : Int)) (by omega) (by omega)]
    by_cases hbig : 4096 < ((ch n (j + 1) : Nat) : Int)
    · rw [if_pos hbig] at hP hR
      exact ⟨_, _, hP, hR, .inl ⟨hbig, by omega⟩⟩
    · rw [if_neg hbig] at hP hR
      obtain ⟨c, d, e1, e2, h⟩ := sets_L hn hk r (j + 1) f1 f2 (by omega) (by omega) (by omega) (by omega)
      exact ⟨c, d, hP.trans e1, hR.trans e2, h⟩
theorem sets_ok {n k : Nat} (hn : n ≤ 1024) (hk : k ≤ n) : ∃ c d, cuckoo_sets n k = some c ∧ ref19_sets n k = some d ∧ ((4096 < c ∧ 4096 < d) ∨ (c = ((ch n k : Nat) : Int) ∧ d = c ∧ c ≤ 4096)) := by
  have := sets_L hn hk (min k (n - k)) 0 big big (by omega) (by simp only [big]; omega) (by simp only [big]; omega) (by rw [ch_0]; omega)
  rw [ch_0] at this
  exact this

/-- The sets behind a set. -/
def after (items : Nat) : List Int → List (List Int)
  | [] => []
  | x :: s => (after items s).map (x :: ·) ++ combos (s.length + 1) (rg (x.toNat + 1) (items - (x.toNat + 1)))

theorem combos_first {items : Nat} : ∀ (k lo m : Nat), k ≤ m → lo + m = items → combos k (rg lo m) = rg lo k :: after items (rg lo k)
  | 0, lo, m, _, _ => by cases m <;> rfl
  | k + 1, lo, m, hk, hm => by
    obtain ⟨m, rfl⟩ : ∃ i, m = i + 1 := ⟨m - 1, by omega⟩
    rw [rg, combos, combos_first (items := items) k (lo + 1) m (by omega) (by omega)]
    simp only [rg, after, List.map_cons, List.cons_append, rg_len, Int.toNat_natCast]
    rw [show items - (lo + 1) = m from by omega]
theorem after_last {items : Nat} : ∀ (j : Nat), j ≤ items → after items (rg (items - j) j) = []
  | 0, _ => rfl
  | j + 1, h => by
    rw [rg, after]
    simp only [Int.toNat_natCast, rg_len]
    rw [show items - (j + 1) + 1 = items - j from by omega, after_last j (by omega), combos_short _ _ (by rw [rg_len]; omega)]; rfl
theorem after_next {items : Nat} {y j : Nat} (h : y + j + 1 < items) : ∀ pre : List Int, after items (pre ++ (y : Int) :: rg (items - j) j) = (pre ++ rg (y + 1) (j + 1)) :: after items (pre ++ rg (y + 1) (j + 1))
  | [] => by
    simp only [List.nil_append]
    rw [after, after_last j (by omega)]
    simp only [Int.toNat_natCast, rg_len, List.map_nil, List.nil_append]
    exact combos_first (j + 1) (y + 1) _ (by omega) (by omega)
  | x :: pre => by
    simp only [List.cons_append]
    rw [after, after_next h pre, after]
    simp only [List.map_cons, List.cons_append, List.length_append, List.length_cons, rg_len]

/-- A set of numbers below items, in order. -/
def Up (items : Nat) : Nat → List Int → Prop
  | _, [] => True
  | lo, x :: s => ∃ n : Nat, x = n ∧ lo ≤ n ∧ n + s.length < items ∧ Up items (n + 1) s
theorem up_rg {items : Nat} : ∀ (n lo a : Nat), lo ≤ a → a + n ≤ items → Up items lo (rg a n)
  | 0, _, _, _, _ => trivial
  | n + 1, lo, a, h1, h2 => ⟨a, rfl, h1, by rw [rg_len]; omega, up_rg n (a + 1) (a + 1) (by omega) (by omega)⟩
theorem up_split {items : Nat} : ∀ (s : List Int) (lo : Nat), Up items lo s → s.length ≤ items → s = rg (items - s.length) s.length ∨ ∃ (pre : List Int) (y j : Nat), s = pre ++ (y : Int) :: rg (items - j) j ∧ y + j + 1 < items
  | [], _, _, _ => .inl rfl
  | x :: s, lo, ⟨n, e, h1, h2, h3⟩, hl => by
    simp only [List.length_cons] at hl
    subst e
    rcases up_split s (n + 1) h3 (by omega) with h | ⟨pre, y, j, h, h4⟩
    · by_cases hn : n + s.length + 1 = items
      · left
        simp only [List.length_cons, rg]
        rw [show items - (s.length + 1) = n from by omega, show n + 1 = items - s.length from by omega, ← h]
      · right
        exact ⟨[], n, s.length, by rw [← h]; rfl, by omega⟩
    · exact .inr ⟨(n : Int) :: pre, y, j, by rw [h]; rfl, h4⟩
theorem up_next {items y j : Nat} (h : y + j + 1 < items) : ∀ (pre : List Int) (lo : Nat), Up items lo (pre ++ (y : Int) :: rg (items - j) j) → Up items lo (pre ++ rg (y + 1) (j + 1))
  | [], lo, ⟨n, e, h1, _, _⟩ => up_rg (j + 1) lo (y + 1) (by omega) (by omega)
  | x :: pre, lo, ⟨n, e, h1, h2, h3⟩ => ⟨n, e, h1, by simpa [rg_len] using h2, up_next h pre (n + 1) h3⟩
theorem up_mem {items : Nat} : ∀ (s : List Int) (lo : Nat), Up items lo s → ∀ x ∈ s, 0 ≤ x ∧ x < items
  | [], _, _, x, hx => by cases hx
  | y :: s, lo, ⟨n, e, h1, h2, h3⟩, x, hx => by
    rcases List.mem_cons.1 hx with rfl | hx
    · omega
    · exact up_mem s (n + 1) h3 x hx

theorem lidx_app {a b : List Int} {i : Int} (h : (a.length : Int) ≤ i) : lidx (a ++ b) i = lidx b (i - a.length) := by
  unfold lidx
  rw [if_pos (by omega), if_pos (by omega), List.getElem?_append_right (by omega)]
  congr 1; omega
theorem lidx_rg : ∀ (n lo i : Nat), i < n → lidx (rg lo n) (i : Int) = some ((lo + i : Nat) : Int)
  | n + 1, lo, 0, _ => by unfold lidx; rw [if_pos (by omega)]; rfl
  | n + 1, lo, i + 1, h => by
    have := lidx_rg n (lo + 1) i (by omega)
    unfold lidx at this ⊢
    rw [if_pos (by omega)] at this ⊢
    rw [Int.toNat_natCast] at this ⊢
    rw [rg, List.getElem?_cons_succ, this]
    congr 2; omega
theorem lupd_app {a b : List Int} {x y : Int} : lupd (a ++ x :: b) (a.length : Int) y = some (a ++ y :: b) := by
  rw [lupd_ok (by omega) (by simp; omega)]
  rw [Int.toNat_natCast, List.set_append_right _ _ (by omega)]
  simp
theorem rg_snoc : ∀ (n lo : Nat), rg lo (n + 1) = rg lo n ++ [((lo + n : Nat) : Int)]
  | 0, lo => rfl
  | n + 1, lo => by
    rw [rg, rg_snoc n (lo + 1)]
    simp only [rg, List.cons_append]
    congr 3; omega

theorem back_L {items size : Nat} (hi : items ≤ 1024) (kx : Int → Int → Option (Int × Int × Int)) (B : Int) {pre : List Int} {y j : Nat} (h : y + j + 1 < items) (hs : pre.length + 1 + j = size) (hsz : size ≤ items) : ∀ (i fuel : Nat), i ≤ j → i < fuel →
    ref19_Failures_L3 kx (items : Int) (size : Int) B (pre ++ (y : Int) :: rg (items - j) j) fuel ((pre.length + i : Nat) : Int) = kx (pre.length : Int) B
  | 0, fuel, _, hf => by
    obtain ⟨fuel, rfl⟩ : ∃ k, fuel = k + 1 := ⟨fuel - 1, by omega⟩
    rw [ref19_Failures_L3]
    unfold ref19_Failures_B3
    rw [if_pos (by omega), lidx_app (by omega)]
    have : lidx ((y : Int) :: rg (items - j) j) (((pre.length + 0 : Nat) : Int) - pre.length) = some (y : Int) := by
      unfold lidx; rw [if_pos (by omega), show (((pre.length + 0 : Nat) : Int) - pre.length).toNat = 0 from by omega]; rfl
    rw [this]
    simp only [Option.bind_some]
    rw [w64_id (x := (items : Int) - size) (by omega) (by omega), w64_id (by omega) (by omega), decide_eq_false (by omega), if_neg (by simp)]
    simp
  | i + 1, fuel, hij, hf => by
    obtain ⟨fuel, rfl⟩ : ∃ k, fuel = k + 1 := ⟨fuel - 1, by omega⟩
    rw [ref19_Failures_L3]
    unfold ref19_Failures_B3
    rw [if_pos (by omega), lidx_app (by omega)]
    have : lidx ((y : Int) :: rg (items - j) j) (((pre.length + (i + 1) : Nat) : Int) - pre.length) = some ((items - j + i : Nat) : Int) := by
      have h1 := lidx_rg j (items - j) i (by omega)
      unfold lidx at h1 ⊢
      rw [if_pos (by omega)] at h1 ⊢
      rw [show (((pre.length + (i + 1) : Nat) : Int) - pre.length).toNat = i + 1 from by omega, List.getElem?_cons_succ]
      rwa [Int.toNat_natCast] at h1
    rw [this]
    simp only [Option.bind_some]
    rw [w64_id (x := (items : Int) - size) (by omega) (by omega), w64_id (by omega) (by omega), decide_eq_true (by omega), if_pos rfl, w64_id (by omega) (by omega), show ((pre.length + (i + 1) : Nat) : Int) - 1 = ((pre.length + i : Nat) : Int) from by omega]
    exact back_L hi kx B h hs hsz i fuel (by omega) (by omega)
theorem back_all {items size : Nat} (hi : items ≤ 1024) (kx : Int → Int → Option (Int × Int × Int)) (B : Int) (hsz : size ≤ items) : ∀ (i fuel : Nat), i ≤ size → i < fuel →
    ref19_Failures_L3 kx (items : Int) (size : Int) B (rg (items - size) size) fuel ((i : Int) - 1) = kx (-1) B
  | 0, fuel, _, hf => by
    obtain ⟨fuel, rfl⟩ : ∃ k, fuel = k + 1 := ⟨fuel - 1, by omega⟩
    rw [ref19_Failures_L3]
    unfold ref19_Failures_B3
    rw [if_neg (by omega)]
    simp
  | i + 1, fuel, hij, hf => by
    obtain ⟨fuel, rfl⟩ : ∃ k, fuel = k + 1 := ⟨fuel - 1, by omega⟩
    rw [ref19_Failures_L3]
    unfold ref19_Failures_B3
    rw [if_pos (by omega), show ((i + 1 : Nat) : Int) - 1 = (i : Int) from by omega, lidx_rg _ _ _ (by omega)]
    simp only [Option.bind_some]
    rw [w64_id (x := (items : Int) - size) (by omega) (by omega), w64_id (by omega) (by omega), decide_eq_true (by omega), if_pos rfl, w64_id (by omega) (by omega)]
    exact back_all hi kx B hsz i fuel (by omega) (by omega)

theorem fill_L {size : Nat} (hs : size ≤ 1024) (rec : Int → Int → List Int → Int → Option (Int × Int × Int)) (f i0 B : Int) (hi0 : 0 ≤ i0 ∧ i0 ≤ 100000) {pre : List Int} {y : Nat} (hy : y ≤ 1024) : ∀ (rest : List Int) (i fuel : Nat), pre.length + 1 + i + rest.length = size → rest.length < fuel →
    ref19_Failures_L1 rec f i0 (size : Int) B fuel ((pre.length + 1 + i : Nat) : Int) (pre ++ rg (y + 1) (1 + i) ++ rest) = rec f (i0 + 1) (pre ++ rg (y + 1) (1 + i + rest.length)) B
  | [], i, fuel, hl, hf => by
    obtain ⟨fuel, rfl⟩ : ∃ k, fuel = k + 1 := ⟨fuel - 1, by omega⟩
    simp only [List.length_nil] at hl
    rw [ref19_Failures_L1]
    unfold ref19_Failures_B1
    rw [if_neg (by omega), w64_id (by omega) (by omega)]
    simp
  | x :: rest, i, fuel, hl, hf => by
    obtain ⟨fuel, rfl⟩ : ∃ k, fuel = k + 1 := ⟨fuel - 1, by omega⟩
    simp only [List.length_cons] at hl hf
    rw [ref19_Failures_L1]
    unfold ref19_Failures_B1
    rw [if_pos (by omega), w64_id (x := ((pre.length + 1 + i : Nat) : Int) - 1) (by omega) (by omega)]
    have h1 : lidx (pre ++ rg (y + 1) (1 + i) ++ x :: rest) (((pre.length + 1 + i : Nat) : Int) - 1) = some ((y + 1 + i : Nat) : Int) := by
      have h2 := lidx_rg (1 + i) (y + 1) i (by omega)
      unfold lidx at h2 ⊢
      rw [if_pos (by omega)] at h2 ⊢
      rw [List.getElem?_append_left (by simp [rg_len]; omega), List.getElem?_append_right (by omega), show (((pre.length + 1 + i : Nat) : Int) - 1).toNat - pre.length = i from by omega]
      rwa [Int.toNat_natCast] at h2
    have h3 : lidx (pre ++ rg (y + 1) (1 + i) ++ x :: rest) ((pre.length + 1 + i : Nat) : Int) = some x := by
      unfold lidx
      rw [if_pos (by omega), Int.toNat_natCast, List.getElem?_append_right (by simp [rg_len]; omega)]
      rw [show pre.length + 1 + i - (pre ++ rg (y + 1) (1 + i)).length = 0 from by simp [rg_len]; omega]; rfl
    rw [h1, h3]
    simp only [Option.bind_some]
    rw [w64_id (x := ((y + 1 + i : Nat) : Int) + 1) (by omega) (by omega)]
    have h4 : lupd (pre ++ rg (y + 1) (1 + i) ++ x :: rest) ((pre.length + 1 + i : Nat) : Int) (((y + 1 + i : Nat) : Int) + 1) = some (pre ++ rg (y + 1) (1 + (i + 1)) ++ rest) := by
      have : ((pre.length + 1 + i : Nat) : Int) = ((pre ++ rg (y + 1) (1 + i)).length : Int) := by simp [rg_len]; omega
      rw [this, lupd_app]
      rw [show 1 + (i + 1) = (1 + i) + 1 from by omega, rg_snoc]
      simp only [List.append_assoc, List.singleton_append]
      congr 4; omega
    rw [h4]
    simp only [Option.bind_some]
    rw [w64_id (by omega) (by omega), show ((pre.length + 1 + i : Nat) : Int) + 1 = ((pre.length + 1 + (i + 1) : Nat) : Int) from by omega]
    rw [fill_L hs rec f i0 B hi0 hy rest (i + 1) fuel (by omega) (by omega)]
    simp only [List.length_cons]
    congr 3; omega

theorem rfail_L {h : Hsh} (hk : HshOK h) {items size : Nat} (hi : items ≤ 1024) (hsz : size ≤ items) {total : Nat} (ht : total ≤ 4096) : ∀ (R fuel : Nat) (s : List Int) (f i : Nat), (after items s).length = R → i + 1 + R = total → R < fuel → s.length = size → Up items 0 s → f ≤ i →
    ref19_Failures_L5 (items : Int) (size : Int) (total : Int) h.2 fuel (f : Int) (i : Int) s h.1 = some (((f + (s :: after items s).countP (bad h) : Nat) : Int), (total : Int), 0) := by
  intro R
  induction R with
  | zero | succ R ih =>
    intro fuel s f i hR hit hf hs hu hfi
    obtain ⟨fuel, rfl⟩ : ∃ k, fuel = k + 1 := ⟨fuel - 1, by omega⟩
    rw [ref19_Failures_L5]
    unfold ref19_Failures_B5
    rw [if_pos (by omega)]
    have hmem := up_mem s 0 hu
    have hasg : ∃ l e, ref19_Assign (h.1, h.2) s = some (l, e) ∧ (e ≠ 0 ↔ bad h s = true) := by
      have hb := hk.2.1
      have hit : ∀ n ∈ s, ItemOK n := fun n hn => by have := hmem n hn; unfold ItemOK; omega
      rcases assign_ok h s (by omega) with ⟨a, _⟩ | ⟨_, ⟨n, hn, a⟩, _⟩ | ⟨_, _, a, _, a2⟩ | ⟨_, _, a0, a1, _, a2⟩ | ⟨_, _, a0, a1, bk, fx, _, a2, _⟩
      · exact absurd hk a
      · exact absurd (hit n hn) a
      · exact ⟨_, _, a2, by rw [bad_iff]; simp [a]⟩
      · exact ⟨_, _, a2, by rw [bad_iff]; simp [a1]⟩
      · exact ⟨_, _, a2, by rw [bad_iff]; simp [a1]; omega⟩
    obtain ⟨l, e, ea, he⟩ := hasg
    rw [ea]
    simp only [Option.bind_some]
    have hgo : ∀ g : Nat, g ≤ i + 1 → ref19_Failures_J4 (ref19_Failures_L5 (items : Int) (size : Int) (total : Int) h.2 fuel) (i : Int) (items : Int) (size : Int) (total : Int) h.1 s (g : Int) = some (((g + (after items s).countP (bad h) : Nat) : Int), (total : Int), 0) := by
      intro g hg
      unfold ref19_Failures_J4
      rw [w64_id (by omega) (by omega)]
      rcases up_split s 0 hu (by omega) with h1 | ⟨pre, y, j, h1, h2⟩
      · rw [hs] at h1
        rw [h1, back_all hi _ h.1 hsz size big (by omega) (by simp only [big]; omega), after_last size hsz]
        unfold ref19_Failures_J2
        rw [if_pos (by omega)]
        simp
      · have hl : pre.length + 1 + j = size := by rw [← hs, h1]; simp [rg_len]; omega
        have hnx := after_next h2 pre
        have hb := back_L (pre := pre) hi (ref19_Failures_J2 (ref19_Failures_L5 (items : Int) (size : Int) (total : Int) h.2 fuel) (g : Int) (i : Int) (size : Int) (total : Int) s) h.1 h2 hl hsz j big (by omega) (by simp only [big]; omega)
        rw [show ((pre.length + j : Nat) : Int) = (size : Int) - 1 from by omega, ← h1] at hb
        rw [hb]
        unfold ref19_Failures_J2
        rw [if_neg (by omega)]
        have h3 : lidx s (pre.length : Int) = some (y : Int) := by
          rw [h1, lidx_app (by omega)]
          unfold lidx; rw [if_pos (by omega), show ((pre.length : Int) - pre.length).toNat = 0 from by omega]; rfl
        rw [h3]
        simp only [Option.bind_some]
        rw [w64_id (x := (y : Int) + 1) (by omega) (by omega), h1, lupd_app]
        simp only [Option.bind_some]
        rw [w64_id (by omega) (by omega)]
        have hfl := fill_L (size := size) (by omega) (ref19_Failures_L5 (items : Int) (size : Int) (total : Int) h.2 fuel) (g : Int) (i : Int) h.1 (by omega) (pre := pre) (y := y) (by omega) (rg (items - j) j) 0 big (by rw [rg_len]; omega) (by rw [rg_len]; simp only [big]; omega)
        simp only [Nat.add_zero, rg_len] at hfl
        have e1 : pre ++ rg (y + 1) 1 ++ rg (items - j) j = pre ++ ((y : Int) + 1) :: rg (items - j) j := by simp [rg]
        rw [e1, show ((pre.length + 1 : Nat) : Int) = (pre.length : Int) + 1 from by omega] at hfl
        rw [hfl, Nat.add_comm 1 j]
        have hup := up_next h2 pre 0 (by rw [← h1]; exact hu)
        rw [← h1] at hnx ⊢
        rw [hnx] at hR ⊢
        first
          | (exfalso; simp at hR; done)
          | (have := ih fuel (pre ++ rg (y + 1) (j + 1)) g (i + 1) (by simpa using hR) (by omega) (by omega) (by simp [rg_len]; omega) hup (by omega)
             rw [show ((i + 1 : Nat) : Int) = (i : Int) + 1 from by omega] at this
             rw [this])
    rw [List.countP_cons]
    by_cases hb : bad h s = true
    · rw [if_pos (he.2 hb), w64_id (by omega) (by omega), show (f : Int) + 1 = ((f + 1 : Nat) : Int) from by omega, hgo (f + 1) (by omega), if_pos hb]
      congr 3; omega
    · rw [if_neg (fun h => hb (he.1 h)), hgo f (by omega), if_neg hb]
      congr 3

theorem build_set {size : Nat} (hs : size ≤ 1024) (kx : List Int → Int → Option (Int × Int × Int)) (B : Int) : ∀ (r n fuel : Nat), n + r = size → r < fuel → ref19_Failures_L7 kx (size : Int) B fuel (rg 0 n) (n : Int) = kx (rg 0 size) B
  | 0, n, fuel, hn, hf => by
    obtain ⟨fuel, rfl⟩ : ∃ k, fuel = k + 1 := ⟨fuel - 1, by omega⟩
    rw [ref19_Failures_L7]
    unfold ref19_Failures_B7
    rw [if_neg (by omega), show n = size from by omega]
  | r + 1, n, fuel, hn, hf => by
    obtain ⟨fuel, rfl⟩ : ∃ k, fuel = k + 1 := ⟨fuel - 1, by omega⟩
    rw [ref19_Failures_L7]
    unfold ref19_Failures_B7
    rw [if_pos (by omega), lapp_ok (by simp [rg_len]; omega)]
    simp only [Option.bind_some]
    have := rg_snoc n 0
    rw [Nat.zero_add] at this
    rw [← this, w64_id (by omega) (by omega), show (n : Int) + 1 = ((n + 1 : Nat) : Int) from by omega]
    exact build_set hs kx B r (n + 1) fuel (by omega) (by omega)

theorem fails_same (h : Hsh) (a b : Int) : ∃ r, cuckoo_Failures h a b = some r ∧ ref19_Failures h a b = some r := by
  rcases check_ok h with ⟨e, hk⟩ | ⟨e, _⟩
  · by_cases hr : (((a < 0) ∨ (1024 < a)) ∨ (b < 0)) ∨ (a < b)
    · refine ⟨(0, 0, 1), ?_, ?_⟩
      · unfold cuckoo_Failures; rw [e]; simp only [Option.bind_some]; rw [if_neg (by simp), if_pos hr]
      · unfold ref19_Failures; rw [rcheck, e]; simp only [Option.bind_some]; rw [if_neg (by simp), if_pos hr]
    · obtain ⟨n, rfl⟩ : ∃ n : Nat, a = n := ⟨a.toNat, by omega⟩
      obtain ⟨k, rfl⟩ : ∃ k : Nat, b = k := ⟨b.toNat, by omega⟩
      have hn : n ≤ 1024 := by omega
      have hkn : k ≤ n := by omega
      obtain ⟨c, d, e1, e2, ⟨h1, h2⟩ | ⟨h1, h2, h3⟩⟩ := sets_ok hn hkn
      · refine ⟨(0, 0, 4), ?_, ?_⟩
        · unfold cuckoo_Failures; rw [e]; simp only [Option.bind_some]; rw [if_neg (by simp), if_neg hr, e1]; simp only [Option.bind_some]; rw [if_pos h1]
        · unfold ref19_Failures; rw [rcheck, e]; simp only [Option.bind_some]; rw [if_neg (by simp), if_neg hr, e2]; simp only [Option.bind_some]; rw [if_pos h2]
      · have hlen : (combos k (rg 0 n)).length = ch n k := by rw [combos_len, rg_len]
        have hF := failures_ok hk hn hkn e1 h3 (by rw [hlen]; omega)
        refine ⟨_, hF, ?_⟩
        unfold ref19_Failures
        rw [rcheck, e]
        simp only [Option.bind_some]
        rw [if_neg (by simp), if_neg hr, e2]
        simp only [Option.bind_some]
        rw [if_neg (by omega)]
        have hbs := build_set (size := k) (by omega) (ref19_Failures_J6 (n : Int) (k : Int) d h.2) h.1 k 0 big (by omega) (by simp only [big]; omega)
        rw [show rg 0 0 = [] from rfl, show ((0 : Nat) : Int) = 0 from rfl] at hbs
        rw [hbs]
        unfold ref19_Failures_J6
        have hcf := combos_first (items := n) k 0 n hkn (by omega)
        have hla : (after n (rg 0 k)).length + 1 = ch n k := by rw [← hlen, hcf]; simp
        have := rfail_L hk hn hkn (total := ch n k) (by omega) (after n (rg 0 k)).length big (rg 0 k) 0 0 rfl (by omega) (by simp only [big]; omega) (rg_len _ _) (up_rg _ _ _ (by omega) (by omega)) (by omega)
        rw [h2, h1]
        rw [show ((0 : Nat) : Int) = 0 from rfl] at this
        rw [this, hlen, hcf, Nat.zero_add]
  · refine ⟨(0, 0, 2), ?_, ?_⟩
    · unfold cuckoo_Failures; rw [e]; simp only [Option.bind_some]; rw [if_pos (by simp)]
    · unfold ref19_Failures; rw [rcheck, e]; simp only [Option.bind_some]; rw [if_pos (by simp)]

theorem failsL1 (rec : Int → Int → Option Bool) (h : Hsh) (z w : Int) (ok : rec z w = some true) : ∀ l : List (Int × Int), law19_CuckooFails_L1 rec h.1 h.2 z w l = some true
  | [] => ok
  | x :: l => by
    rw [law19_CuckooFails_L1]
    unfold law19_CuckooFails_B1
    rw [failsL1 rec h z w ok l]
    split
    · rfl
    · obtain ⟨r, e1, e2⟩ := fails_same h x.1 x.2
      rw [show (h.1, h.2) = h from rfl, e1, e2]
      simp only [Option.bind_some]
      rw [if_neg (by simp)]
theorem failsL2 (a b : Int) : ∀ (l : List Hsh) (z w : Int), law19_CuckooFails_L2 a b l z w = some true
  | [], _, _ => rfl
  | h :: l, z, w => by
    rw [law19_CuckooFails_L2]
    unfold law19_CuckooFails_B2
    rw [mod_big (by omega) (by omega), mod_big (by omega) (by omega), mod_big (by omega) (by omega), mod_big (by omega) (by omega)]
    simp only [Option.bind_some]
    exact failsL1 _ h z w (failsL2 a b l z w) _

theorem law_fails (t : List Int) (raw : Hsh) (a b : Int) : law19_CuckooFails t raw a b = some true := by
  unfold law19_CuckooFails make_Few make_New
  rw [sane19, Option.bind_some, if_neg (by simp), Option.bind_some]
  by_cases hf : (!decide ((t.length : Int) ≤ 500)) = true ∨ 20 < (raw.2.length : Int)
  · rw [if_pos hf]
  · rw [if_neg hf]
    have hl : (t.length : Int) ≤ 500 := by
      by_cases h : (t.length : Int) ≤ 500
      · exact h
      · exact absurd (.inl (by simp [h])) hf
    obtain ⟨h, e1, k1, hk, h8, d1⟩ := hashing_ok (l := t) (by omega) (d := (t, 0)) ⟨rfl, by omega, by omega⟩
    rw [Option.bind_some, k1, Option.bind_some]
    exact failsL2 a b _ _ _
end Go.Proofs.Ytbhmhindommaeaa
