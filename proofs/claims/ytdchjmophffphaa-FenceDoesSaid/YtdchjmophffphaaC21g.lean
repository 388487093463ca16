/- Chapter 21, plain: probes, the law FenceFinds. -/
import Derived.Test.YtdchjmophffphaaC21f
namespace Go.Proofs.Ytdchjmophffphaa

theorem stepsI_ok2 {n b : Int} (h : 1 ≤ n ∧ n ≤ 256) (h2 : 2 ≤ b ∧ b ≤ 8) : stepsI n b = ((st b n : Int), 0) := by unfold stepsI; rw [if_pos ⟨h, h2⟩]

/-- A block. -/
def blk (n : Nat) (l : List ByteArray) (t : Nat) : List ByteArray := (l.drop (t * n)).take n
theorem blk_sub {n : Nat} {l : List ByteArray} {t : Nat} (hn : n ≤ 8) (hl : l.length ≤ 1000) (ht : t * n ≤ l.length) (ht2 : t ≤ 1000) : lsub l (w64 ((t : Int) * (n : Int))) (min (w64 (w64 ((t : Int) + 1) * (n : Int))) (l.length : Int)) = some (blk n l t) := by
  have e1 : (t : Int) * (n : Int) = ((t * n : Nat) : Int) := by simp
  have e2 : ((t : Int) + 1) * (n : Int) = ((t * n + n : Nat) : Int) := by rw [Int.add_mul]; simp
  rw [e1, w64_id (x := ((t * n : Nat) : Int)) (by omega) (by omega), w64_id (x := (t : Int) + 1) (by omega) (by omega), e2, w64_id (x := ((t * n + n : Nat) : Int)) (by omega) (by omega), lsub_ok (by omega) (by omega) (by omega)]
  congr 1
  unfold blk
  rw [Int.toNat_natCast]
  rcases Nat.le_total (t * n + n) l.length with h | h
  · congr 1; omega
  · rw [List.take_of_length_le (by simp; omega), List.take_of_length_le (by simp; omega)]
theorem blk_sub' {n : Nat} {l : List ByteArray} {t : Nat} (hn : n ≤ 8) (hl : l.length ≤ 1000) (ht : t * n ≤ l.length) (ht2 : t ≤ 1000) : lsub l (w64 ((t : Int) * (n : Int))) (min (l.length : Int) (w64 (w64 ((t : Int) + 1) * (n : Int)))) = some (blk n l t) := by
  rw [Int.min_comm]; exact blk_sub hn hl ht ht2
theorem blk_len (n : Nat) (l : List ByteArray) (t : Nat) : (blk n l t).length = min n (l.length - t * n) := by simp [blk]
theorem blk_gd {n : Nat} {l : List ByteArray} {t j : Nat} (h : j < n) : gd (blk n l t) j = gd l (t * n + j) := by
  simp [blk, gd, List.getD_eq_getElem?_getD, List.getElem?_take_of_lt h]
theorem blk_asc {n : Nat} {l : List ByteArray} (h : AscP l) (t : Nat) : AscP (blk n l t) := by
  refine asc_of (fun i hi => ?_) (fun i hi => ?_)
  · rw [blk_len] at hi
    rw [blk_gd (by omega)]
    exact (h _ (by omega)).1
  · rw [blk_len] at hi
    rw [blk_gd (by omega), blk_gd (by omega)]
    exact asc_lt h (by omega) (by omega)
theorem blk_top {n : Nat} {l : List ByteArray} (h : l.length ≤ n) : blk n l 0 = l := by
  unfold blk
  rw [Nat.zero_mul, List.drop_zero, List.take_of_length_le h]
theorem blk_up {n : Nat} (hn : 1 ≤ n) {l : List ByteArray} (h : AscP l) (hl : 1 ≤ l.length) (w : ByteArray) : lastN (up n l) w (up n l).length * n < l.length ∧
    lastN (up n l) w (up n l).length * n + lastN (blk n l (lastN (up n l) w (up n l).length)) w (blk n l (lastN (up n l) w (up n l).length)).length = lastN l w l.length := by
  obtain ⟨r, h1, h2, h3⟩ := partk h w l.length (Nat.le_refl _)
  obtain ⟨q, g1, g2, g3⟩ := partk (asc_up hn h) w (up n l).length (Nat.le_refl _)
  rw [lastN_eq h2 _ h1 h3, lastN_eq g2 _ g1 g3]
  rw [up_len] at g1 g3
  have hc0 : 0 < chN l.length n := (chN_iff hn).2 (by omega)
  have a1 : q ≠ 0 → (q - 1) * n < r := fun hq => by
    have h4 := g2 (q - 1) (by omega)
    rw [up_gd (by omega)] at h4
    rcases Nat.lt_or_ge ((q - 1) * n) r with h5 | h5
    · exact h5
    · exact absurd (h3 _ h5 ((chN_iff hn).1 (by omega))) h4
  have a2 : r ≤ q * n := by
    rcases Nat.lt_or_ge q (chN l.length n) with h4 | h4
    · have h5 := g3 q (Nat.le_refl _) h4
      rw [up_gd h4] at h5
      rcases Nat.lt_or_ge (q * n) r with h6 | h6
      · exact absurd h5 (h2 _ h6)
      · exact h6
    · have : ¬ q * n < l.length := fun h5 => by have := (chN_iff hn).2 h5; omega
      omega
  have a3 : q ≠ 0 → q * n = (q - 1) * n + n := fun hq => by
    obtain ⟨p, rfl⟩ : ∃ p, q = p + 1 := ⟨q - 1, by omega⟩
    rw [Nat.add_sub_cancel, Nat.add_mul, Nat.one_mul]
  have a4 : q = 0 → r = 0 := fun hq => by rw [hq, Nat.zero_mul] at a2; omega
  have a5 : q = 0 → (q - 1) * n = 0 := fun hq => by rw [hq]; simp
  refine ⟨by by_cases hq : q = 0
             · have := a5 hq; omega
             · have := a1 hq; omega, ?_⟩
  have e := lastN_eq (l := blk n l (q - 1)) (w := w) (r := r - (q - 1) * n) (fun k hk => by
      have hk2 : k < n := by by_cases hq : q = 0
                             · have := a4 hq; omega
                             · have := a3 hq; omega
      rw [blk_gd hk2]; exact h2 _ (by omega)) (blk n l (q - 1)).length (by
      rw [blk_len]
      by_cases hq : q = 0
      · have := a4 hq; omega
      · have := a3 hq; omega) (fun k hk hk2 => by
      rw [blk_len] at hk2
      rw [blk_gd (by omega)]; exact h3 _ (by omega) (by omega))
  rw [e]
  by_cases hq : q = 0
  · have := a4 hq; have := a5 hq; omega
  · have := a1 hq; omega

/-- Where the probe stands below level m. -/
def pos (L : List (List ByteArray)) (w : ByteArray) (m : Nat) : Nat := if L.length ≤ m then 0 else lastN (gl L m) w (gl L m).length
/-- The blocks that are asked for. -/
def trl (L : List (List ByteArray)) (w : ByteArray) : Nat → List Int
  | 0 => []
  | m + 1 => (pos L w (m + 1) : Int) :: trl L w m
theorem trl_len (L : List (List ByteArray)) (w : ByteArray) : ∀ m, (trl L w m).length = m
  | 0 => rfl
  | m + 1 => by simp [trl, trl_len L w m]

/-- Levels, each made of the one below. -/
structure Twr (n : Nat) (L : List (List ByteArray)) : Prop where
  n2 : 2 ≤ n
  n8 : n ≤ 8
  len : 1 ≤ L.length ∧ L.length ≤ 300
  step : ∀ i, i + 1 < L.length → n < (gl L i).length ∧ gl L (i + 1) = up n (gl L i)
  top : (gl L (L.length - 1)).length ≤ n
  asc : ∀ i, i < L.length → AscP (gl L i) ∧ 1 ≤ (gl L i).length ∧ (gl L i).length ≤ 256
theorem st_256 {n : Nat} (hn : 2 ≤ n) {x : Int} (hx : x ≤ 256) : st n x ≤ 256 := (st_le (b := n) (n := x) (by omega) hx 256 (by omega)).2 (by
  have e : ∀ j : Nat, (2 : Int) ^ j ≤ (n : Int) ^ j := fun j => by
    induction j with
    | zero => simp
    | succ j ih =>
      rw [Int.pow_succ, Int.pow_succ]
      have p1 : 0 < (2 : Int) ^ j := Int.pow_pos (by omega)
      exact Int.mul_le_mul ih (by omega) (by omega) (by omega)
  have := e 256
  have : (256 : Int) ≤ 2 ^ 256 := by decide
  omega)
theorem twr {n : Nat} (hn : 2 ≤ n ∧ n ≤ 8) {l : List ByteArray} (hl : 1 ≤ l.length ∧ l.length ≤ 256) (h : AscP l) : Twr n (tow n l) :=
  ⟨hn.1, hn.2, by rw [tow_len hn.1]; have := st_256 hn.1 (x := l.length) (by omega); have := st_pos n l.length; omega, (tow_ok hn.1 256 l hl.2).1, (tow_ok hn.1 256 l hl.2).2, tow_asc hn.1 hl h⟩

theorem pos_step {n : Nat} {L : List (List ByteArray)} (h : Twr n L) (w : ByteArray) {m : Nat} (hm : m < L.length) : pos L w (m + 1) * n < (gl L m).length ∧ pos L w (m + 1) * n + lastN (blk n (gl L m) (pos L w (m + 1))) w (blk n (gl L m) (pos L w (m + 1))).length = pos L w m ∧ pos L w (m + 1) ≤ 256 := by
  have ha := h.asc m hm
  unfold pos
  rw [if_neg (by omega : ¬ L.length ≤ m)]
  by_cases h1 : L.length ≤ m + 1
  · rw [if_pos h1]
    have ht := h.top
    rw [show L.length - 1 = m by omega] at ht
    rw [blk_top ht, Nat.zero_mul]
    exact ⟨by omega, by omega, by omega⟩
  · rw [if_neg h1, (h.step m (by omega)).2]
    obtain ⟨b1, b2⟩ := blk_up (by have := h.n2; omega : 1 ≤ n) ha.1 ha.2.1 w
    refine ⟨b1, b2, ?_⟩
    have hn := h.n2
    have := Nat.mul_le_mul_left (lastN (up n (gl L m)) w (up n (gl L m)).length) hn
    omega
theorem pos_lt {n : Nat} {L : List (List ByteArray)} (h : Twr n L) (w : ByteArray) (m : Nat) : pos L w m ≤ 256 := by
  unfold pos
  split
  · omega
  · have ha := h.asc m (by omega)
    have := lastN_le (gl L m) w _ ha.2.1
    omega

/-- The levels from above. -/
def bk (L : List (List ByteArray)) : Nat → List (Int × List ByteArray)
  | 0 => []
  | m + 1 => ((m : Int), gl L m) :: bk L m
theorem back_L (L : List (List ByteArray)) (hL : L.length ≤ 100000) : ∀ (f m : Nat), m ≤ L.length → m < f → slices_Backward_LLstringLstring_f1_L1 L f ((m : Int) - 1) = some (bk L m)
  | 0, m, _, h => by omega
  | f + 1, m, h1, h2 => by
    show slices_Backward_LLstringLstring_f1_B1 L (slices_Backward_LLstringLstring_f1_L1 L f) _ = _
    unfold slices_Backward_LLstringLstring_f1_B1
    cases m with
    | zero => rw [if_neg (by omega)]; rfl
    | succ m =>
      rw [if_pos (by omega), show (((m + 1 : Nat) : Int) - 1) = (m : Int) by omega, lidx_nat [] (by omega)]
      simp only [Option.bind_some]
      rw [w64_id (by omega) (by omega), back_L L hL f m (by omega) (by omega)]
      rfl
theorem back_eq (L : List (List ByteArray)) (hL : L.length ≤ 100000) : slices_Backward_LLstringLstring L = some (bk L L.length) := by
  unfold slices_Backward_LLstringLstring slices_Backward_LLstringLstring_f1
  rw [w64_id (by omega) (by omega), back_L L hL big L.length (Nat.le_refl _) (by simp only [big]; omega)]; rfl

theorem probe_L {n : Nat} {L : List (List ByteArray)} (h : Twr n L) (w : ByteArray) (kx : List Int → Int → Option ((List Int) × Int × Bool × Int)) : ∀ (m : Nat) (acc : List Int), m ≤ L.length → acc.length + m ≤ 1000 →
    fence_Probe_L2 kx (n : Int) w (bk L m) acc (pos L w m : Int) = kx (acc ++ trl L w m) (pos L w 0 : Int)
  | 0, acc, _, _ => by simp [bk, trl, fence_Probe_L2]
  | m + 1, acc, h1, h2 => by
    show fence_Probe_B2 kx (n : Int) w (fence_Probe_L2 kx (n : Int) w (bk L m)) ((m : Int), gl L m) acc _ = _
    unfold fence_Probe_B2 fence_blockOf
    obtain ⟨p1, p2, p3⟩ := pos_step h w (by omega : m < L.length)
    have ha := h.asc m (by omega)
    have hn8 := h.n8
    rw [lapp_ok (by simp; omega)]
    dsimp only
    rw [blk_sub hn8 (by omega) (by omega) (by omega)]
    simp only [Option.bind_some]
    rw [last_eq (by rw [blk_len]; omega) (blk_asc ha.1 _)]
    simp only [Option.bind_some]
    have e1 : (pos L w (m + 1) : Int) * (n : Int) = ((pos L w (m + 1) * n : Nat) : Int) := by simp
    have e2 := pos_lt h w m
    rw [e1, w64_id (x := ((pos L w (m + 1) * n : Nat) : Int)) (by omega) (by omega), w64_id (by omega) (by omega), show ((pos L w (m + 1) * n : Nat) : Int) + (lastN (blk n (gl L m) (pos L w (m + 1))) w (blk n (gl L m) (pos L w (m + 1))).length : Int) = (pos L w m : Int) by omega]
    rw [probe_L h w kx m _ (by omega) (by simp; omega)]
    simp [trl]

/-- Probe. -/
def probeI (f : Int × List ByteArray) (w : ByteArray) : List Int × Int × Bool × Int :=
  if ¬ FenP f then ([], 0, false, 2) else if ¬ KeyP w then ([], 0, false, 1)
  else (trl (tow f.1.toNat f.2) w (tow f.1.toNat f.2).length, lastN f.2 w f.2.length, decide (gd f.2 (lastN f.2 w f.2.length) = w), 0)
theorem probeI_1 {f : Int × List ByteArray} {w : ByteArray} (h : ¬ FenP f) : probeI f w = ([], 0, false, 2) := by unfold probeI; rw [if_pos h]
theorem probeI_2 {f : Int × List ByteArray} {w : ByteArray} (h : FenP f) (h2 : ¬ KeyP w) : probeI f w = ([], 0, false, 1) := by unfold probeI; rw [if_neg (fun h3 => h3 h), if_pos h2]
theorem probeI_3 {f : Int × List ByteArray} {w : ByteArray} (h : FenP f) (h2 : KeyP w) : probeI f w = (trl (tow f.1.toNat f.2) w (tow f.1.toNat f.2).length, (lastN f.2 w f.2.length : Int), decide (gd f.2 (lastN f.2 w f.2.length) = w), 0) := by unfold probeI; rw [if_neg (fun h3 => h3 h), if_neg (fun h3 => h3 h2)]
theorem pos_0 (n : Nat) (l : List ByteArray) (w : ByteArray) : pos (tow n l) w 0 = lastN l w l.length := by
  unfold pos; rw [if_neg (by unfold tow; simp)]; rfl
theorem pos_top (L : List (List ByteArray)) (w : ByteArray) : pos L w L.length = 0 := by unfold pos; rw [if_pos (Nat.le_refl _)]
theorem fprobe_eq (f : Int × List ByteArray) (w : ByteArray) : fence_Probe f w = some (probeI f w) := by
  unfold fence_Probe
  rw [check_eq, proper_eq]
  simp only [Option.bind_some]
  by_cases hf : FenP f
  · rw [if_pos hf, if_neg (show ¬ ((0 : Int) ≠ 0) by decide)]
    by_cases hk : KeyP w
    · rw [if_neg (nb_t hk), probeI_3 hf hk]
      have hb := hf.1
      obtain ⟨b, l⟩ := f
      dsimp only at hb ⊢
      obtain ⟨n, rfl⟩ : ∃ n : Nat, b = n := ⟨b.toNat, by omega⟩
      rw [Int.toNat_natCast, levels_eq (by omega) hb.2.2]
      simp only [Option.bind_some]
      have T := twr (n := n) (by omega) hb.2 hf.2
      rw [show l :: lvs n 256 l = tow n l from rfl, back_eq _ (by have := T.len; omega)]
      simp only [Option.bind_some]
      have hP := probe_L T w (fence_Probe_J1 w l) (tow n l).length [] (Nat.le_refl _) (by have := T.len; simp; omega)
      rw [pos_top, pos_0] at hP
      rw [show (0 : Int) = ((0 : Nat) : Int) from rfl, hP]
      unfold fence_Probe_J1
      have := lastN_le l w _ hb.2.1
      rw [lidx_nat .empty (by omega)]
      rfl
    · rw [if_pos (nb_f hk), probeI_2 hf hk]
  · rw [if_neg hf, if_pos (show (2 : Int) ≠ 0 by decide), probeI_1 hf]

theorem finds_L {n : Nat} {L : List (List ByteArray)} (h : Twr n L) {w : ByteArray} (hw : KeyP w) (kx : Int → Int → Int → Option Bool) (z : Int) : ∀ (m : Nat), m ≤ L.length →
    law21_FenceFinds_L2 kx (L.length : Int) w z (n : Int) L (trl L w m) (L.length - m) (pos L w m : Int) = kx (pos L w 0 : Int) z n
  | 0, _ => rfl
  | m + 1, h1 => by
    show law21_FenceFinds_B2 kx (L.length : Int) w z (n : Int) L (law21_FenceFinds_L2 kx (L.length : Int) w z (n : Int) L (trl L w m) (L.length - (m + 1) + 1)) (pos L w (m + 1) : Int) (L.length - (m + 1)) _ = _
    unfold law21_FenceFinds_B2
    obtain ⟨p1, p2, p3⟩ := pos_step h w (by omega : m < L.length)
    have ha := h.asc m (by omega)
    have hn8 := h.n8
    have hn2 := h.n2
    have hL := h.len
    rw [if_neg (fun h => h rfl), w64_id (x := (L.length : Int) - 1) (by omega) (by omega), w64_id (x := (L.length : Int) - 1 - ((L.length - (m + 1) : Nat) : Int)) (by omega) (by omega), show (L.length : Int) - 1 - ((L.length - (m + 1) : Nat) : Int) = (m : Int) by omega, lidx_nat [] (by omega)]
    simp only [Option.bind_some]
    rw [blk_sub' (l := gl L m) hn8 (by omega) (by omega) (by omega)]
    simp only [Option.bind_some]
    rw [fnext_eq _ _ _ (by rw [blk_len]; omega), nextI_3 (by omega) (by omega) hw (by rw [blk_len]; omega) (blk_asc ha.1 _)]
    simp only [Option.bind_some]
    rw [if_neg (fun h => h rfl)]
    have e1 : (pos L w (m + 1) : Int) * (n : Int) + (lastN (blk n (gl L m) (pos L w (m + 1))) w (blk n (gl L m) (pos L w (m + 1))).length : Int) = (pos L w m : Int) := by
      rw [show (pos L w (m + 1) : Int) * (n : Int) = ((pos L w (m + 1) * n : Nat) : Int) by simp]; omega
    rw [e1, show L.length - (m + 1) + 1 = L.length - m by omega]
    exact finds_L h hw kx z m (by omega)

theorem keys_L (kx : Bool → Int → Int → Option Bool) (w : ByteArray) (p z1 z2 : Int) {l : List ByteArray} (hp : ∀ i : Nat, i < l.length → p < i → sLt w (gd l i)) : ∀ (xs : List ByteArray) (i : Nat) (b : Bool), l.drop i = xs →
    law21_FenceFinds_L4 kx w p z1 z2 xs i b = kx (b || xs.any fun x => decide (x = w)) z1 z2
  | [], i, b, _ => by simp [law21_FenceFinds_L4]
  | x :: xs, i, b, h => by
    obtain ⟨hi, rfl⟩ := drop_gd h
    show law21_FenceFinds_B4 kx w p z1 z2 (law21_FenceFinds_L4 kx w p z1 z2 xs (i + 1)) (gd l i) i b = _
    unfold law21_FenceFinds_B4
    rw [if_neg (fun h2 => h2.1 (hp i hi h2.2)), keys_L kx w p z1 z2 hp xs (i + 1) _ (drop_succ h), List.any_cons, ← Bool.or_assoc]
    congr 2
    rw [Bool.eq_iff_iff]
    simp only [Bool.or_eq_true, decide_eq_true_eq]

theorem found {l : List ByteArray} (h : AscP l) (w : ByteArray) : (∀ i, i < l.length → lastN l w l.length < i → sLt w (gd l i)) ∧ (sLt w (gd l (lastN l w l.length)) → lastN l w l.length = 0) ∧ ∀ i, i < l.length → gd l i = w → i = lastN l w l.length := by
  obtain ⟨r, h1, h2, h3⟩ := partk h w l.length (Nat.le_refl _)
  rw [lastN_eq h2 _ h1 h3]
  refine ⟨fun i hi h4 => h3 i (by omega) hi, fun h4 => ?_, fun i hi h4 => ?_⟩
  · rcases Nat.eq_zero_or_pos r with h5 | h5
    · omega
    · exact absurd h4 (h2 _ (by omega))
  · have h5 : i < r := by
      rcases Nat.lt_or_ge i r with h6 | h6
      · exact h6
      · have := h3 i h6 hi
        rw [h4] at this
        exact absurd this (sLt_irr w)
    rcases Nat.lt_or_ge i (r - 1) with h6 | h6
    · have h7 := asc_lt h h6 (by omega)
      rw [h4] at h7
      exact absurd h7 (h2 _ (by omega))
    · omega

theorem ffinds_L {n : Nat} {l : List ByteArray} (hF : FenP ((n : Int), l)) (z : Int) : ∀ (xs : List ByteArray), (∀ x ∈ xs, KeyP x) → law21_FenceFinds_L5 ((tow n l).length : Int) l (tow n l) xs z (n : Int) = some true
  | [], _ => rfl
  | w :: xs, hw => by
    show law21_FenceFinds_B5 ((tow n l).length : Int) l (tow n l) (law21_FenceFinds_L5 ((tow n l).length : Int) l (tow n l) xs) w z n = _
    unfold law21_FenceFinds_B5
    have hk := hw w (List.mem_cons_self ..)
    have hb := hF.1
    dsimp only at hb
    have T := twr (n := n) (by omega) hb.2 hF.2
    have hlt := lastN_le l w _ hb.2.1
    rw [fprobe_eq, probeI_3 hF hk]
    simp only [Option.bind_some, Int.toNat_natCast]
    rw [trl_len, if_neg (show ¬ ((((0 : Int) ≠ 0 ∨ ((tow n l).length : Int) ≠ ((tow n l).length : Int)) ∨ (lastN l w l.length : Int) < 0) ∨ (l.length : Int) ≤ (lastN l w l.length : Int)) by omega), lidx_nat .empty (by omega)]
    simp only [Option.bind_some]
    rw [if_neg (by simp)]
    obtain ⟨f1, f2, f3⟩ := found hF.2 w
    dsimp only at f1 f2 f3
    rw [keys_L _ w _ z n (fun i hi h => f1 i hi (by omega)) l 0 false rfl]
    unfold law21_FenceFinds_J3
    have e1 : (false || l.any fun x => decide (x = w)) = decide (gd l (lastN l w l.length) = w) := by
      rw [Bool.false_or, Bool.eq_iff_iff, List.any_eq_true]
      simp only [decide_eq_true_eq]
      constructor
      · rintro ⟨x, hx, rfl⟩
        obtain ⟨i, hi, hx⟩ := List.getElem_of_mem hx
        have hg : gd l i = x := by rw [← hx]; simp [gd, List.getD_eq_getElem?_getD, hi]
        rw [← f3 i hi hg]; exact hg
      · intro h
        refine ⟨_, ?_, h⟩
        have : gd l (lastN l w l.length) = l[lastN l w l.length]'(by omega) := by simp [gd, List.getD_eq_getElem?_getD, show lastN l w l.length < l.length by omega]
        rw [this]; exact List.getElem_mem _
    rw [e1, if_neg (fun h => h rfl), lidx_nat .empty (by omega)]
    simp only [Option.bind_some]
    rw [if_neg (by
      rw [decide_eq_true_eq]
      rintro ⟨h1, h2⟩
      have := f2 h1
      omega)]
    have hP := finds_L T hk (law21_FenceFinds_J1 (law21_FenceFinds_L5 ((tow n l).length : Int) l (tow n l) xs) (lastN l w l.length : Int)) z (tow n l).length (Nat.le_refl _)
    rw [pos_top, pos_0, Nat.sub_self] at hP
    rw [show (0 : Int) = ((0 : Nat) : Int) from rfl, hP]
    unfold law21_FenceFinds_J1
    rw [if_neg (fun h => h rfl)]
    exact ffinds_L hF z xs (fun x hx => hw x (List.mem_cons_of_mem _ hx))

theorem law_finds {x0 : List Int} : law21_FenceFinds x0 = some true := by
  unfold law21_FenceFinds
  rw [sane21, few_eq]
  simp only [Option.bind_some]
  rw [if_neg (by simp)]
  by_cases hl : x0.length ≤ 500
  · rw [if_neg (nb_t hl)]
    show (some (x0, (0 : Int))).bind _ = _
    simp only [Option.bind_some]
    obtain ⟨⟨b, l⟩, e, hf, hF, _, h25, hwd, hd⟩ := fence_ok (l := x0) (by omega) (d := (x0, 0)) ⟨rfl, by dsimp only; omega, by dsimp only; omega⟩
    rw [hf]
    have hb := hF.1
    dsimp only at hb h25 hwd
    simp only [Option.bind_some, flevels_eq, levelsI, steps_eq]
    rw [if_pos hF]
    dsimp only
    obtain ⟨n, rfl⟩ : ∃ n : Nat, b = n := ⟨b.toNat, by omega⟩
    rw [stepsI_ok2 (by omega) (by omega), Int.toNat_natCast, ← tow_len (by omega)]
    rw [if_neg (by simp)]
    obtain ⟨vs, e2, v1, v2, v3, v4, v5⟩ := words_ok (l := x0) (by omega) hd (n := 6) (by omega)
    rw [v1]
    simp only [Option.bind_some]
    rw [lapp_ok (by omega)]
    simp only [Option.bind_some]
    exact ffinds_L hF _ _ (fun x hx => by
      rcases List.mem_append.1 hx with h | h
      · have := v4 x h; unfold Wd at this; unfold KeyP; omega
      · obtain ⟨i, hi, rfl⟩ := List.getElem_of_mem h
        have := hwd i hi
        have e : gd l i = l[i] := by simp [gd, List.getD_eq_getElem?_getD, hi]
        rw [e] at this
        unfold Wd at this; unfold KeyP; omega)
  · rw [if_pos (nb_f hl)]
end Go.Proofs.Ytdchjmophffphaa
