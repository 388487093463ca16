/- What the proof needs, gathered by wip/gen/shake.py. -/
import Derived.Calls
import Derived.Deep.Quiet
import Derived.Below
import Derived.Laws.AppendOwn
import Derived.WalkKit
import Derived.Laws.OwnMore
import Derived.Deep.Slices
import Derived.ChangeOld
import Derived.ArgAppend
import Derived.RangeFuncIn
import Derived.RangeFuncRecord
import Derived.RangeFuncLeaves
import Derived.Laws.MakeOwn
import Derived.IntWalk
import Derived.Laws.IdiomStrings
import Derived.Laws.Cover3
import Derived.Laws.CopyOwn
import Derived.MapKept
import Derived.RangeFuncNested
import Derived.Test.YtmfppphlhgneeaaRows
import Derived.ProofKit
import Derived.OpenShut
import Derived.ShutString
import Derived.Test.YtmfppphlhgneeaaLookupWalksQ5

section
namespace Go.Proofs.Ytmfppphlhgneeaa
def blk (n : Nat) (l : List ByteArray) (t : Nat) : List ByteArray := (l.drop (t * n)).take n
theorem blk_sub {n : Nat} {l : List ByteArray} {t : Nat} (hn : n ≤ 8) (hl : l.length ≤ 1000) (ht : t * n ≤ l.length) (ht2 : t ≤ 1000) : lsub l (w64 ((t : Int) * (n : Int))) (min (w64 (w64 ((t : Int) + 1) * (n : Int))) (l.length : Int)) = some (blk n l t) := by
  have e1 : (t : Int) * (n : Int) = ((t * n : Nat) : Int) := by simp
  have e2 : ((t : Int) + 1) * (n : Int) = ((t * n + n : Nat) : Int) := by rw [Int.add_mul]; simp
  rw [e1, w64_id (x := ((t * n : Nat) : Int)) (by omega) (by omega), w64_id (x := (t : Int) + 1) (by omega) (by omega), e2, w64_id (x := ((t * n + n : Nat) : Int)) (by omega) (by omega), lsub_ok (by omega) (by omega) (by omega)]
  congr 1
  unfold blk
  rw [Int.toNat_natCast]
  rcases Nat.le_total (t * n + n) l.length with h | h
  · congr 1; omega
  · rw [List.take_of_length_le (by simp; omega), List.take_of_length_le (by simp; omega)]
theorem blk_len (n : Nat) (l : List ByteArray) (t : Nat) : (blk n l t).length = min n (l.length - t * n) := by simp [blk]
theorem blk_gd {n : Nat} {l : List ByteArray} {t j : Nat} (h : j < n) : gd (blk n l t) j = gd l (t * n + j) := by
  simp [blk, gd, List.getD_eq_getElem?_getD, List.getElem?_take_of_lt h]
theorem blk_asc {n : Nat} {l : List ByteArray} (h : AscP l) (t : Nat) : AscP (blk n l t) := by
  refine asc_of (fun i hi => ?_) (fun i hi => ?_)
  · rw [blk_len] at hi
    rw [blk_gd (by omega)]
    exact (h _ (by omega)).1
  · rw [blk_len] at hi
    rw [blk_gd (by omega), blk_gd (by omega)]
    exact asc_lt h (by omega) (by omega)
theorem blk_top {n : Nat} {l : List ByteArray} (h : l.length ≤ n) : blk n l 0 = l := by
  unfold blk
  rw [Nat.zero_mul, List.drop_zero, List.take_of_length_le h]
theorem blk_up {n : Nat} (hn : 1 ≤ n) {l : List ByteArray} (h : AscP l) (hl : 1 ≤ l.length) (w : ByteArray) : lastN (up n l) w (up n l).length * n < l.length ∧
    lastN (up n l) w (up n l).length * n + lastN (blk n l (lastN (up n l) w (up n l).length)) w (blk n l (lastN (up n l) w (up n l).length)).length = lastN l w l.length := by
  obtain ⟨r, h1, h2, h3⟩ := partk h w l.length (Nat.le_refl _)
  obtain ⟨q, g1, g2, g3⟩ := partk (asc_up hn h) w (up n l).length (Nat.le_refl _)
  rw [lastN_eq h2 _ h1 h3, lastN_eq g2 _ g1 g3]
  rw [up_len] at g1 g3
  have hc0 : 0 < chN l.length n := (chN_iff hn).2 (by omega)
  have a1 : q ≠ 0 → (q - 1) * n < r := fun hq => by
    have h4 := g2 (q - 1) (by omega)
    rw [up_gd (by omega)] at h4
    rcases Nat.lt_or_ge ((q - 1) * n) r with h5 | h5
    · exact h5
    · exact absurd (h3 _ h5 ((chN_iff hn).1 (by omega))) h4
  have a2 : r ≤ q * n := by
    rcases Nat.lt_or_ge q (chN l.length n) with h4 | h4
    · have h5 := g3 q (Nat.le_refl _) h4
      rw [up_gd h4] at h5
      rcases Nat.lt_or_ge (q * n) r with h6 | h6
      · exact absurd h5 (h2 _ h6)
      · exact h6
    · have : ¬ q * n < l.length := fun h5 => by have := (chN_iff hn).2 h5; omega
      omega
  have a3 : q ≠ 0 → q * n = (q - 1) * n + n := fun hq => by
    obtain ⟨p, rfl⟩ : ∃ p, q = p + 1 := ⟨q - 1, by omega⟩
    rw [Nat.add_sub_cancel, Nat.add_mul, Nat.one_mul]
  have a4 : q = 0 → r = 0 := fun hq => by rw [hq, Nat.zero_mul] at a2; omega
  have a5 : q = 0 → (q - 1) * n = 0 := fun hq => by rw [hq]; simp
  refine ⟨by by_cases hq : q = 0
             · have := a5 hq; omega
             · have := a1 hq; omega, ?_⟩
  have e := lastN_eq (l := blk n l (q - 1)) (w := w) (r := r - (q - 1) * n) (fun k hk => by
      have hk2 : k < n := by by_cases hq : q = 0
                             · have := a4 hq; omega
                             · have := a3 hq; omega
      rw [blk_gd hk2]; exact h2 _ (by omega)) (blk n l (q - 1)).length (by
      rw [blk_len]
      by_cases hq : q = 0
      · have := a4 hq; omega
      · have := a3 hq; omega) (fun k hk hk2 => by
      rw [blk_len] at hk2
      rw [blk_gd (by omega)]; exact h3 _ (by omega) (by omega))
  rw [e]
  by_cases hq : q = 0
  · have := a4 hq; have := a5 hq; omega
  · have := a1 hq; omega
def pos (L : List (List ByteArray)) (w : ByteArray) (m : Nat) : Nat := if L.length ≤ m then 0 else lastN (gl L m) w (gl L m).length
def trl (L : List (List ByteArray)) (w : ByteArray) : Nat → List Int
  | 0 => []
  | m + 1 => (pos L w (m + 1) : Int) :: trl L w m
theorem trl_len (L : List (List ByteArray)) (w : ByteArray) : ∀ m, (trl L w m).length = m
  | 0 => rfl
  | m + 1 => by simp [trl, trl_len L w m]
structure Twr (n : Nat) (L : List (List ByteArray)) : Prop where
  n2 : 2 ≤ n
  n8 : n ≤ 8
  len : 1 ≤ L.length ∧ L.length ≤ 300
  step : ∀ i, i + 1 < L.length → n < (gl L i).length ∧ gl L (i + 1) = up n (gl L i)
  top : (gl L (L.length - 1)).length ≤ n
  asc : ∀ i, i < L.length → AscP (gl L i) ∧ 1 ≤ (gl L i).length ∧ (gl L i).length ≤ 256
theorem st_256 {n : Nat} (hn : 2 ≤ n) {x : Int} (hx : x ≤ 256) : st n x ≤ 256 := (st_le (b := n) (n := x) (by omega) hx 256 (by omega)).2 (by
  have e : ∀ j : Nat, (2 : Int) ^ j ≤ (n : Int) ^ j := fun j => by
    induction j with
    | zero => simp
    | succ j ih =>
      rw [Int.pow_succ, Int.pow_succ]
      have p1 : 0 < (2 : Int) ^ j := Int.pow_pos (by omega)
      exact Int.mul_le_mul ih (by omega) (by omega) (by omega)
  have := e 256
  have : (256 : Int) ≤ 2 ^ 256 := by decide
  omega)
theorem twr {n : Nat} (hn : 2 ≤ n ∧ n ≤ 8) {l : List ByteArray} (hl : 1 ≤ l.length ∧ l.length ≤ 256) (h : AscP l) : Twr n (tow n l) :=
  ⟨hn.1, hn.2, by rw [tow_len hn.1]; have := st_256 hn.1 (x := l.length) (by omega); have := st_pos n l.length; omega, (tow_ok hn.1 256 l hl.2).1, (tow_ok hn.1 256 l hl.2).2, tow_asc hn.1 hl h⟩
theorem pos_step {n : Nat} {L : List (List ByteArray)} (h : Twr n L) (w : ByteArray) {m : Nat} (hm : m < L.length) : pos L w (m + 1) * n < (gl L m).length ∧ pos L w (m + 1) * n + lastN (blk n (gl L m) (pos L w (m + 1))) w (blk n (gl L m) (pos L w (m + 1))).length = pos L w m ∧ pos L w (m + 1) ≤ 256 := by
  have ha := h.asc m hm
  unfold pos
  rw [if_neg (by omega : ¬ L.length ≤ m)]
  by_cases h1 : L.length ≤ m + 1
  · rw [if_pos h1]
    have ht := h.top
    rw [show L.length - 1 = m by omega] at ht
    rw [blk_top ht, Nat.zero_mul]
    exact ⟨by omega, by omega, by omega⟩
  · rw [if_neg h1, (h.step m (by omega)).2]
    obtain ⟨b1, b2⟩ := blk_up (by have := h.n2; omega : 1 ≤ n) ha.1 ha.2.1 w
    refine ⟨b1, b2, ?_⟩
    have hn := h.n2
    have := Nat.mul_le_mul_left (lastN (up n (gl L m)) w (up n (gl L m)).length) hn
    omega
theorem pos_lt {n : Nat} {L : List (List ByteArray)} (h : Twr n L) (w : ByteArray) (m : Nat) : pos L w m ≤ 256 := by
  unfold pos
  split
  · omega
  · have ha := h.asc m (by omega)
    have := lastN_le (gl L m) w _ ha.2.1
    omega
def bk (L : List (List ByteArray)) : Nat → List (Int × List ByteArray)
  | 0 => []
  | m + 1 => ((m : Int), gl L m) :: bk L m
theorem bkw_L (L : List (List ByteArray)) (hL : L.length ≤ 100000) : ∀ (f m : Nat), m ≤ L.length → m < f → slices_Backward_LLstringLstring_f1_L1 L f ((m : Int) - 1) = some (bk L m)
  | 0, m, _, h => by omega
  | f + 1, m, h1, h2 => by
    show slices_Backward_LLstringLstring_f1_B1 L (slices_Backward_LLstringLstring_f1_L1 L f) _ = _
    unfold slices_Backward_LLstringLstring_f1_B1
    cases m with
    | zero => rw [if_neg (by omega)]; rfl
    | succ m =>
      rw [if_pos (by omega), show (((m + 1 : Nat) : Int) - 1) = (m : Int) by omega, lidx_nat [] (by omega)]
      simp only [Option.bind_some]
      rw [w64_id (by omega) (by omega), bkw_L L hL f m (by omega) (by omega)]
      rfl
theorem back_eq (L : List (List ByteArray)) (hL : L.length ≤ 100000) : slices_Backward_LLstringLstring L = some (bk L L.length) := by
  unfold slices_Backward_LLstringLstring slices_Backward_LLstringLstring_f1
  rw [w64_id (by omega) (by omega), bkw_L L hL big L.length (Nat.le_refl _) (by simp only [big]; omega)]; rfl
theorem probe_L {n : Nat} {L : List (List ByteArray)} (h : Twr n L) (w : ByteArray) (kx : List Int → Int → Option ((List Int) × Int × Bool × Int)) : ∀ (m : Nat) (acc : List Int), m ≤ L.length → acc.length + m ≤ 1000 →
    fence_Probe_L2 kx (n : Int) w (bk L m) acc (pos L w m : Int) = kx (acc ++ trl L w m) (pos L w 0 : Int)
  | 0, acc, _, _ => by simp [bk, trl, fence_Probe_L2]
  | m + 1, acc, h1, h2 => by
    show fence_Probe_B2 kx (n : Int) w (fence_Probe_L2 kx (n : Int) w (bk L m)) ((m : Int), gl L m) acc _ = _
    unfold fence_Probe_B2 fence_blockOf
    obtain ⟨p1, p2, p3⟩ := pos_step h w (by omega : m < L.length)
    have ha := h.asc m (by omega)
    have hn8 := h.n8
    rw [lapp_ok (by simp; omega)]
    dsimp only
    rw [blk_sub hn8 (by omega) (by omega) (by omega)]
    simp only [Option.bind_some]
    rw [last_eq (by rw [blk_len]; omega) (blk_asc ha.1 _)]
    simp only [Option.bind_some]
    have e1 : (pos L w (m + 1) : Int) * (n : Int) = ((pos L w (m + 1) * n : Nat) : Int) := by simp
    have e2 := pos_lt h w m
    rw [e1, w64_id (x := ((pos L w (m + 1) * n : Nat) : Int)) (by omega) (by omega), w64_id (by omega) (by omega), show ((pos L w (m + 1) * n : Nat) : Int) + (lastN (blk n (gl L m) (pos L w (m + 1))) w (blk n (gl L m) (pos L w (m + 1))).length : Int) = (pos L w m : Int) by omega]
    rw [probe_L h w kx m _ (by omega) (by simp; omega)]
    simp [trl]
def probeI (f : Int × List ByteArray) (w : ByteArray) : List Int × Int × Bool × Int :=
  if ¬ FenP f then ([], 0, false, 2) else if ¬ KeyP w then ([], 0, false, 1)
  else (trl (tow f.1.toNat f.2) w (tow f.1.toNat f.2).length, lastN f.2 w f.2.length, decide (gd f.2 (lastN f.2 w f.2.length) = w), 0)
theorem probeI_1 {f : Int × List ByteArray} {w : ByteArray} (h : ¬ FenP f) : probeI f w = ([], 0, false, 2) := by unfold probeI; rw [if_pos h]
theorem probeI_2 {f : Int × List ByteArray} {w : ByteArray} (h : FenP f) (h2 : ¬ KeyP w) : probeI f w = ([], 0, false, 1) := by unfold probeI; rw [if_neg (fun h3 => h3 h), if_pos h2]
theorem probeI_3 {f : Int × List ByteArray} {w : ByteArray} (h : FenP f) (h2 : KeyP w) : probeI f w = (trl (tow f.1.toNat f.2) w (tow f.1.toNat f.2).length, (lastN f.2 w f.2.length : Int), decide (gd f.2 (lastN f.2 w f.2.length) = w), 0) := by unfold probeI; rw [if_neg (fun h3 => h3 h), if_neg (fun h3 => h3 h2)]
theorem pos_0 (n : Nat) (l : List ByteArray) (w : ByteArray) : pos (tow n l) w 0 = lastN l w l.length := by
  unfold pos; rw [if_neg (by unfold tow; simp)]; rfl
theorem pos_top (L : List (List ByteArray)) (w : ByteArray) : pos L w L.length = 0 := by unfold pos; rw [if_pos (Nat.le_refl _)]
theorem fprobe_eq (f : Int × List ByteArray) (w : ByteArray) : fence_Probe f w = some (probeI f w) := by
  unfold fence_Probe
  rw [check_eq, proper_eq]
  simp only [Option.bind_some]
  by_cases hf : FenP f
  · rw [if_pos hf, if_neg (show ¬ ((0 : Int) ≠ 0) by decide)]
    by_cases hk : KeyP w
    · rw [if_neg (nb_t hk), probeI_3 hf hk]
      have hb := hf.1
      obtain ⟨b, l⟩ := f
      dsimp only at hb ⊢
      obtain ⟨n, rfl⟩ : ∃ n : Nat, b = n := ⟨b.toNat, by omega⟩
      rw [Int.toNat_natCast, levels_eq (by omega) hb.2.2]
      simp only [Option.bind_some]
      have T := twr (n := n) (by omega) hb.2 hf.2
      rw [show l :: lvs n 256 l = tow n l from rfl, back_eq _ (by have := T.len; omega)]
      simp only [Option.bind_some]
      have hP := probe_L T w (fence_Probe_J1 w l) (tow n l).length [] (Nat.le_refl _) (by have := T.len; simp; omega)
      rw [pos_top, pos_0] at hP
      rw [show (0 : Int) = ((0 : Nat) : Int) from rfl, hP]
      unfold fence_Probe_J1
      have := lastN_le l w _ hb.2.1
      rw [lidx_nat .empty (by omega)]
      rfl
    · rw [if_pos (nb_f hk), probeI_2 hf hk]
  · rw [if_neg hf, if_pos (show (2 : Int) ≠ 0 by decide), probeI_1 hf]
theorem found {l : List ByteArray} (h : AscP l) (w : ByteArray) : (∀ i, i < l.length → lastN l w l.length < i → sLt w (gd l i)) ∧ (sLt w (gd l (lastN l w l.length)) → lastN l w l.length = 0) ∧ ∀ i, i < l.length → gd l i = w → i = lastN l w l.length := by
  obtain ⟨r, h1, h2, h3⟩ := partk h w l.length (Nat.le_refl _)
  rw [lastN_eq h2 _ h1 h3]
  refine ⟨fun i hi h4 => h3 i (by omega) hi, fun h4 => ?_, fun i hi h4 => ?_⟩
  · rcases Nat.eq_zero_or_pos r with h5 | h5
    · omega
    · exact absurd h4 (h2 _ (by omega))
  · have h5 : i < r := by
      rcases Nat.lt_or_ge i r with h6 | h6
      · exact h6
      · have := h3 i h6 hi
        rw [h4] at this
        exact absurd this (sLt_irr w)
    rcases Nat.lt_or_ge i (r - 1) with h6 | h6
    · have h7 := asc_lt h h6 (by omega)
      rw [h4] at h7
      exact absurd h7 (h2 _ (by omega))
    · omega
end Go.Proofs.Ytmfppphlhgneeaa
end

section
namespace Go.Proofs.Ytmfppphlhgneeaa
theorem rup_L {n : Nat} (hn : 2 ≤ n ∧ n ≤ 8) (kx : List ByteArray → Int → Option ((List (List ByteArray)) × Int)) {l : List ByteArray} (hl : l.length ≤ 1000) : ∀ (f k : Nat) (acc : List ByteArray), k ≤ chN l.length n → chN l.length n - k < f → acc.length + (chN l.length n - k) ≤ 10000 →
    ref21_Levels_L2 kx l (n : Int) f acc ((k * n : Nat) : Int) = kx (acc ++ (List.range (chN l.length n - k)).map fun t => gd l ((k + t) * n)) n
  | 0, k, _, _, h, _ => by omega
  | f + 1, k, acc, h1, h2, h3 => by
    show ref21_Levels_B2 kx l (n : Int) (ref21_Levels_L2 kx l (n : Int) f) acc _ = _
    unfold ref21_Levels_B2
    have hi := chN_iff (L := l.length) (k := k) (n := n) (by omega)
    split
    · have hk : k < chN l.length n := hi.2 (by omega)
      rw [lidx_nat .empty (by omega)]
      simp only [Option.bind_some]
      rw [lapp_ok (by simp; omega)]
      simp only [Option.bind_some]
      have e2 : ((k * n : Nat) : Int) + (n : Int) = (((k + 1) * n : Nat) : Int) := by rw [Nat.add_mul]; omega
      rw [w64_id (by omega) (by omega), e2, rup_L hn kx hl f (k + 1) _ (by omega) (by omega) (by simp; omega), range_from (fun t => gd l (t * n)) hk]
      simp
    · have hk : ¬ k < chN l.length n := fun h => by have := hi.1 h; omega
      rw [show chN l.length n - k = 0 by omega]; simp
theorem rlevels_L {n : Nat} (hn : 2 ≤ n ∧ n ≤ 8) : ∀ (f k : Nat) (l : List ByteArray) (acc : List (List ByteArray)), l.length ≤ k → l.length < f → acc.length + l.length ≤ 1000 →
    ref21_Levels_L3 f l acc (n : Int) = some (acc ++ lvs n k l, 0)
  | 0, k, l, acc, h1, h2, h3 => by omega
  | f + 1, k, l, acc, h1, h2, h3 => by
    show ref21_Levels_B3 (ref21_Levels_L3 f) l acc (n : Int) = _
    unfold ref21_Levels_B3
    split
    · rename_i h
      cases k with
      | zero => omega
      | succ k =>
        have hc := chN_lt hn.1 (by omega : n < l.length)
        have := rup_L hn (ref21_Levels_J1 (ref21_Levels_L3 f) acc) (l := l) (by omega) big 0 [] (by omega) (by simp only [big]; omega) (by simp; omega)
        rw [Nat.zero_mul] at this
        rw [show (0 : Int) = ((0 : Nat) : Int) from rfl, this]
        unfold ref21_Levels_J1
        simp only [List.nil_append, Nat.sub_zero, Nat.zero_add]
        rw [show ((List.range (chN l.length n)).map fun t => gd l (t * n)) = up n l from rfl, lapp_ok (by simp; omega)]
        simp only [Option.bind_some]
        rw [rlevels_L hn f k (up n l) (acc ++ [up n l]) (by rw [up_len]; omega) (by rw [up_len]; omega) (by simp [up_len]; omega)]
        simp only [lvs]
        rw [if_neg (by omega)]
        simp
    · cases k with
      | zero => simp [lvs]
      | succ k => simp only [lvs]; rw [if_pos (by omega)]; simp
theorem rlevels_eq (f : Int × List ByteArray) : ref21_Levels f = some (levelsI f) := by
  unfold ref21_Levels levelsI
  rw [rcheck_eq]
  simp only [Option.bind_some]
  by_cases hf : FenP f
  · rw [if_pos hf, if_neg (show ¬ ((0 : Int) ≠ 0) by decide), if_pos hf]
    have hb := hf.1
    rw [lapp_ok (by simp; omega)]
    simp only [Option.bind_some, List.nil_append]
    have := rlevels_L (n := f.1.toNat) (by omega) big 256 f.2 [f.2] hb.2.2 (by simp only [big]; omega) (by simp; omega)
    rw [show ((f.1.toNat : Nat) : Int) = f.1 by omega] at this
    rw [this]; rfl
  · rw [if_neg hf, if_pos (show (2 : Int) ≠ 0 by decide), if_neg hf]
end Go.Proofs.Ytmfppphlhgneeaa
end

section
namespace Go.Proofs.Ytmfppphlhgneeaa
set_option linter.unusedVariables false
def DiceOK (d : List Int × Int) : Prop := 0 ≤ d.2 ∧ d.2 ≤ 1000 ∧ d.1.length ≤ 300 ∧ ∀ x ∈ d.1, 0 ≤ x ∧ x ≤ 255
theorem dpick {d : List Int × Int} (hd : DiceOK d) {n : Int} (hn : 1 ≤ n) : ∃ v e, play_Dice_Pick d n = some (v, e) ∧ 0 ≤ v ∧ v < n ∧ DiceOK e := by
  obtain ⟨h1, h2, h3, h4⟩ := hd
  unfold play_Dice_Pick
  by_cases hl : (d.1.length : Int) ≤ d.2
  · rw [if_pos hl]; exact ⟨0, d, rfl, by omega, by omega, h1, h2, h3, h4⟩
  · rw [if_neg hl, w64_id (x := d.2 + 1) (by omega) (by omega), show d.2 + 1 - 1 = d.2 from by omega, w64_id (x := d.2) (by omega) (by omega), lidx_ok 0 h1 (by omega), Option.bind_some, nz_ok (by omega), Option.bind_some]
    generalize hx : d.1.getD d.2.toNat 0 = x
    have hm : x ∈ d.1 := by
      rw [← hx, List.getD_eq_getElem?_getD, List.getElem?_eq_getElem (by omega)]
      exact List.getElem_mem _
    have hxr := h4 x hm
    rw [w64_id (x := x) (by omega) (by omega)]
    exact ⟨_, _, rfl, Int.tmod_nonneg _ (by omega), Int.tmod_lt_of_pos _ (by omega), by dsimp only; omega, by dsimp only; omega, h3, h4⟩
theorem dnew {t : List Int} (ht : ∀ x ∈ t, 0 ≤ x ∧ x ≤ 255) : ∃ d, play_New t = some d ∧ DiceOK d := by
  unfold play_New play_New_J1
  by_cases hl : 300 < (t.length : Int)
  · rw [if_pos hl, lsub_ok (by omega) (by omega) (by omega), Option.bind_some]
    refine ⟨_, rfl, by dsimp only; omega, by dsimp only; omega, ?_, fun x hx => ht x ?_⟩
    · simp; omega
    · simp only [Int.toNat_zero, List.drop_zero] at hx
      exact List.mem_of_mem_take hx
  · rw [if_neg hl]
    exact ⟨_, rfl, by dsimp only; omega, by dsimp only; omega, by dsimp only; omega, ht⟩
end Go.Proofs.Ytmfppphlhgneeaa
end

section
namespace Go.Proofs.Ytmfppphlhgneeaa
set_option linter.unusedVariables false
set_option maxRecDepth 100000
theorem lmk_ok {α : Type} {n : Int} {z : α} (h0 : 0 ≤ n) (h1 : n ≤ 16777216) : lmk n z = some (List.replicate n.toNat z) := by unfold lmk; rw [if_pos ⟨h0, h1⟩]
theorem sane35 : law35_sane = some true := by kernel_rfl
def kys : Nat → List ByteArray
  | 0 => []
  | i + 1 => kys i ++ [(ofB ([(wu8 (97 + (wu8 (w64 (2 * (i : Int))))))] : List Int))]
theorem kys_len : ∀ n, (kys n).length = n
  | 0 => rfl
  | n + 1 => by simp [kys, kys_len n]
theorem kys_asc1 : ((List.range 13).all fun n => (fence_ascend (kys n)) == some true) = true := by kernel_rfl
theorem kys_asc {n : Nat} (hn : n ≤ 12) : AscP (kys n) := by
  have h := List.all_eq_true.1 kys_asc1 n (List.mem_range.2 (by omega))
  rw [ascend_eq (by rw [kys_len]; omega)] at h
  have h2 : decide (AscP (kys n)) = true := by simpa using h
  exact of_decide_eq_true h2
theorem dfen_L (z : Int) : ∀ (m fuel : Nat) (d : List Int × Int) (i : Nat), i + m = 12 → m < fuel → DiceOK d →
    ∃ n e, law35_fence_L2 law35_fence_J1 z fuel (i : Int) (kys i) d.1 d.2 = some ((z, kys n), e) ∧ i ≤ n ∧ n ≤ 12 ∧ (i = 0 → 1 ≤ n) ∧ DiceOK e
  | m, 0, _, _, _, h, _ => by omega
  | m, fuel + 1, d, i, hi, hf, hd => by
    rw [law35_fence_L2]
    unfold law35_fence_B2
    obtain ⟨v, e1, h1, a1, b1, c1⟩ := dpick (d := (d.1, d.2)) hd (n := 12) (by omega)
    rw [h1, Option.bind_some]
    dsimp only
    rw [w64_id (x := 1 + v) (by omega) (by omega)]
    split
    · rename_i hlt
      rw [lapp_ok (by simp [kys_len]; omega), Option.bind_some, w64_id (x := (i : Int) + 1) (by omega) (by omega)]
      cases m with
      | zero => omega
      | succ m =>
        obtain ⟨n, e, k1, k2, k3, k4, k5⟩ := dfen_L z m fuel e1 (i + 1) (by omega) (by omega) c1
        exact ⟨n, e, k1, by omega, k3, fun _ => by omega, k5⟩
    · rename_i hlt
      exact ⟨i, e1, rfl, by omega, by omega, fun h => by omega, c1⟩
theorem dfen {d : List Int × Int} (hd : DiceOK d) : ∃ f e, law35_fence d = some (f, e) ∧ FenP f ∧ f.2.length ≤ 12 ∧ DiceOK e := by
  unfold law35_fence
  obtain ⟨v, e1, h1, a1, b1, c1⟩ := dpick hd (n := 3) (by omega)
  rw [h1, Option.bind_some]
  dsimp only
  rw [w64_id (x := 2 + v) (by omega) (by omega)]
  obtain ⟨n, e, k1, k2, k3, k4, k5⟩ := dfen_L (2 + v) 12 big e1 0 rfl (by simp only [big]; omega) c1
  have h0 := k4 rfl
  refine ⟨_, e, k1, ⟨⟨by dsimp only; omega, by dsimp only; rw [kys_len]; omega, by dsimp only; rw [kys_len]; omega⟩, kys_asc k3⟩, by dsimp only; rw [kys_len]; omega, k5⟩
def sN (n : Nat) : List (List ByteArray) → Nat
  | [] => 0
  | x :: xs => chN x.length n + sN n xs
theorem sN_drop {n : Nat} {L : List (List ByteArray)} {i : Nat} (h : i < L.length) : sN n (L.drop i) = chN (gl L i).length n + sN n (L.drop (i + 1)) := by
  rw [List.drop_eq_getElem_cons h]
  show chN _ n + _ = _
  rw [show gl L i = L[i] by unfold gl; rw [List.getD_eq_getElem?_getD, List.getElem?_eq_getElem h]; rfl]
theorem sN_le {n : Nat} (hn : 1 ≤ n) : ∀ (L : List (List ByteArray)), (∀ x ∈ L, x.length ≤ 256) → sN n L ≤ 256 * L.length
  | [], _ => by simp [sN]
  | x :: xs, h => by
    have h1 := sN_le hn xs fun y hy => h y (List.mem_cons_of_mem _ hy)
    have h2 := h x List.mem_cons_self
    have h3 := chN_le (L := x.length) hn
    simp only [sN, List.length_cons]
    omega
theorem gl_mem {L : List (List ByteArray)} {x : List ByteArray} (h : x ∈ L) : ∃ i, i < L.length ∧ gl L i = x := by
  obtain ⟨i, h1, h2⟩ := List.mem_iff_getElem.1 h
  exact ⟨i, h1, by unfold gl; rw [List.getD_eq_getElem?_getD, List.getElem?_eq_getElem h1]; exact h2⟩
theorem twr_le {n : Nat} {L : List (List ByteArray)} (h : Twr n L) (i : Nat) : sN n (L.drop i) ≤ 76800 := by
  have h1 := sN_le (n := n) (by have := h.n2; omega) (L.drop i) fun x hx => by
    obtain ⟨j, h1, h2⟩ := gl_mem (List.mem_of_mem_drop hx)
    rw [← h2]
    exact (h.asc j h1).2.2
  have h2 := h.len
  rw [List.length_drop] at h1
  omega
theorem fst35_L {n : Nat} {L : List (List ByteArray)} (h : Twr n L) : ∀ (m fuel : Nat) (v : List Int), m ≤ L.length → m < fuel → v.length = L.length → (∀ i, m ≤ i → i < L.length → v.getD i 0 = sN n (L.drop (i + 1))) →
    ∃ r, lookup_firsts_L1 L (n : Int) fuel (sN n (L.drop m) : Int) ((m : Int) - 1) v = some r ∧ r.length = L.length ∧ ∀ i, i < L.length → r.getD i 0 = sN n (L.drop (i + 1))
  | m, 0, _, _, h, _, _ => by omega
  | 0, fuel + 1, v, hm, hf, hv, hg => by
    rw [lookup_firsts_L1]
    unfold lookup_firsts_B1
    rw [if_neg (by omega)]
    exact ⟨v, rfl, hv, fun i hi => hg i (by omega) hi⟩
  | m + 1, fuel + 1, v, hm, hf, hv, hg => by
    rw [lookup_firsts_L1]
    unfold lookup_firsts_B1
    have h2 := h.n2
    have h8 := h.n8
    have hl := h.len
    have ha := h.asc m (by omega)
    have hs := twr_le h m
    have hs' := twr_le h (m + 1)
    have hd := sN_drop (n := n) (L := L) (i := m) (by omega)
    rw [show ((m + 1 : Nat) : Int) - 1 = (m : Int) from by omega, if_pos (by omega), lidx_nat 0 (by omega), Option.bind_some, lupd_ok (by omega) (by omega), Option.bind_some, lidx_nat [] (by omega), Option.bind_some, nz_of (by omega), Option.bind_some]
    rw [show L.getD m [] = gl L m from rfl, w64_ceil (by omega) (by omega) (by omega) (by omega)]
    have hc : ((gl L m).length + (n : Int) - 1) / (n : Int) = (chN (gl L m).length n : Int) := by
      rcases chN_int (L := (gl L m).length) (n := n) with h3 | h3
      · exact h3.symm
      · omega
    rw [hc, w64_id (x := (m : Int) - 1) (by omega) (by omega), w64_id (by omega) (by omega), show ((sN n (L.drop (m + 1)) : Nat) : Int) + (chN (gl L m).length n : Int) = (sN n (L.drop m) : Int) from by omega]
    refine fst35_L h m fuel _ (by omega) (by omega) (by simp [hv]) fun i h3 h4 => ?_
    rw [Int.toNat_natCast, List.getD_eq_getElem?_getD, List.getElem?_set]
    by_cases he : m = i
    · subst he; rw [if_pos rfl, if_pos (by omega)]; rfl
    · rw [if_neg he, ← List.getD_eq_getElem?_getD]
      exact hg i (by omega) h4
theorem firsts35 {n : Nat} {L : List (List ByteArray)} (h : Twr n L) : ∃ r, lookup_firsts L (n : Int) = some r ∧ r.length = L.length ∧ ∀ i, i < L.length → r.getD i 0 = sN n (L.drop (i + 1)) := by
  unfold lookup_firsts
  have hl := h.len
  rw [lmk_ok (by omega) (by omega), Option.bind_some, w64_id (by omega) (by omega)]
  have e : (0 : Int) = ((sN n (L.drop L.length) : Nat) : Int) := by rw [List.drop_length]; rfl
  have := fst35_L h L.length big (List.replicate (L.length : Int).toNat 0) (Nat.le_refl _) (by simp only [big]; omega) (by simp) (fun i h1 h2 => by omega)
  rw [← e] at this
  exact this
theorem rev_L : ∀ (m fuel : Nat) (v : List Int) (i : Nat) (j : Int), j + 1 - i ≤ m → m < fuel → v.length ≤ 100000 → (i : Int) + j + 1 = v.length → 
    ∃ r, slices_Reverse_Lintint_L1 fuel (i : Int) j v = some r ∧ r.length = v.length ∧ ∀ k, k < v.length → r.getD k 0 = if i ≤ k ∧ (k : Int) ≤ j then v.getD (v.length - 1 - k) 0 else v.getD k 0
  | m, 0, _, _, _, _, h, _, _ => by omega
  | m, fuel + 1, v, i, j, hm, hf, hv, hij => by
    rw [slices_Reverse_Lintint_L1]
    unfold slices_Reverse_Lintint_B1
    split
    · rename_i hlt
      obtain ⟨q, rfl⟩ : ∃ q : Nat, j = (q : Int) := ⟨j.toNat, by omega⟩
      rw [lidx_nat 0 (by omega), Option.bind_some, lidx_nat 0 (by omega), Option.bind_some, Option.bind_some, lupd_ok (by omega) (by omega), Option.bind_some, lidx_nat 0 (by simp; omega), Option.bind_some, lupd_ok (by omega) (by simp; omega), Option.bind_some, w64_id (by omega) (by omega), w64_id (by omega) (by omega), Int.toNat_natCast, Int.toNat_natCast]
      have e1 : (i : Int) + 1 = ((i + 1 : Nat) : Int) := by omega
      rw [e1]
      cases m with
      | zero => omega
      | succ m =>
      obtain ⟨r, h1, h2, h3⟩ := rev_L m fuel ((v.set i (v.getD q 0)).set q (v.getD i 0)) (i + 1) ((q : Int) - 1) (by omega) (by omega) (by simp; omega) (by simp; omega)
      refine ⟨r, h1, by rw [h2]; simp, fun k hk => ?_⟩
      rw [h3 k (by simpa using hk)]
      have hset : ∀ t, t < v.length → ((v.set i (v.getD q 0)).set q (v.getD i 0)).getD t 0 = if t = q then v.getD i 0 else if t = i then v.getD q 0 else v.getD t 0 := fun t ht => by
        rw [List.getD_eq_getElem?_getD (l := (v.set i (v.getD q 0)).set q (v.getD i 0)), List.getElem?_set]
        by_cases h4 : q = t
        · rw [if_pos h4, if_pos (by rw [List.length_set]; omega), if_pos h4.symm]; rfl
        · have h4' : ¬ t = q := fun h => h4 h.symm
          rw [if_neg h4, List.getElem?_set, if_neg h4']
          by_cases h5 : i = t
          · rw [if_pos h5, if_pos (by omega), if_pos h5.symm]; rfl
          · have h5' : ¬ t = i := fun h => h5 h.symm
            rw [if_neg h5, if_neg h5', ← List.getD_eq_getElem?_getD]
      simp only [List.length_set]
      by_cases c1 : i + 1 ≤ k ∧ (k : Int) ≤ (q : Int) - 1
      · rw [if_pos c1, if_pos (by omega), hset _ (by omega), if_neg (by omega), if_neg (by omega)]
      · rw [if_neg c1, hset _ hk]
        by_cases c2 : k = q
        · rw [if_pos c2, if_pos (by omega), show v.length - 1 - k = i by omega]
        · rw [if_neg c2]
          by_cases c3 : k = i
          · rw [if_pos c3, if_pos (by omega), show v.length - 1 - k = q by omega]
          · rw [if_neg c3, if_neg (by omega)]
    · rename_i hlt
      refine ⟨v, rfl, rfl, fun k hk => ?_⟩
      split
      · rename_i h
        rw [show v.length - 1 - k = k by omega]
      · rfl
theorem rev35 {v : List Int} (hv : v.length ≤ 100000) : ∃ r, slices_Reverse_Lintint v = some r ∧ r.length = v.length ∧ ∀ k, k < v.length → r.getD k 0 = v.getD (v.length - 1 - k) 0 := by
  unfold slices_Reverse_Lintint
  rw [w64_id (by omega) (by omega)]
  obtain ⟨r, h1, h2, h3⟩ := rev_L v.length big v 0 ((v.length : Int) - 1) (by omega) (by simp only [big]; omega) hv (by omega)
  exact ⟨r, h1, h2, fun k hk => by rw [h3 k hk, if_pos (by omega)]⟩
abbrev tw (f : Int × List ByteArray) : List (List ByteArray) := tow f.1.toNat f.2
theorem twF {f : Int × List ByteArray} (h : FenP f) : Twr f.1.toNat (tw f) := by
  have hb := h.1
  exact twr (by omega) hb.2 h.2
theorem rows_ok {f : Int × List ByteArray} (h : FenP f) : ∃ r, lookup_Rows f = some (r, 0) ∧ r.length = (tw f).length ∧ ∀ k, k < (tw f).length → r.getD k 0 = sN f.1.toNat ((tw f).drop ((tw f).length - k)) := by
  unfold lookup_Rows
  have hT := twF h
  have hb := h.1
  rw [flevels_eq, Option.bind_some, show levelsI f = (tw f, 0) by unfold levelsI; rw [if_pos h]]
  dsimp only
  rw [if_neg (by omega)]
  obtain ⟨r, h1, h2, h3⟩ := firsts35 hT
  rw [show ((f.1.toNat : Nat) : Int) = f.1 by omega] at h1
  have hl := hT.len
  obtain ⟨q, k1, k2, k3⟩ := rev35 (v := r) (by omega)
  rw [h1, Option.bind_some, k1, Option.bind_some]
  refine ⟨q, rfl, by omega, fun k hk => ?_⟩
  rw [k3 k (by omega), h3 _ (by omega), show r.length - 1 - k + 1 = (tw f).length - k by omega]
theorem trl_get (L : List (List ByteArray)) (w : ByteArray) : ∀ (m k : Nat), k < m → (trl L w m).getD k 0 = pos L w (m - k)
  | 0, k, h => by omega
  | m + 1, 0, _ => rfl
  | m + 1, k + 1, h => by
    show (trl L w m).getD k 0 = _
    rw [trl_get L w m k (by omega), show m + 1 - (k + 1) = m - k by omega]
theorem walk_L (z1 : Int) (z2 : Bool) (a c : List Int) (hl : a.length = c.length) (hx : ∀ k, k < a.length → 0 ≤ a.getD k 0 ∧ a.getD k 0 ≤ 1000000 ∧ 0 ≤ c.getD k 0 ∧ c.getD k 0 ≤ 1000000) : ∀ (xs : List Int) (i : Nat) (v : List Int), c.drop i = xs → v.length = c.length → i ≤ c.length → (∀ k, k < c.length → v.getD k 0 = if k < i then c.getD k 0 + a.getD k 0 else c.getD k 0) →
    ∃ r, lookup_Walk_L1 z1 z2 a xs i v = some (r, z1, z2, 0) ∧ r.length = c.length ∧ ∀ k, k < c.length → r.getD k 0 = c.getD k 0 + a.getD k 0
  | [], i, v, hd, hv, hi, hg => by
    have : c.length ≤ i := List.drop_eq_nil_iff.1 hd
    exact ⟨v, rfl, hv, fun k hk => by rw [hg k hk, if_pos (by omega)]⟩
  | x :: xs, i, v, hd, hv, hi, hg => by
    have hlt : i < c.length := by
      rcases Nat.lt_or_ge i c.length with h | h
      · exact h
      · rw [List.drop_eq_nil_iff.2 h] at hd; cases hd
    show ∃ r, lookup_Walk_B1 z1 z2 a (lookup_Walk_L1 z1 z2 a xs (i + 1)) x i v = _ ∧ _
    unfold lookup_Walk_B1
    have hb := hx i (by omega)
    rw [lidx_nat 0 (by omega), Option.bind_some, lidx_nat 0 (by omega), Option.bind_some, Option.bind_some, lupd_ok (by omega) (by omega), Option.bind_some, Int.toNat_natCast, hg i hlt, if_neg (by omega), w64_id (by omega) (by omega)]
    refine walk_L z1 z2 a c hl hx xs (i + 1) _ (by rw [← List.drop_drop, hd]; rfl) (by simp [hv]) (by omega) fun k hk => ?_
    rw [List.getD_eq_getElem?_getD, List.getElem?_set]
    by_cases h4 : i = k
    · subst h4; rw [if_pos rfl, if_pos (by omega), if_pos (by omega)]; rfl
    · rw [if_neg h4, ← List.getD_eq_getElem?_getD, hg k hk]
      by_cases h5 : k < i
      · rw [if_pos h5, if_pos (by omega)]
      · rw [if_neg h5, if_neg (by omega)]
theorem walk_ok {f : Int × List ByteArray} (h : FenP f) {w : ByteArray} (hw : KeyP w) :
    ∃ r, lookup_Walk f w = some (r, (lastN f.2 w f.2.length : Int), decide (gd f.2 (lastN f.2 w f.2.length) = w), 0) ∧ r.length = (tw f).length ∧
      ∀ k, k < (tw f).length → r.getD k 0 = (pos (tw f) w ((tw f).length - k) : Int) + sN f.1.toNat ((tw f).drop ((tw f).length - k)) := by
  unfold lookup_Walk
  have hT := twF h
  have hl := hT.len
  rw [fprobe_eq, Option.bind_some, probeI_3 h hw]
  dsimp only
  rw [if_neg (by omega)]
  obtain ⟨r, h1, h2, h3⟩ := rows_ok h
  rw [h1, Option.bind_some]
  dsimp only
  rw [if_neg (by omega)]
  have h4 : (trl (tw f) w (tw f).length).length = (tw f).length := trl_len ..
  unfold slices_Clone_Lintint
  rw [lapp_ok (by rw [List.length_nil, h4]; omega), Option.bind_some, Option.bind_some, List.nil_append]
  obtain ⟨q, k1, k2, k3⟩ := walk_L (lastN f.2 w f.2.length : Int) (decide (gd f.2 (lastN f.2 w f.2.length) = w)) r (trl (tw f) w (tw f).length) (by omega) (fun k hk => by
    rw [trl_get _ _ _ _ (by omega), h3 k (by omega)]
    have := pos_lt hT w ((tw f).length - k)
    have := twr_le hT ((tw f).length - k)
    omega) (trl (tw f) w (tw f).length) 0 (trl (tw f) w (tw f).length) rfl rfl (by omega) (fun k hk => by rw [if_neg (by omega)])
  refine ⟨q, k1, by omega, fun k hk => ?_⟩
  rw [k3 k (by omega), trl_get _ _ _ _ (by omega), h3 k hk]
end Go.Proofs.Ytmfppphlhgneeaa
end

section
namespace Go.Proofs.Ytmfppphlhgneeaa
set_option linter.unusedVariables false
set_option maxRecDepth 100000
theorem pos_div {f : Int × List ByteArray} (h : FenP f) (w : ByteArray) : (pos (tw f) w 1 : Int) = (lastN f.2 w f.2.length : Int) / f.1 := by
  have hT := twF h
  have hl := hT.len
  have hb := h.1
  obtain ⟨h1, h2, h3⟩ := pos_step hT w (m := 0) (by omega)
  have e0 : pos (tw f) w 0 = lastN f.2 w f.2.length := pos_0 _ _ _
  have hbl := blk_len f.1.toNat (gl (tw f) 0) (pos (tw f) w (0 + 1))
  have hlt := lastN_le (blk f.1.toNat (gl (tw f) 0) (pos (tw f) w (0 + 1))) w _ (show 1 ≤ (blk f.1.toNat (gl (tw f) 0) (pos (tw f) w (0 + 1))).length by omega)
  rw [e0] at h2
  simp only [Nat.zero_add] at h1 h2 h3 hbl hlt
  have e : lastN f.2 w f.2.length / f.1.toNat = pos (tw f) w 1 := by
    rw [← h2, Nat.mul_comm, Nat.mul_add_div (by omega), Nat.div_eq_of_lt (by omega), Nat.add_zero]
  rw [← e, Int.natCast_ediv, Int.toNat_of_nonneg (by omega)]
theorem walks_L2 {f : Int × List ByteArray} (h : FenP f) (w : ByteArray) (kx : Int → Int → Option Bool) (z1 z2 : Int) {R rows : List Int} (hR : R.length = (tw f).length) (hr : rows.length = (tw f).length)
    (gR : ∀ k, k < (tw f).length → R.getD k 0 = sN f.1.toNat ((tw f).drop ((tw f).length - k)))
    (gr : ∀ k, k < (tw f).length → rows.getD k 0 = (pos (tw f) w ((tw f).length - k) : Int) + sN f.1.toNat ((tw f).drop ((tw f).length - k))) :
    ∀ (xs : List Int) (i : Nat), rows.drop i = xs → law35_LookupWalks_L2 kx R z1 z2 xs i = kx z1 z2
  | [], i, _ => rfl
  | x :: xs, i, hd => by
    have hlt : i < rows.length := by
      rcases Nat.lt_or_ge i rows.length with h | h
      · exact h
      · rw [List.drop_eq_nil_iff.2 h] at hd; cases hd
    have hx : x = rows.getD i 0 := by
      rw [List.drop_eq_getElem_cons hlt] at hd
      rw [List.getD_eq_getElem?_getD, List.getElem?_eq_getElem hlt]
      exact (List.cons.inj hd).1.symm
    show law35_LookupWalks_B2 kx R z1 z2 (law35_LookupWalks_L2 kx R z1 z2 xs (i + 1)) x i = _
    unfold law35_LookupWalks_B2
    have hT := twF h
    have hl := hT.len
    rw [lidx_nat 0 (by omega), Option.bind_some, if_neg (by rw [hx, gR i (by omega), gr i (by omega)]; omega), w64_id (by omega) (by omega)]
    have hb := h.1
    by_cases c : (i : Int) + 1 < (R.length : Int)
    · rw [if_pos c, show (i : Int) + 1 = ((i + 1 : Nat) : Int) by omega, lidx_nat 0 (by omega), Option.bind_some, Option.bind_some, Option.bind_some]
      have hd2 := sN_drop (n := f.1.toNat) (L := tw f) (i := (tw f).length - (i + 1)) (by omega)
      obtain ⟨h1, h2, h3⟩ := pos_step hT w (m := (tw f).length - (i + 1)) (by omega)
      rw [show (tw f).length - (i + 1) + 1 = (tw f).length - i by omega] at h1 hd2
      have h4 := (chN_iff (L := (gl (tw f) ((tw f).length - (i + 1))).length) (k := pos (tw f) w ((tw f).length - i)) (n := f.1.toNat) (by omega)).2 h1
      rw [if_neg (by
        rw [decide_eq_true_eq, hx, gR (i + 1) (by omega), gr i (by omega), hd2]
        omega)]
      exact walks_L2 h w kx z1 z2 hR hr gR gr xs (i + 1) (by rw [← List.drop_drop, hd]; rfl)
    · rw [if_neg c, Option.bind_some, Option.bind_some, if_neg (by decide)]
      exact walks_L2 h w kx z1 z2 hR hr gR gr xs (i + 1) (by rw [← List.drop_drop, hd]; rfl)
theorem walks_L3 {f : Int × List ByteArray} (h : FenP f) (z : Int) {R : List Int} (hR : R.length = (tw f).length)
    (gR : ∀ k, k < (tw f).length → R.getD k 0 = sN f.1.toNat ((tw f).drop ((tw f).length - k))) :
    ∀ (xs : List ByteArray) (i : Nat), f.2.drop i = xs → law35_LookupWalks_L3 R f.2 xs i f.1 z = some true
  | [], i, _ => rfl
  | x :: xs, i, hd => by
    obtain ⟨hi, rfl⟩ := drop_gd hd
    show law35_LookupWalks_B3 R f.2 (law35_LookupWalks_L3 R f.2 xs (i + 1)) _ i f.1 z = _
    unfold law35_LookupWalks_B3
    have hk : KeyP (gd f.2 i) := (h.2 i hi).1
    obtain ⟨r, h1, h2, h3⟩ := walk_ok h hk
    have hT := twF h
    have hl := hT.len
    have hb := h.1
    have e := (found h.2 (gd f.2 i)).2.2 i hi rfl
    rw [show lookup_Walk (f.1, f.2) (gd f.2 i) = lookup_Walk f (gd f.2 i) from rfl, h1, Option.bind_some]
    dsimp only
    rw [← e, if_neg (by
      rw [decide_eq_true (rfl : gd f.2 i = gd f.2 i)]
      simp only [Bool.not_true, Bool.false_eq_true, or_false, ne_eq, not_true_eq_false, false_or]
      omega), walks_L2 h (gd f.2 i) _ f.1 z hR h2 gR h3 r 0 rfl]
    unfold law35_LookupWalks_J1
    have g1 := h3 ((tw f).length - 1) (by omega)
    have g2 := gR ((tw f).length - 1) (by omega)
    have hp := pos_lt hT (gd f.2 i) 1
    have hs := twr_le hT 1
    rw [show (tw f).length - ((tw f).length - 1) = 1 by omega] at g1 g2
    have hdv := pos_div h (gd f.2 i)
    rw [← e] at hdv
    rw [w64_id (x := (r.length : Int) - 1) (by omega) (by omega), w64_id (x := (R.length : Int) - 1) (by omega) (by omega), show (r.length : Int) - 1 = (((tw f).length - 1 : Nat) : Int) by omega, show (R.length : Int) - 1 = (((tw f).length - 1 : Nat) : Int) by omega,
      lidx_nat 0 (by omega), Option.bind_some, lidx_nat 0 (by omega), Option.bind_some, nz_of (by omega), Option.bind_some, g1, g2]
    rw [w64_id (by omega) (by omega), Int.tdiv_eq_ediv_of_nonneg (by omega), ← hdv, w64_id (by omega) (by omega), if_neg (by omega)]
    exact walks_L3 h z hR gR xs (i + 1) (by rw [← List.drop_drop, hd]; rfl)
theorem law_walks {t : List Int} (ht : ∀ x ∈ t, 0 ≤ x ∧ x ≤ 255) : law35_LookupWalks t = some true := by
  unfold law35_LookupWalks
  rw [sane35, Option.bind_some, if_neg (by decide)]
  obtain ⟨d, h1, h2⟩ := dnew ht
  rw [h1, Option.bind_some]
  obtain ⟨f, e, k1, k2, k3, k4⟩ := dfen h2
  rw [k1, Option.bind_some]
  dsimp only
  obtain ⟨R, r1, r2, r3⟩ := rows_ok k2
  have hT := twF k2
  have hl := hT.len
  rw [r1, Option.bind_some, rlevels_eq, Option.bind_some, show levelsI f = (tw f, 0) by unfold levelsI; rw [if_pos k2]]
  dsimp only
  rw [if_neg (by rw [r2]; omega), lidx_ok 0 (by omega) (by omega), Option.bind_some, Option.bind_some]
  have g := r3 0 (by omega)
  rw [Nat.sub_zero, List.drop_length] at g
  rw [show (0 : Int).toNat = 0 from rfl, g, if_neg (by simp [sN])]
  exact walks_L3 k2 _ r2 r3 f.2 0 rfl
end Go.Proofs.Ytmfppphlhgneeaa
end
