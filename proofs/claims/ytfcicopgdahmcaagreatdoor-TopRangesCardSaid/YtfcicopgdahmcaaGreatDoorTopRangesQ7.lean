/- What the proof needs, gathered by wip/gen/shake.py. -/
import Derived.Calls
import Derived.Deep.Quiet
import Derived.Below
import Derived.Laws.AppendOwn
import Derived.WalkKit
import Derived.Laws.OwnMore
import Derived.Deep.Slices
import Derived.ChangeOld
import Derived.ArgAppend
import Derived.RangeFuncIn
import Derived.RangeFuncRecord
import Derived.RangeFuncLeaves
import Derived.Laws.MakeOwn
import Derived.IntWalk
import Derived.Laws.IdiomStrings
import Derived.Laws.Cover3
import Derived.Laws.CopyOwn
import Derived.MapKept
import Derived.RangeFuncNested
import Derived.Test.YtfcicopgdahmcaaGreatDoorRows
import Derived.LaidEql
import Derived.Stop.Asserts
import Derived.RowKitTokens
import Derived.Test.YtfcicopgdahmcaaGreatDoorCards
import Derived.LaidLaws
import Derived.Look8
import Derived.MakeChecks
import Derived.Test.YtfcicopgdahmcaaGreatDoorTie
import Derived.LaidMore
import Derived.Lay
import Derived.SevenTiedAt
import Derived.Stop.Joined
import Derived.ProofKit
import Derived.OpenShut
import Derived.ShutString
import Derived.Test.YtfcicopgdahmcaaGreatDoorTopRangesQ6

section
namespace Go.Proofs.YtfcicopgdahmcaaGreatDoor
def stp (b : Int) : Nat → Int → Nat
  | 0, _ => 1
  | k + 1, n => if n ≤ b then 1 else 1 + stp b k ((n + b - 1) / b)
theorem ceil_le {n b m : Int} (hb : 1 ≤ b) : (n + b - 1) / b ≤ m ↔ n ≤ m * b := by
  constructor
  · intro h
    have h1 := Int.mul_ediv_add_emod (n + b - 1) b
    have h2 := Int.emod_lt_of_pos (n + b - 1) (by omega : 0 < b)
    have h3 : b * ((n + b - 1) / b) ≤ b * m := Int.mul_le_mul_of_nonneg_left h (by omega)
    rw [Int.mul_comm m b]; omega
  · intro h
    have : (n + b - 1) / b < m + 1 := Int.ediv_lt_of_lt_mul (by omega) (by rw [Int.add_mul]; omega)
    omega
theorem ceil_lt {n b : Int} (hb : 2 ≤ b) (h : b < n) : 1 ≤ (n + b - 1) / b ∧ (n + b - 1) / b ≤ n - 1 := by
  constructor
  · exact Int.le_ediv_of_mul_le (by omega) (by omega)
  · rw [ceil_le (by omega)]
    have h1 : 0 ≤ (n - 2) * (b - 2) := Int.mul_nonneg (by omega) (by omega)
    have h2 : (n - 2) * (b - 2) = n * b - 2 * n - 2 * b + 4 := by rw [Int.sub_mul, Int.mul_sub, Int.mul_sub]; omega
    rw [Int.sub_mul]; omega
theorem stp_pos (b : Int) : ∀ (k : Nat) (n : Int), 1 ≤ stp b k n
  | 0, _ => Nat.le_refl _
  | k + 1, n => by simp only [stp]; split <;> omega
theorem stp_le {b : Int} (hb : 2 ≤ b) : ∀ (k : Nat) (n : Int), n ≤ k → ∀ j : Nat, stp b k n ≤ j + 1 ↔ n ≤ b ^ (j + 1)
  | 0, n, h, j => by
    have : 0 < b ^ (j + 1) := Int.pow_pos (by omega)
    simp only [stp]; omega
  | k + 1, n, h, j => by
    simp only [stp]
    split
    · rename_i hn
      have h1 : b ^ 1 ≤ b ^ (j + 1) := by
        rw [Int.pow_succ b j, Int.pow_succ, Int.pow_zero]
        have h0 : 0 < b ^ j := Int.pow_pos (by omega)
        exact Int.mul_le_mul_of_nonneg_right (by omega) (by omega)
      rw [Int.pow_succ, Int.pow_zero] at h1
      omega
    · rename_i hn
      have hc := ceil_lt hb (by omega : b < n)
      cases j with
      | zero =>
        have := stp_pos b k ((n + b - 1) / b)
        rw [Int.pow_succ, Int.pow_zero]
        omega
      | succ j =>
        have ih := stp_le hb k ((n + b - 1) / b) (by omega) j
        have e : 1 + stp b k ((n + b - 1) / b) ≤ j + 1 + 1 ↔ stp b k ((n + b - 1) / b) ≤ j + 1 := by omega
        rw [e, ih, ceil_le (by omega), ← Int.pow_succ]
theorem stp_fuel {b : Int} (hb : 2 ≤ b) {k m : Nat} {n : Int} (h1 : n ≤ k) (h2 : n ≤ m) : stp b k n = stp b m n := by
  have a := stp_pos b k n
  have c := stp_pos b m n
  have h3 := stp_le hb k n h1 (stp b m n - 1)
  have h4 := stp_le hb m n h2 (stp b m n - 1)
  have h5 := stp_le hb k n h1 (stp b k n - 1)
  have h6 := stp_le hb m n h2 (stp b k n - 1)
  have e1 : stp b m n - 1 + 1 = stp b m n := by omega
  have e2 : stp b k n - 1 + 1 = stp b k n := by omega
  rw [e1] at h3 h4
  rw [e2] at h5 h6
  have := h3.2 (h4.1 (Nat.le_refl _))
  have := h6.2 (h5.1 (Nat.le_refl _))
  omega
def st (b n : Int) : Nat := stp b 256 n
theorem st_le {b n : Int} (hb : 2 ≤ b) (hn : n ≤ 256) (j : Nat) (hj : 1 ≤ j) : st b n ≤ j ↔ n ≤ b ^ j := by
  have := stp_le hb 256 n hn (j - 1)
  rwa [Nat.sub_add_cancel hj] at this
theorem st_pos (b n : Int) : 1 ≤ st b n := stp_pos b 256 n
theorem st_small {b n : Int} (h : n ≤ b) : st b n = 1 := by
  show (if n ≤ b then 1 else _) = 1
  rw [if_pos h]
theorem st_large {b n : Int} (hb : 2 ≤ b) (h : b < n) (hn : n ≤ 256) : st b n = 1 + st b ((n + b - 1) / b) := by
  have hc := ceil_lt hb h
  have h1 : st b n = 1 + stp b 255 ((n + b - 1) / b) := by
    unfold st
    show (if n ≤ b then 1 else _) = _
    rw [if_neg (by omega)]
  rw [h1, stp_fuel hb (k := 255) (m := 256) (by omega) (by omega)]; rfl
theorem w64_ceil {n b : Int} (h1 : 1 ≤ n) (h2 : n ≤ 100000) (h3 : 1 ≤ b) (h4 : b ≤ 100000) : w64 (Int.tdiv (w64 (w64 (n + b) - 1)) b) = (n + b - 1) / b := by
  have a := Int.ediv_nonneg (by omega : 0 ≤ n + b - 1) (by omega : 0 ≤ b)
  have c := Int.ediv_le_self b (by omega : 0 ≤ n + b - 1)
  rw [w64_id (x := n + b) (by omega) (by omega), w64_id (x := n + b - 1) (by omega) (by omega), Int.tdiv_eq_ediv_of_nonneg (by omega), w64_id (by omega) (by omega)]
theorem nz_of {y : Int} (h : y ≠ 0) : nz y = some () := by unfold nz; rw [if_neg h]
theorem steps_L {b : Int} (hb : 2 ≤ b) (hb2 : b ≤ 8) : ∀ (f : Nat) (n c : Int), 1 ≤ n → n ≤ 256 → n < f → 0 ≤ c → c + n ≤ 1000 → fence_Steps_L1 b f n c = some (c - 1 + st b n, 0)
  | 0, n, c, h1, _, h3, _, _ => by omega
  | f + 1, n, c, h1, h2, h3, h4, h5 => by
    show fence_Steps_B1 b (fence_Steps_L1 b f) n c = _
    unfold fence_Steps_B1
    split
    · rename_i h
      have hc := ceil_lt hb h
      rw [nz_of (by omega)]
      simp only [Option.bind_some]
      rw [w64_ceil h1 (by omega) (by omega) (by omega), w64_id (x := c + 1) (by omega) (by omega), steps_L hb hb2 f _ _ hc.1 (by omega) (by omega) (by omega) (by omega), st_large hb h h2]
      congr 2; omega
    · rw [st_small (by omega)]
      congr 2; omega
def stepsI (n b : Int) : Int × Int := if (1 ≤ n ∧ n ≤ 256) ∧ 2 ≤ b ∧ b ≤ 8 then (st b n, 0) else (0, 1)
theorem steps_eq (n b : Int) : fence_Steps n b = some (stepsI n b) := by
  unfold fence_Steps fence_sized stepsI
  by_cases h : n < 1 ∨ 256 < n
  · rw [if_pos h, if_neg (by omega)]; rfl
  · rw [if_neg h]
    simp only [Option.bind_some]
    by_cases h2 : 2 ≤ b ∧ b ≤ 8
    · rw [if_neg (by simp [h2]), if_pos (by omega), steps_L h2.1 h2.2 _ _ _ (by omega) (by omega) (by simp only [big]; omega) (by omega) (by omega)]
      congr 2; omega
    · rw [if_pos (by simp; omega), if_neg (by omega)]
end Go.Proofs.YtfcicopgdahmcaaGreatDoor
end

section
namespace Go.Proofs.YtfcicopgdahmcaaGreatDoor
theorem nz_ok {y : Int} (h : y ≠ 0) : nz y = some () := by unfold nz; rw [if_neg h]
theorem lidx_ok {α : Type} {l : List α} {i : Int} (d : α) (h0 : 0 ≤ i) (h1 : i < l.length) : lidx l i = some (l.getD i.toNat d) := by
  refine lidx_of h0 ?_
  rw [List.getD_eq_getElem?_getD]
  have : i.toNat < l.length := by omega
  simp [this]
theorem lidx_nat {α : Type} {l : List α} {i : Nat} (d : α) (h1 : i < l.length) : lidx l (i : Int) = some (l.getD i d) := by
  rw [lidx_ok d (by omega) (by omega), Int.toNat_natCast]
theorem lapp_ok {α : Type} {l m : List α} (h : l.length + m.length ≤ 16777216) : lapp l m = some (l ++ m) := by unfold lapp; rw [if_pos h]
theorem lsub_ok {α : Type} {l : List α} {i j : Int} (h0 : 0 ≤ i) (h1 : i ≤ j) (h2 : j ≤ l.length) : lsub l i j = some ((l.drop i.toNat).take (j - i).toNat) := by unfold lsub; rw [if_pos ⟨h0, h1, h2⟩]
theorem lupd_ok {α : Type} {l : List α} {i : Int} {y : α} (h0 : 0 ≤ i) (h1 : i < l.length) : lupd l i y = some (l.set i.toNat y) := by unfold lupd; rw [if_pos ⟨h0, h1⟩]
theorem ofB_size (l : List Int) : (ofB l).size = l.length := by simp [ofB, ByteArray.size]
theorem mod_ok {x n : Int} (hn : 1 ≤ n) (hn2 : n ≤ 1000000) : make_Mod x n = some (x % n) := by
  unfold make_Mod
  rw [nz_ok (by omega)]
  simp only [Option.bind_some]
  have h1 := Int.lt_tmod_of_pos x (by omega : 0 < n)
  have h2 := Int.tmod_lt_of_pos x (by omega : 0 < n)
  rw [w64_id (by omega) (by omega), Int.tmod_eq_emod_of_nonneg (by omega), Int.add_emod_right]
  congr 1
  have h3 := Int.tmod_add_mul_tdiv x n
  have h4 : x.tmod n = x - n * x.tdiv n := by omega
  rw [h4, Int.sub_mul_emod_self_left]
theorem dnext_ok {l : List Int} (hl : l.length ≤ 1000) {p n : Int} (h0 : 0 ≤ p ∧ p ≤ 1000) (hn : 1 ≤ n ∧ n ≤ 1000000) : ∃ v q, make_Deck_Next (l, p) n = some (v, (l, q)) ∧ 0 ≤ v ∧ v < n ∧ 0 ≤ q ∧ q ≤ 1000 := by
  unfold make_Deck_Next
  split
  · exact ⟨0, p, rfl, by omega, by omega, h0.1, h0.2⟩
  · rename_i h
    dsimp only at h ⊢
    rw [lidx_ok 0 (by omega) (by omega)]
    simp only [Option.bind_some]
    rw [mod_ok hn.1 hn.2]
    simp only [Option.bind_some]
    refine ⟨_, _, rfl, Int.emod_nonneg _ (by omega), Int.emod_lt_of_pos _ (by omega), ?_⟩
    rw [w64_id (by omega) (by omega)]; omega
def Dk (l : List Int) (d : List Int × Int) : Prop := d.1 = l ∧ 0 ≤ d.2 ∧ d.2 ≤ 1000
theorem next_ok {l : List Int} (hl : l.length ≤ 1000) {d : List Int × Int} (hd : Dk l d) {n : Int} (hn : 1 ≤ n ∧ n ≤ 1000000) : ∃ v e, make_Deck_Next d n = some (v, e) ∧ 0 ≤ v ∧ v < n ∧ Dk l e := by
  obtain ⟨d1, d2⟩ := d
  obtain ⟨rfl, h1, h2⟩ := hd
  obtain ⟨v, q, e, a, b, c, f⟩ := dnext_ok hl ⟨h1, h2⟩ hn
  exact ⟨v, _, e, a, b, rfl, c, f⟩
end Go.Proofs.YtfcicopgdahmcaaGreatDoor
end

section
namespace Go.Proofs.YtfcicopgdahmcaaGreatDoor
theorem word_L {l : List Int} (hl : l.length ≤ 1000) : ∀ (f : Nat) (acc : List Int) (c p : Int), -1 ≤ c → c ≤ 10 → c + 2 ≤ f → acc.length + c ≤ 10 → 0 ≤ p → p ≤ 1000 →
    ∃ s q, make_Word_L2 make_Word_J1 f acc c l p = some (s, (l, q)) ∧ (s.size : Int) = acc.length + (c + 1) ∧ 0 ≤ q ∧ q ≤ 1000
  | 0, acc, c, p, h1, _, h2, _, _, _ => by omega
  | f + 1, acc, c, p, h1, h2, h3, h4, h5, h6 => by
    show ∃ s q, make_Word_B2 make_Word_J1 (make_Word_L2 make_Word_J1 f) acc c l p = _ ∧ _
    unfold make_Word_B2
    split
    · obtain ⟨v, q, e, _, _, hq1, hq2⟩ := dnext_ok hl ⟨h5, h6⟩ (n := 4) (by omega)
      rw [e]
      simp only [Option.bind_some]
      rw [lapp_ok (by simp; omega)]
      simp only [Option.bind_some]
      rw [w64_id (x := c - 1) (by omega) (by omega)]
      obtain ⟨s, q2, e2, hs, hq⟩ := word_L hl f (acc ++ [wu8 (w64 (97 + v))]) (c - 1) q (by omega) (by omega) (by omega) (by simp; omega) hq1 hq2
      exact ⟨s, q2, e2, by rw [hs]; simp; omega, hq⟩
    · exact ⟨_, _, rfl, by rw [ofB_size]; omega, h5, h6⟩
def Wd (s : ByteArray) : Prop := 1 ≤ s.size ∧ s.size ≤ 4
theorem word_ok {l : List Int} (hl : l.length ≤ 1000) {d : List Int × Int} (hd : Dk l d) : ∃ s e, make_Word d = some (s, e) ∧ Wd s ∧ Dk l e := by
  obtain ⟨v, e, he, h1, h2, h3⟩ := next_ok hl hd (n := 4) (by omega)
  unfold make_Word
  rw [he]
  simp only [Option.bind_some]
  obtain ⟨e1, e2⟩ := e
  obtain ⟨rfl, h4, h5⟩ := h3
  obtain ⟨s, q, hs, hz, hq⟩ := word_L hl big [] v e2 (by omega) (by omega) (by simp only [big]; omega) (by simp; omega) h4 h5
  exact ⟨s, _, hs, by unfold Wd; simp at hz; omega, rfl, hq⟩
theorem words_in (kx : Bool → Int → Option ((List ByteArray) × ((List Int) × Int))) (w : ByteArray) (z : Int) : ∀ (l : List ByteArray) (b : Bool), make_Words_L2 kx w z l b = kx (b || l.any fun x => decide (x = w)) z
  | [], b => by simp [make_Words_L2]
  | x :: l, b => by
    show make_Words_B2 kx w z (make_Words_L2 kx w z l) x b = _
    unfold make_Words_B2
    rw [words_in kx w z l, List.any_cons, ← Bool.or_assoc]
    congr 2
    rw [Bool.eq_iff_iff]
    simp only [Bool.or_eq_true, decide_eq_true_eq]
theorem words_L {l : List Int} (hl : l.length ≤ 1000) : ∀ (f : Nat) (ws : List ByteArray) (c p : Int), 0 ≤ c → c ≤ 1000 → c < f → ws.length + c ≤ 1000 → Dk l (l, p) → ws.Nodup → (∀ w ∈ ws, Wd w) →
    ∃ vs e, make_Words_L3 f ws c l p = some (vs, e) ∧ Dk l e ∧ vs.Nodup ∧ (∀ w ∈ vs, Wd w) ∧ vs.length ≤ ws.length + c
  | 0, ws, c, p, h1, _, h2, _, _, _, _ => by omega
  | f + 1, ws, c, p, h1, h2, h3, h4, h5, h6, h7 => by
    show ∃ vs e, make_Words_B3 (make_Words_L3 f) ws c l p = _ ∧ _
    unfold make_Words_B3
    split
    · obtain ⟨s, ⟨e1, e2⟩, he, hw, hd⟩ := word_ok hl h5
      rw [he]
      simp only [Option.bind_some]
      rw [words_in]
      unfold make_Words_J1
      obtain ⟨hq, hd2⟩ := id hd
      dsimp only at hq hd2
      subst hq
      rw [w64_id (x := c - 1) (by omega) (by omega)]
      split
      · rename_i hm
        have hm : s ∉ ws := fun hs => by simp at hm; exact hm s hs rfl
        rw [lapp_ok (by simp; omega)]
        simp only [Option.bind_some]
        obtain ⟨vs, e, h, ha, hb, hc, hz⟩ := words_L hl f (ws ++ [s]) (c - 1) e2 (by omega) (by omega) (by omega) (by simp; omega) ⟨rfl, hd2⟩
          (by rw [List.nodup_append]; exact ⟨h6, by simp, fun a ha b hb => by simp at hb; subst hb; rintro rfl; exact hm ha⟩)
          (fun w hw2 => by rcases List.mem_append.1 hw2 with hw2 | hw2
                           · exact h7 w hw2
                           · simp at hw2; subst hw2; exact hw)
        exact ⟨vs, e, h, ha, hb, hc, by simp at hz; omega⟩
      · obtain ⟨vs, e, h, ha, hb, hc, hz⟩ := words_L hl f ws (c - 1) e2 (by omega) (by omega) (by omega) (by omega) ⟨rfl, hd2⟩ h6 h7
        exact ⟨vs, e, h, ha, hb, hc, by omega⟩
    · exact ⟨_, _, rfl, h5, h6, h7, by omega⟩
theorem words_ok {l : List Int} (hl : l.length ≤ 1000) {d : List Int × Int} (hd : Dk l d) {n : Int} (hn : 0 ≤ n ∧ n ≤ 900) : ∃ vs e, make_Words d n = some (vs, e) ∧ Dk l e ∧ vs.Nodup ∧ (∀ w ∈ vs, Wd w) ∧ vs.length ≤ n := by
  unfold make_Words
  rw [w64_id (by omega) (by omega)]
  obtain ⟨v, ⟨e1, e2⟩, he, h1, h2, h3⟩ := next_ok hl hd (n := n + 1) (by omega)
  rw [he]
  simp only [Option.bind_some]
  obtain ⟨hq, h4⟩ := id h3
  dsimp only at hq h4
  subst hq
  obtain ⟨vs, e, h, ha, hb, hc, hz⟩ := words_L hl big [] v e2 (by omega) (by omega) (by simp only [big]; omega) (by simp; omega) ⟨rfl, h4⟩ List.nodup_nil (fun _ h => by cases h)
  exact ⟨vs, e, h, ha, hb, hc, by simp at hz; omega⟩
end Go.Proofs.YtfcicopgdahmcaaGreatDoor
end

section
namespace Go.Proofs.YtfcicopgdahmcaaGreatDoor
abbrev gd (l : List ByteArray) (i : Nat) : ByteArray := l.getD i ByteArray.empty
def okAt (l : List ByteArray) (i : Nat) : Prop := (1 ≤ (gd l i).size ∧ (gd l i).size ≤ 32) ∧ (i = 0 ∨ sLt (gd l (i - 1)) (gd l i))
instance (l : List ByteArray) (i : Nat) : Decidable (okAt l i) := by unfold okAt; infer_instance
def AscF (l : List ByteArray) (i : Nat) : Prop := ∀ j, j < l.length → i ≤ j → okAt l j
instance (l : List ByteArray) (i : Nat) : Decidable (AscF l i) := by unfold AscF; infer_instance
def AscP (l : List ByteArray) : Prop := ∀ j, j < l.length → okAt l j
instance (l : List ByteArray) : Decidable (AscP l) := by unfold AscP; infer_instance
def KeyP (w : ByteArray) : Prop := 1 ≤ w.size ∧ w.size ≤ 32
instance (w : ByteArray) : Decidable (KeyP w) := by unfold KeyP; infer_instance
theorem nb_t {p : Prop} [Decidable p] (h : p) : ¬ ((!decide p) = true) := by simp [h]
theorem nb_f {p : Prop} [Decidable p] (h : ¬ p) : (!decide p) = true := by simp [h]
theorem proper_eq (w : ByteArray) : fence_proper w = some (decide (KeyP w)) := by
  unfold fence_proper; exact congrArg some (decide_eq_decide.2 (by unfold KeyP; omega))
theorem drop_gd {l xs : List ByteArray} {x : ByteArray} {i : Nat} (h : l.drop i = x :: xs) : i < l.length ∧ x = gd l i := by
  have h1 := drop_lt h
  have h2 := drop_idx h
  rw [lidx_nat .empty (by omega)] at h2
  exact ⟨by omega, (Option.some.inj h2).symm⟩
theorem asc_L {z : List ByteArray} (hz : z.length ≤ 10000000) : ∀ (xs : List ByteArray) (i : Nat), z.drop i = xs → fence_ascend_L1 z xs i = some (decide (AscF z i))
  | [], i, h => by
    have := drop_nil h
    show some true = _
    congr 1
    exact (decide_eq_true (fun j h1 h2 => by omega)).symm
  | x :: xs, i, h => by
    obtain ⟨hi, rfl⟩ := drop_gd h
    show fence_ascend_B1 z (fence_ascend_L1 z xs (i + 1)) (gd z i) i = _
    unfold fence_ascend_B1
    rw [asc_L hz xs (i + 1) (drop_succ h), proper_eq]
    simp only [Option.bind_some]
    have e2 : (if (0 < (i : Int)) then ((lidx z (w64 ((i : Int) - 1))).bind fun u127 => some (decide (¬ sLt u127 (gd z i)))) else some false) = some (decide (i ≠ 0 ∧ ¬ sLt (gd z (i - 1)) (gd z i))) := by
      by_cases h0 : i = 0
      · rw [if_neg (by omega)]; simp [h0]
      · rw [if_pos (by omega), w64_id (by omega) (by omega), show ((i : Int) - 1) = ((i - 1 : Nat) : Int) by omega, lidx_nat .empty (by omega)]
        simp [h0]
    rw [e2]
    simp only [Option.bind_some]
    have e3 : (if (!decide (KeyP (gd z i))) = true then some true else some (decide (i ≠ 0 ∧ ¬ sLt (gd z (i - 1)) (gd z i)))) = some (decide (¬ okAt z i)) := by
      by_cases hk : KeyP (gd z i)
      · rw [if_neg (nb_t hk)]
        congr 1
        rw [decide_eq_decide]
        unfold okAt
        constructor
        · rintro ⟨h1, h2⟩ ⟨_, h3 | h3⟩
          · exact h1 h3
          · exact h2 h3
        · intro h1
          exact ⟨fun h2 => h1 ⟨hk, .inl h2⟩, fun h2 => h1 ⟨hk, .inr h2⟩⟩
      · rw [if_pos (nb_f hk)]
        congr 1
        exact (decide_eq_true (p := ¬ okAt z i) (fun h1 => hk h1.1)).symm
    rw [e3]
    simp only [Option.bind_some]
    by_cases ok : okAt z i
    · rw [if_neg (by simp [ok])]
      congr 1
      rw [decide_eq_decide]
      constructor
      · intro h1 j h2 h3
        rcases Nat.eq_or_lt_of_le h3 with rfl | h4
        · exact ok
        · exact h1 j h2 h4
      · exact fun h1 j h2 h3 => h1 j h2 (by omega)
    · rw [if_pos (by simp [ok])]
      congr 1
      exact (decide_eq_false (fun h1 => ok (h1 i hi (Nat.le_refl _)))).symm
theorem ascend_eq {z : List ByteArray} (hz : z.length ≤ 10000000) : fence_ascend z = some (decide (AscP z)) := by
  unfold fence_ascend
  rw [asc_L hz z 0 rfl]
  congr 1
  rw [decide_eq_decide]
  exact ⟨fun h j h1 => h j h1 (by omega), fun h j h1 _ => h j h1⟩
def FenP (f : Int × List ByteArray) : Prop := ((2 ≤ f.1 ∧ f.1 ≤ 8) ∧ 1 ≤ f.2.length ∧ f.2.length ≤ 256) ∧ AscP f.2
instance (f : Int × List ByteArray) : Decidable (FenP f) := by unfold FenP; infer_instance
theorem check_eq (f : Int × List ByteArray) : fence_Check f = some (if FenP f then 0 else 2) := by
  unfold fence_Check fence_sized
  simp only [Option.bind_some]
  by_cases h : (2 ≤ f.1 ∧ f.1 ≤ 8) ∧ 1 ≤ f.2.length ∧ f.2.length ≤ 256
  · rw [if_neg (by simp; omega), ascend_eq (by omega)]
    simp only [Option.bind_some]
    by_cases h2 : AscP f.2
    · rw [if_neg (nb_t h2), if_pos ⟨h, h2⟩]
    · rw [if_pos (nb_f h2), if_neg (fun h3 => h2 h3.2)]
  · rw [if_pos (by simp; omega), if_neg (fun h3 => h h3.1)]; rfl
theorem asc_lt {l : List ByteArray} (h : AscP l) : ∀ {j i : Nat}, i < j → j < l.length → sLt (gd l i) (gd l j)
  | 0, i, h0, _ => by omega
  | j + 1, i, h0, h1 => by
    rcases (h (j + 1) h1).2 with h2 | h2
    · omega
    · simp only [Nat.add_sub_cancel] at h2
      rcases Nat.lt_or_ge i j with h3 | h3
      · exact sLt_trans (asc_lt h h3 (by omega)) h2
      · obtain rfl : i = j := by omega
        exact h2
def lastN (l : List ByteArray) (w : ByteArray) : Nat → Nat
  | 0 => 0
  | q + 1 => if ¬ sLt w (gd l q) then q else lastN l w q
theorem lastN_le (l : List ByteArray) (w : ByteArray) : ∀ q, 1 ≤ q → lastN l w q < q
  | 0, h => by omega
  | q + 1, _ => by
    simp only [lastN]
    split
    · omega
    · rcases Nat.eq_zero_or_pos q with h | h
      · subst h; simp [lastN]
      · have := lastN_le l w q h; omega
theorem lastN_eq {l : List ByteArray} {w : ByteArray} {r : Nat} (h1 : ∀ k, k < r → ¬ sLt w (gd l k)) : ∀ n, r ≤ n → (∀ k, r ≤ k → k < n → sLt w (gd l k)) → lastN l w n = r - 1
  | 0, h, _ => by simp [lastN]; omega
  | n + 1, h, h2 => by
    simp only [lastN]
    rcases Nat.lt_or_ge n r with h3 | h3
    · rw [if_pos (h1 n h3)]; omega
    · rw [if_neg (fun hn => hn (h2 n h3 (by omega)))]
      exact lastN_eq h1 n h3 (fun k h4 h5 => h2 k h4 (by omega))
theorem partk {l : List ByteArray} (h : AscP l) (w : ByteArray) : ∀ n, n ≤ l.length → ∃ r, r ≤ n ∧ (∀ k, k < r → ¬ sLt w (gd l k)) ∧ ∀ k, r ≤ k → k < n → sLt w (gd l k)
  | 0, _ => ⟨0, by omega, fun k h => by omega, fun k _ h => by omega⟩
  | n + 1, hn => by
    by_cases hw : sLt w (gd l n)
    · obtain ⟨r, h1, h2, h3⟩ := partk h w n (by omega)
      refine ⟨r, by omega, h2, fun k h4 h5 => ?_⟩
      rcases Nat.lt_or_ge k n with h6 | h6
      · exact h3 k h4 h6
      · obtain rfl : k = n := by omega
        exact hw
    · refine ⟨n + 1, by omega, fun k h4 h5 => ?_, fun k h4 h5 => by omega⟩
      rcases Nat.lt_or_ge k n with h6 | h6
      · exact hw (sLt_trans h5 (asc_lt h h6 (by omega)))
      · obtain rfl : k = n := by omega
        exact hw h5
theorem search_L {z : Int → Option Bool} {P : Int → Prop} [DecidablePred P] {n : Int} (hn : n ≤ 100000000) (hz : ∀ i, 0 ≤ i → i < n → z i = some (decide (P i))) (hm : ∀ i j, 0 ≤ i → i ≤ j → j < n → P i → P j) : ∀ (f : Nat) (i j : Int), 0 ≤ i → i ≤ j → j ≤ n → j - i < f → (∀ k, 0 ≤ k → k < i → ¬ P k) → (∀ k, j ≤ k → k < n → P k) →
    ∃ r, sort_Search_L1 z f i j = some r ∧ 0 ≤ r ∧ r ≤ n ∧ (∀ k, 0 ≤ k → k < r → ¬ P k) ∧ ∀ k, r ≤ k → k < n → P k
  | 0, i, j, h0, h1, h2, h3, _, _ => by omega
  | f + 1, i, j, h0, h1, h2, h3, h4, h5 => by
    show ∃ r, sort_Search_B1 z (sort_Search_L1 z f) i j = some r ∧ _
    unfold sort_Search_B1
    split
    · rename_i hij
      have em : w64 (IntKind.u64.wrap (w64 (i + j)) / 2) = (i + j) / 2 := by
        rw [w64_id (x := i + j) (by omega) (by omega), IntWalk.u64_in _ (by constructor <;> omega), w64_id (by omega) (by omega)]
      rw [em, w64_id (x := (i + j) / 2 + 1) (by omega) (by omega), hz _ (by omega) (by omega)]
      simp only [Option.bind_some]
      by_cases hp : P ((i + j) / 2)
      · rw [if_neg (by simp [hp])]
        exact search_L hn hz hm f _ _ (by omega) (by omega) (by omega) (by omega) h4 (fun k h6 h7 => hm _ _ (by omega) h6 h7 hp)
      · rw [if_pos (by simp [hp])]
        exact search_L hn hz hm f _ _ (by omega) (by omega) (by omega) (by omega) (fun k h6 h7 h8 => hp (hm _ _ h6 (by omega) (by omega) h8)) h5
    · exact ⟨i, rfl, h0, by omega, h4, fun k h6 h7 => h5 k (by omega) h7⟩
theorem behind_ok {l : List ByteArray} (hl : l.length ≤ 10000000) (h : AscP l) (w : ByteArray) : ∃ r : Int, fence_behind l w = some r ∧ 0 ≤ r ∧ r ≤ l.length ∧ (∀ k : Int, 0 ≤ k → k < r → ¬ sLt w (gd l k.toNat)) ∧ ∀ k : Int, r ≤ k → k < l.length → sLt w (gd l k.toNat) := by
  obtain ⟨r, h1, h2⟩ := search_L (z := fun y0 => fence_behind_f1 y0 l w) (P := fun k => sLt w (gd l k.toNat)) (n := l.length) (by omega)
    (fun i h0 h1 => by show fence_behind_f1 i l w = _; unfold fence_behind_f1; rw [lidx_ok .empty h0 h1]; rfl)
    (fun i j h0 h1 h2 hk => by
      rcases Int.lt_or_eq_of_le h1 with h3 | rfl
      · exact sLt_trans hk (asc_lt h (by omega) (by omega))
      · exact hk) big 0 l.length (by omega) (by omega) (by omega) (by simp only [big]; omega) (fun k h0 h1 => by omega) (fun k h0 h1 => by omega)
  refine ⟨r, ?_, h2⟩
  unfold fence_behind sort_Search
  rw [h1]; rfl
theorem last_eq {l : List ByteArray} (hl : l.length ≤ 10000000) (h : AscP l) (w : ByteArray) : fence_last l w = some (lastN l w l.length : Int) := by
  obtain ⟨r, e, h1, h2, h3, h4⟩ := behind_ok hl h w
  unfold fence_last
  rw [e]
  simp only [Option.bind_some]
  rw [w64_id (by omega) (by omega), lastN_eq (r := r.toNat) (fun k hk => by have := h3 k (by omega) (by omega); simpa using this) l.length (by omega) (fun k h5 h6 => by have := h4 k (by omega) (by omega); simpa using this)]
  congr 1
  omega
def fstN (l : List ByteArray) (w : ByteArray) : Nat := if sLt (gd l (lastN l w l.length)) w then lastN l w l.length + 1 else lastN l w l.length
theorem fst_ok {l : List ByteArray} (h : AscP l) (hl : 1 ≤ l.length) (w : ByteArray) : fstN l w ≤ l.length ∧ (∀ k, k < fstN l w → sLt (gd l k) w) ∧ ∀ k, fstN l w ≤ k → k < l.length → ¬ sLt (gd l k) w := by
  obtain ⟨r, h1, h2, h3⟩ := partk h w l.length (Nat.le_refl _)
  have e := lastN_eq h2 l.length h1 h3
  unfold fstN
  rw [e]
  split
  · rename_i hs
    refine ⟨by omega, fun k hk => ?_, fun k hk hk2 => ?_⟩
    · rcases Nat.lt_or_ge k (r - 1) with h4 | h4
      · exact sLt_trans (asc_lt h h4 (by omega)) hs
      · obtain rfl : k = r - 1 := by omega
        exact hs
    · rcases Nat.eq_zero_or_pos r with rfl | hr
      · exact sLt_asymm (h3 k (by omega) hk2)
      · exact sLt_asymm (h3 k (by omega) hk2)
  · rename_i hs
    refine ⟨by omega, fun k hk => ?_, fun k hk hk2 => ?_⟩
    · have h4 := h2 (r - 1) (by omega)
      have h5 := asc_lt h (i := k) (j := r - 1) hk (by omega)
      rcases sLt_tri (gd l (r - 1)) w with h6 | h6 | h6
      · exact absurd h6 hs
      · rw [← h6]; exact h5
      · exact absurd h6 h4
    · rcases Nat.eq_or_lt_of_le hk with rfl | h4
      · exact hs
      · exact sLt_asymm (h3 k (by omega) hk2)
theorem sstr_eq {l : List ByteArray} (hl : 1 ≤ l.length ∧ l.length ≤ 10000000) (h : AscP l) (w : ByteArray) : sort_SearchStrings l w = some (fstN l w : Int) := by
  obtain ⟨r, h1, h2, h3, h4, h5⟩ := search_L (z := fun y0 => sort_SearchStrings_f1 y0 l w) (P := fun k => ¬ sLt (gd l k.toNat) w) (n := l.length) (by omega)
    (fun i h0 h1 => by show sort_SearchStrings_f1 i l w = _; unfold sort_SearchStrings_f1; rw [lidx_ok .empty h0 h1]; rfl)
    (fun i j h0 h1 h2 hk hj => by
      rcases Int.lt_or_eq_of_le h1 with h3 | rfl
      · exact hk (sLt_trans (asc_lt h (by omega) (by omega)) hj)
      · exact hk hj) big 0 l.length (by omega) (by omega) (by omega) (by simp only [big]; omega) (fun k h0 h1 => by omega) (fun k h0 h1 => by omega)
  unfold sort_SearchStrings sort_Search
  rw [h1]
  simp only [Option.bind_some]
  congr 1
  obtain ⟨f1, f2, f3⟩ := fst_ok h hl.1 w
  rcases Int.lt_trichotomy r (fstN l w) with h6 | h6 | h6
  · exact absurd (f2 r.toNat (by omega)) (h5 r (by omega) (by omega))
  · exact h6
  · have := h4 (fstN l w : Int) (by omega) h6
    rw [Int.toNat_natCast] at this
    exact absurd (f3 (fstN l w) (Nat.le_refl _) (by omega)) this
def nextI (b t : Int) (l : List ByteArray) (w : ByteArray) : Int × Int :=
  if ¬ ((2 ≤ b ∧ b ≤ 8) ∧ (0 ≤ t ∧ t ≤ 256) ∧ KeyP w) then (0, 1)
  else if ¬ ((1 ≤ l.length ∧ l.length ≤ b) ∧ AscP l) then (0, 2) else (t * b + lastN l w l.length, 0)
theorem next_tail {b t : Int} {l : List ByteArray} {w : ByteArray} (hb : 2 ≤ b ∧ b ≤ 8) (ht : 0 ≤ t ∧ t ≤ 256) (hl : 1 ≤ l.length ∧ l.length ≤ b) : w64 (w64 (t * b) + (lastN l w l.length : Int)) = t * b + lastN l w l.length := by
  have h1 := lastN_le l w l.length hl.1
  have h2 : 0 ≤ t * b := Int.mul_nonneg (by omega) (by omega)
  have h3 : t * b ≤ 256 * 8 := Int.mul_le_mul (by omega) (by omega) (by omega) (by omega)
  rw [w64_id (x := t * b) (by omega) (by omega), w64_id (by omega) (by omega)]
theorem nextI_1 {b t : Int} {l : List ByteArray} {w : ByteArray} (h : ¬ ((2 ≤ b ∧ b ≤ 8) ∧ (0 ≤ t ∧ t ≤ 256) ∧ KeyP w)) : nextI b t l w = (0, 1) := by unfold nextI; rw [if_pos h]
theorem nextI_2 {b t : Int} {l : List ByteArray} {w : ByteArray} (h1 : 2 ≤ b ∧ b ≤ 8) (h2 : 0 ≤ t ∧ t ≤ 256) (h3 : KeyP w) (h : ¬ ((1 ≤ l.length ∧ l.length ≤ b) ∧ AscP l)) : nextI b t l w = (0, 2) := by
  unfold nextI; rw [if_neg (fun h5 => h5 ⟨h1, h2, h3⟩), if_pos h]
theorem nextI_3 {b t : Int} {l : List ByteArray} {w : ByteArray} (h1 : 2 ≤ b ∧ b ≤ 8) (h2 : 0 ≤ t ∧ t ≤ 256) (h3 : KeyP w) (h : 1 ≤ l.length ∧ l.length ≤ b) (ha : AscP l) : nextI b t l w = (t * b + lastN l w l.length, 0) := by
  unfold nextI; rw [if_neg (fun h5 => h5 ⟨h1, h2, h3⟩), if_neg (fun h5 => h5 ⟨h, ha⟩)]
theorem fnext_eq (b t : Int) (l : List ByteArray) (hl : l.length ≤ 10000000) (w : ByteArray) : fence_Next b t l w = some (nextI b t l w) := by
  unfold fence_Next fence_sized
  simp only [Option.bind_some]
  by_cases h : (2 ≤ b ∧ b ≤ 8) ∧ 0 ≤ t ∧ t ≤ 256
  · rw [if_neg (by simp; omega), proper_eq]
    simp only [Option.bind_some]
    by_cases hk : KeyP w
    · rw [if_neg (nb_t hk)]
      by_cases h2 : 1 ≤ l.length ∧ l.length ≤ b
      · rw [if_neg (show ¬ ((l.length : Int) < 1 ∨ b < (l.length : Int)) by omega), ascend_eq hl]
        simp only [Option.bind_some]
        by_cases ha : AscP l
        · rw [nextI_3 h.1 h.2 hk h2 ha, if_neg (nb_t ha), last_eq hl ha]
          simp only [Option.bind_some]
          rw [next_tail h.1 h.2 h2]
        · rw [nextI_2 h.1 h.2 hk (fun h3 => ha h3.2), if_pos (nb_f ha)]
      · rw [nextI_2 h.1 h.2 hk (fun h3 => h2 h3.1), if_pos (show (l.length : Int) < 1 ∨ b < (l.length : Int) by omega)]; rfl
    · rw [nextI_1 (fun h3 => hk h3.2.2), if_pos (nb_f hk)]
  · rw [nextI_1 (fun h3 => h ⟨h3.1, h3.2.1⟩), if_pos (by simp; omega)]; rfl
end Go.Proofs.YtfcicopgdahmcaaGreatDoor
end

section
namespace Go.Proofs.YtfcicopgdahmcaaGreatDoor
theorem psub_ok {lo hi i j : Int} (h0 : 0 ≤ lo) (h1 : 0 ≤ i) (h2 : i ≤ j) (h3 : j ≤ hi - lo) : psub lo hi i j = some (lo + i, lo + j) := by unfold psub; rw [if_pos ⟨h0, h1, h2, h3⟩]
abbrev FK := Int → Int → Int → Option ((Int × List ByteArray) × (List Int × Int))
theorem scan_L (k : FK) (w : ByteArray) (z1 z2 : Int) (l : List ByteArray) (hl : l.length ≤ 1000000) : ∀ (f n : Nat), n ≤ l.length → (∀ j, n ≤ j → j < l.length → sLt w (gd l j)) → n < f →
    ∃ m : Nat, make_Fence_L4 k w z1 z2 l f (n : Int) = k (m : Int) z1 z2 ∧ m ≤ n ∧ (∀ j, m ≤ j → j < l.length → sLt w (gd l j)) ∧ (m = 0 ∨ ¬ sLt w (gd l (m - 1)))
  | 0, n, _, _, h => by omega
  | f + 1, n, h1, h2, h3 => by
    show ∃ m : Nat, make_Fence_B4 k w z1 z2 l (make_Fence_L4 k w z1 z2 l f) (n : Int) = _ ∧ _
    unfold make_Fence_B4
    have e : (if (0 < (n : Int)) then ((lidx l (w64 ((n : Int) - 1))).bind fun u1266 => some (decide (sLt w u1266))) else some false) = some (decide (n ≠ 0 ∧ sLt w (gd l (n - 1)))) := by
      by_cases h0 : n = 0
      · rw [if_neg (by omega)]; simp [h0]
      · rw [if_pos (by omega), w64_id (by omega) (by omega), show ((n : Int) - 1) = ((n - 1 : Nat) : Int) by omega, lidx_nat .empty (by omega)]
        simp [h0]
    rw [e]
    simp only [Option.bind_some]
    by_cases h4 : n ≠ 0 ∧ sLt w (gd l (n - 1))
    · rw [if_pos (decide_eq_true h4), w64_id (by omega) (by omega), show ((n : Int) - 1) = ((n - 1 : Nat) : Int) by omega]
      obtain ⟨m, h5, h6, h7⟩ := scan_L k w z1 z2 l hl f (n - 1) (by omega) (fun j h5 h6 => by
        rcases Nat.eq_or_lt_of_le h5 with rfl | h7
        · exact h4.2
        · exact h2 j (by omega) h6) (by omega)
      exact ⟨m, h5, by omega, h7⟩
    · rw [if_neg (by rw [decide_eq_true_eq]; exact h4)]
      refine ⟨n, rfl, Nat.le_refl _, h2, ?_⟩
      rcases Nat.eq_zero_or_pos n with h5 | h5
      · exact .inl h5
      · exact .inr (fun h6 => h4 ⟨by omega, h6⟩)
theorem gd_ins {l : List ByteArray} {m : Nat} (w : ByteArray) (hm : m ≤ l.length) (j : Nat) : gd (l.take m ++ w :: l.drop m) j = if j < m then gd l j else if j = m then w else gd l (j - 1) := by
  have e : (l.take m).length = m := by simp; omega
  simp only [gd, List.getD_eq_getElem?_getD, List.getElem?_append, e]
  split
  · rename_i h; rw [List.getElem?_take_of_lt h]
  · split
    · rename_i h1 h2; subst h2; simp
    · rename_i h1 h2
      rw [show j - m = (j - m - 1) + 1 by omega, List.getElem?_cons_succ, List.getElem?_drop]
      congr 2; omega
theorem ins_eq {l : List ByteArray} {m : Nat} (w : ByteArray) (hm : m ≤ l.length) :
    (lcpy (l ++ [ByteArray.empty]) ((m : Int) + 1) ((l ++ [ByteArray.empty]).drop (m + 1)).length ((l ++ [ByteArray.empty]).drop m)).set m w = l.take m ++ w :: l.drop m := by
  unfold lcpy
  have e1 : ((m : Int) + 1).toNat = m + 1 := by omega
  rw [e1]
  apply List.ext_getElem?
  intro j
  have eA : (List.take (m + 1) (l ++ [ByteArray.empty])).length = m + 1 := by simp; omega
  have eB : (List.take (List.drop (m + 1) (l ++ [ByteArray.empty])).length (List.drop m (l ++ [ByteArray.empty]))).length = l.length - m := by simp; omega
  have eC : (List.take m l).length = m := by simp; omega
  have eD : m + 1 + min (List.drop m (l ++ [ByteArray.empty])).length (List.drop (m + 1) (l ++ [ByteArray.empty])).length = l.length + 1 := by simp; omega
  have eE : List.drop (l.length + 1) (l ++ [ByteArray.empty]) = [] := List.drop_eq_nil_iff.2 (by simp)
  rw [eD, eE, List.append_nil, List.getElem?_set]
  simp only [List.length_append, eA, eB]
  rw [List.getElem?_append (l₁ := List.take m l), eC]
  by_cases h1 : j < m
  · rw [if_neg (by omega), if_pos h1, List.getElem?_append, eA, if_pos (by omega), List.getElem?_take_of_lt (by omega), List.getElem?_append, if_pos (by omega), List.getElem?_take_of_lt h1]
  · by_cases h2 : m = j
    · subst h2
      rw [if_pos rfl, if_pos (by omega), if_neg h1]; simp
    · rw [if_neg h2, if_neg h1, List.getElem?_append, eA, if_neg (by omega), show j - m = (j - m - 1) + 1 by omega, List.getElem?_cons_succ, List.getElem?_drop]
      rw [show j - (m + 1) = j - m - 1 by omega]
      rcases Nat.lt_or_ge (j - m - 1) (l.length - m) with h3 | h3
      · rw [List.getElem?_take_of_lt (by simp; omega), List.getElem?_drop, List.getElem?_append, if_pos (by omega)]
      · rw [List.getElem?_eq_none (by rw [eB]; omega), List.getElem?_eq_none (by omega)]
theorem asc_of {l : List ByteArray} (h1 : ∀ i, i < l.length → KeyP (gd l i)) (h2 : ∀ i, i + 1 < l.length → sLt (gd l i) (gd l (i + 1))) : AscP l := fun j hj => by
  refine ⟨h1 j hj, ?_⟩
  cases j with
  | zero => exact .inl rfl
  | succ j => exact .inr (h2 j hj)
def PK (l : List ByteArray) (n : Nat) : Prop := AscP l ∧ (∀ i, i < l.length → Wd (gd l i)) ∧ l.length ≤ n
theorem insert_L (kx : List ByteArray → Int → Int → Option ((Int × List ByteArray) × (List Int × Int))) (p z : Int) : ∀ (xs l : List ByteArray) (n : Nat), PK l n → n + xs.length ≤ 1000 → (∀ x ∈ xs, Wd x) →
    ∃ r, make_Fence_L5 kx xs l p z = kx r p z ∧ PK r (n + xs.length) ∧ l.length ≤ r.length ∧ (xs ≠ [] → 1 ≤ r.length)
  | [], l, n, h, hn, _ => ⟨l, rfl, h, Nat.le_refl _, fun h => absurd rfl h⟩
  | x :: xs, l, n, h, hn, hw => by
    show ∃ r, make_Fence_B5 kx (make_Fence_L5 kx xs) x l p z = _ ∧ _
    unfold make_Fence_B5
    simp only [List.length_cons] at hn
    have hl := h.2.2
    obtain ⟨m, h1, h2, h3, h4⟩ := scan_L (make_Fence_J3 (make_Fence_L5 kx xs) x l) x p z l (by omega) big l.length (Nat.le_refl _) (fun j h5 h6 => by omega) (by simp only [big]; omega)
    rw [h1]
    unfold make_Fence_J3
    have e : (if (0 < (m : Int)) then ((lidx l (w64 ((m : Int) - 1))).bind fun u1202 => some (decide (u1202 = x))) else some false) = some (decide (m ≠ 0 ∧ gd l (m - 1) = x)) := by
      by_cases h0 : m = 0
      · rw [if_neg (by omega)]; simp [h0]
      · rw [if_pos (by omega), w64_id (by omega) (by omega), show ((m : Int) - 1) = ((m - 1 : Nat) : Int) by omega, lidx_nat .empty (by omega)]
        simp [h0]
    rw [e]
    simp only [Option.bind_some]
    by_cases h5 : m ≠ 0 ∧ gd l (m - 1) = x
    · rw [if_pos (decide_eq_true h5)]
      obtain ⟨r, h6, h7, h8, h9⟩ := insert_L kx p z xs l (n + 1) ⟨h.1, h.2.1, by omega⟩ (by omega) (fun y hy => hw y (List.mem_cons_of_mem _ hy))
      exact ⟨r, h6, by rw [List.length_cons, show n + (xs.length + 1) = n + 1 + xs.length by omega]; exact h7, h8, fun _ => by omega⟩
    · rw [if_neg (by rw [decide_eq_true_eq]; exact h5), lapp_ok (by simp; omega)]
      simp only [Option.bind_some]
      rw [w64_id (by omega) (by omega), psub_ok (by omega) (by omega) (by simp; omega) (by omega), psub_ok (by omega) (by omega) (by simp; omega) (by omega)]
      simp only [Option.bind_some, Int.zero_add, Int.sub_zero]
      rw [lsub_ok (by omega) (by simp; omega) (by simp), lsub_ok (by omega) (by simp; omega) (by simp)]
      simp only [Option.bind_some]
      unfold make_Fence_J2
      rw [List.take_of_length_le (by simp; omega), List.take_of_length_le (by simp <;> omega), show ((m : Int) + 1).toNat = m + 1 by omega, Int.toNat_natCast]
      have eL : (lcpy (l ++ [ByteArray.empty]) ((m : Int) + 1) ((l ++ [ByteArray.empty]).drop (m + 1)).length ((l ++ [ByteArray.empty]).drop m)).length = l.length + 1 := by
        have := congrArg List.length (ins_eq x (by omega : m ≤ l.length))
        rw [List.length_set] at this
        rw [this]; simp; omega
      rw [lidx_nat .empty (by rw [eL]; omega)]
      simp only [Option.bind_some]
      rw [lupd_ok (by omega) (by rw [eL]; omega)]
      simp only [Option.bind_some]
      rw [Int.toNat_natCast, ins_eq x (by omega)]
      have eN : (l.take m ++ x :: l.drop m).length = l.length + 1 := by simp; omega
      have hx := hw x (List.mem_cons_self ..)
      have wd : ∀ i, i < (l.take m ++ x :: l.drop m).length → Wd (gd (l.take m ++ x :: l.drop m) i) := fun i hi => by
        rw [gd_ins x (by omega)]
        split
        · exact h.2.1 i (by omega)
        · split
          · exact hx
          · exact h.2.1 _ (by omega)
      have hlt : m ≠ 0 → sLt (gd l (m - 1)) x := fun h6 => by
        rcases h4 with h7 | h7
        · exact absurd h7 h6
        · rcases sLt_tri (gd l (m - 1)) x with h8 | h8 | h8
          · exact h8
          · exact absurd ⟨h6, h8⟩ h5
          · exact absurd h8 h7
      obtain ⟨r, h6, h7, h8, h9⟩ := insert_L kx p z xs (l.take m ++ x :: l.drop m) (n + 1) ⟨asc_of (fun i hi => by have := wd i hi; unfold Wd at this; unfold KeyP; omega) (fun i hi => by
          rw [gd_ins x (by omega), gd_ins x (by omega)]
          by_cases a : i + 1 < m
          · rw [if_pos (by omega), if_pos a]; exact asc_lt h.1 (by omega) (by omega)
          · by_cases b : i + 1 = m
            · rw [if_pos (by omega), if_neg a, if_pos b]
              have := hlt (by omega)
              rwa [show m - 1 = i by omega] at this
            · by_cases c : i = m
              · rw [if_neg (by omega), if_pos c, if_neg a, if_neg b, Nat.add_sub_cancel]
                exact h3 i (by omega) (by omega)
              · rw [if_neg (by omega), if_neg c, if_neg a, if_neg b]
                exact asc_lt h.1 (by omega) (by omega)), wd, by omega⟩ (by omega) (fun y hy => hw y (List.mem_cons_of_mem _ hy))
      exact ⟨r, h6, by rw [List.length_cons, show n + (xs.length + 1) = n + 1 + xs.length by omega]; exact h7, by omega, fun _ => by omega⟩
theorem fence_ok {l : List Int} (hl : l.length ≤ 1000) {d : List Int × Int} (hd : Dk l d) : ∃ f e, make_Fence d = some (f, e) ∧ FenP f ∧ f.1 ≤ 6 ∧ f.2.length ≤ 25 ∧ (∀ i, i < f.2.length → Wd (gd f.2 i)) ∧ Dk l e := by
  obtain ⟨vs, e, h1, h2, h3, h4, h5⟩ := words_ok hl hd (n := 24) (by omega)
  unfold make_Fence
  rw [h1]
  simp only [Option.bind_some]
  rw [lapp_ok (by simp; omega)]
  simp only [Option.bind_some]
  obtain ⟨r, h6, h7, h8, h9⟩ := insert_L (make_Fence_J1 e.1) e.2 0 (vs ++ [⟨#[109]⟩]) [] 0 ⟨fun j hj => absurd hj (Nat.not_lt_zero j), fun j hj => absurd hj (Nat.not_lt_zero j), Nat.le_refl _⟩ (by simp; omega) (fun x hx => by
    rcases List.mem_append.1 hx with hx | hx
    · exact h4 x hx
    · simp at hx; subst hx; unfold Wd; exact ⟨by decide, by decide⟩)
  rw [h6]
  unfold make_Fence_J1
  obtain ⟨v, e2, g1, g2, g3, g4⟩ := next_ok hl h2 (n := 5) (by omega)
  rw [show (e.1, e.2) = e from rfl, g1]
  simp only [Option.bind_some]
  rw [w64_id (by omega) (by omega)]
  have a1 := h7.2.2
  have a2 := h9 (by simp)
  simp only [List.length_append, List.length_cons, List.length_nil] at a1
  refine ⟨_, _, rfl, ⟨by dsimp only; omega, h7.1⟩, by dsimp only; omega, by dsimp only; omega, h7.2.1, g4⟩
theorem few_eq (l : List Int) : make_Few l = some (decide (l.length ≤ 500)) := by
  unfold make_Few; exact congrArg some (decide_eq_decide.2 (by omega))
end Go.Proofs.YtfcicopgdahmcaaGreatDoor
end

section
namespace Go.Proofs.YtfcicopgdahmcaaGreatDoor
def rngL (b : Int) (l : List ByteArray) (w : ByteArray) (q : Nat) : List Int := (List.range q).map fun i : Nat => min ((lastN l w l.length : Int) / b + (i : Int)) (((l.length : Int) - 1) / b)
theorem rngL_succ (b : Int) (l : List ByteArray) (w : ByteArray) (q : Nat) : rngL b l w (q + 1) = rngL b l w q ++ [min ((lastN l w l.length : Int) / b + (q : Int)) (((l.length : Int) - 1) / b)] := by
  unfold rngL; rw [List.range_succ, List.map_append]; rfl
theorem rngL_len (b : Int) (l : List ByteArray) (w : ByteArray) (q : Nat) : (rngL b l w q).length = q := by simp [rngL]
def rangeI (f : Int × List ByteArray) (w : ByteArray) (k : Int) : List Int × Int × Int :=
  if ¬ FenP f then ([], 0, 2) else if ¬ (KeyP w ∧ 1 ≤ k ∧ k ≤ 64) then ([], 0, 1) else (rngL f.1 f.2 w k.toNat, fstN f.2 w, 0)
theorem rangeI_1 {f : Int × List ByteArray} {w : ByteArray} {k : Int} (h : ¬ FenP f) : rangeI f w k = ([], 0, 2) := by unfold rangeI; rw [if_pos h]
theorem rangeI_2 {f : Int × List ByteArray} {w : ByteArray} {k : Int} (h : FenP f) (h2 : ¬ (KeyP w ∧ 1 ≤ k ∧ k ≤ 64)) : rangeI f w k = ([], 0, 1) := by unfold rangeI; rw [if_neg (fun h3 => h3 h), if_pos h2]
theorem rangeI_3 {f : Int × List ByteArray} {w : ByteArray} {k : Int} (h : FenP f) (h2 : KeyP w ∧ 1 ≤ k ∧ k ≤ 64) : rangeI f w k = (rngL f.1 f.2 w k.toNat, (fstN f.2 w : Int), 0) := by unfold rangeI; rw [if_neg (fun h3 => h3 h), if_neg (fun h3 => h3 h2)]
theorem elem_eq {b : Int} {l : List ByteArray} {w : ByteArray} {q : Nat} (hb : 2 ≤ b) (hl : 1 ≤ l.length ∧ l.length ≤ 256) (hq : q ≤ 64) : w64 (w64 (Int.tdiv (lastN l w l.length : Int) b) + (q : Int)) = (lastN l w l.length : Int) / b + q := by
  have h1 := lastN_le l w l.length hl.1
  have h2 := Int.ediv_nonneg (by omega : 0 ≤ (lastN l w l.length : Int)) (by omega : 0 ≤ b)
  have h3 := Int.ediv_le_self b (by omega : 0 ≤ (lastN l w l.length : Int))
  rw [Int.tdiv_eq_ediv_of_nonneg (by omega), w64_id (x := (lastN l w l.length : Int) / b) (by omega) (by omega), w64_id (by omega) (by omega)]
theorem top_eq {b : Int} {l : List ByteArray} (hb : 2 ≤ b) (hl : 1 ≤ l.length ∧ l.length ≤ 256) : w64 (Int.tdiv (w64 ((l.length : Int) - 1)) b) = ((l.length : Int) - 1) / b := by
  have h2 := Int.ediv_nonneg (by omega : 0 ≤ (l.length : Int) - 1) (by omega : 0 ≤ b)
  have h3 := Int.ediv_le_self b (by omega : 0 ≤ (l.length : Int) - 1)
  rw [w64_id (x := (l.length : Int) - 1) (by omega) (by omega), Int.tdiv_eq_ediv_of_nonneg (by omega), w64_id (by omega) (by omega)]
theorem range_L {b : Int} {l : List ByteArray} (hf : FenP (b, l)) (w : ByteArray) (k : Int) (hk : 1 ≤ k ∧ k ≤ 64) (z : Int) : ∀ (f q : Nat), (q : Int) ≤ k → k - q < f →
    fence_Range_L1 w z (((l.length : Int) - 1) / b) k b l f (rngL b l w q) (q : Int) = some (rngL b l w k.toNat, z, 0)
  | 0, q, _, h => by omega
  | f + 1, q, h1, h2 => by
    show fence_Range_B1 w z _ k b l (fence_Range_L1 w z _ k b l f) _ _ = _
    unfold fence_Range_B1
    have hl := hf.1
    dsimp only at hl
    split
    · rw [last_eq (l := l) (by omega) hf.2, nz_ok (by omega)]
      simp only [Option.bind_some]
      rw [elem_eq (by omega) hl.2 (by omega), lapp_ok (by rw [rngL_len]; simp; omega)]
      simp only [Option.bind_some]
      rw [← rngL_succ, w64_id (by omega) (by omega)]
      exact range_L hf w k hk z f (q + 1) (by omega) (by omega)
    · rw [show k.toNat = q by omega]
theorem range_eq (f : Int × List ByteArray) (w : ByteArray) (k : Int) : fence_Range f w k = some (rangeI f w k) := by
  unfold fence_Range
  rw [check_eq, proper_eq]
  simp only [Option.bind_some]
  by_cases hf : FenP f
  · rw [if_pos hf, if_neg (show ¬ ((0 : Int) ≠ 0) by decide)]
    by_cases hk : KeyP w ∧ 1 ≤ k ∧ k ≤ 64
    · rw [if_neg (by rintro ((h | h) | h); · exact nb_t hk.1 h
                     · omega
                     · omega), rangeI_3 hf hk, sstr_eq ⟨hf.1.2.1, by have := hf.1; omega⟩ hf.2, nz_ok (by have := hf.1; omega)]
      simp only [Option.bind_some]
      rw [top_eq hf.1.1.1 hf.1.2]
      exact range_L (b := f.1) (l := f.2) hf w k hk.2 _ big 0 (by omega) (by simp only [big]; omega)
    · rw [rangeI_2 hf hk, if_pos (by
        by_cases h : KeyP w
        · rcases Int.lt_or_le k 1 with h3 | h3
          · exact .inl (.inr h3)
          · rcases Int.lt_or_le 64 k with h4 | h4
            · exact .inr h4
            · exact absurd ⟨h, h3, h4⟩ hk
        · exact .inl (.inl (nb_f h)))]
  · rw [if_neg hf, if_pos (show (2 : Int) ≠ 0 by decide), rangeI_1 hf]
theorem rng_get {b : Int} {l : List ByteArray} {w : ByteArray} {q i : Nat} (h : i < q) : (rngL b l w q).getD i 0 = min ((lastN l w l.length : Int) / b + (i : Int)) (((l.length : Int) - 1) / b) := by
  unfold rngL
  simp [List.getD_eq_getElem?_getD, h]
end Go.Proofs.YtfcicopgdahmcaaGreatDoor
end

section
namespace Go.Proofs.YtfcicopgdahmcaaGreatDoor
def chN (L n : Nat) : Nat := (L + n - 1) / n
theorem chN_iff {L n k : Nat} (hn : 1 ≤ n) : k < chN L n ↔ k * n < L := by
  unfold chN
  rw [Nat.lt_iff_add_one_le, Nat.le_div_iff_mul_le (by omega), Nat.add_mul]
  omega
theorem chN_le {L n : Nat} (hn : 1 ≤ n) : chN L n ≤ L := by
  rcases Nat.lt_or_ge L (chN L n) with h | h
  · have := (chN_iff hn).1 h
    have := Nat.mul_le_mul_left L hn
    omega
  · exact h
theorem chN_int {L n : Nat} : ((chN L n : Nat) : Int) = ((L : Int) + n - 1) / n ∨ L + n = 0 := by
  rcases Nat.eq_zero_or_pos (L + n) with h | h
  · exact .inr h
  · left; unfold chN; rw [Int.natCast_ediv]; congr 1; omega
theorem chN_lt {L n : Nat} (hn : 2 ≤ n) (h : n < L) : 1 ≤ chN L n ∧ chN L n < L := by
  have h1 := ceil_lt (n := L) (b := n) (by omega) (by omega)
  rcases chN_int (L := L) (n := n) with h2 | h2 <;> omega
def chunks (n : Nat) (l : List ByteArray) : List (List ByteArray) := (List.range (chN l.length n)).map fun k => (l.drop (k * n)).take n
def up (n : Nat) (l : List ByteArray) : List ByteArray := (List.range (chN l.length n)).map fun k => gd l (k * n)
theorem up_len (n : Nat) (l : List ByteArray) : (up n l).length = chN l.length n := by simp [up]
theorem up_gd {n : Nat} {l : List ByteArray} {k : Nat} (h : k < chN l.length n) : gd (up n l) k = gd l (k * n) := by
  show (up n l).getD k _ = _
  unfold up
  rw [List.getD_eq_getElem?_getD, List.getElem?_map, List.getElem?_range h]; rfl
theorem range_from {α : Type} (g : Nat → α) {c k : Nat} (h : k < c) : (List.range (c - k)).map (fun t => g (k + t)) = g k :: (List.range (c - (k + 1))).map fun t => g (k + 1 + t) := by
  rw [show c - k = (c - (k + 1)) + 1 by omega, List.range_succ_eq_map, List.map_cons, List.map_map]
  congr 1
  apply List.map_congr_left
  intro a _
  show g (k + (a + 1)) = g (k + 1 + a)
  congr 1; omega
theorem chunk_L {n : Nat} (hn : 1 ≤ n ∧ n ≤ 1000) {l : List ByteArray} (hl : l.length ≤ 1000000) : ∀ (f k : Nat), k ≤ chN l.length n → chN l.length n - k < f →
    slices_Chunk_Lstringstring_f1_L1 l (n : Int) f ((k * n : Nat) : Int) = some ((List.range (chN l.length n - k)).map fun t => (l.drop ((k + t) * n)).take n)
  | 0, k, _, h => by omega
  | f + 1, k, h1, h2 => by
    show slices_Chunk_Lstringstring_f1_B1 l (n : Int) (slices_Chunk_Lstringstring_f1_L1 l (n : Int) f) _ = _
    unfold slices_Chunk_Lstringstring_f1_B1
    have hi := chN_iff (L := l.length) (k := k) hn.1
    split
    · have hk : k < chN l.length n := hi.2 (by omega)
      rw [lsub_ok (by omega) (by omega) (by omega)]
      simp only [Option.bind_some]
      have e1 : ((l.drop ((k * n : Nat) : Int).toNat).take ((l.length : Int) - ((k * n : Nat) : Int)).toNat).length = l.length - k * n := by rw [Int.toNat_natCast]; simp; omega
      rw [e1]
      have e2 : ((k * n : Nat) : Int) + (n : Int) = (((k + 1) * n : Nat) : Int) := by rw [Nat.add_mul]; omega
      rw [w64_id (x := ((k * n : Nat) : Int) + min (n : Int) ((l.length - k * n : Nat) : Int)) (by omega) (by omega), w64_id (x := ((k * n : Nat) : Int) + (n : Int)) (by omega) (by omega), e2]
      unfold lsub3
      rw [if_pos (by omega), lsub_ok (by omega) (by omega) (by omega)]
      simp only [Option.bind_some]
      rw [chunk_L hn hl f (k + 1) (by omega) (by omega), range_from (fun t => (l.drop (t * n)).take n) hk]
      simp only [yc, Option.map_some]
      congr 2
      rw [Int.toNat_natCast]
      rcases Nat.le_total n (l.length - k * n) with h | h
      · rw [show ((k * n : Nat) : Int) + min (n : Int) ((l.length - k * n : Nat) : Int) - ((k * n : Nat) : Int) = (n : Int) by omega, Int.toNat_natCast]
      · rw [List.take_of_length_le (by simp; omega), List.take_of_length_le (by simp; omega)]
    · have hk : ¬ k < chN l.length n := fun h => by have := hi.1 h; omega
      rw [show chN l.length n - k = 0 by omega]; rfl
theorem chunk_eq {n : Nat} (hn : 1 ≤ n ∧ n ≤ 1000) {l : List ByteArray} (hl : l.length ≤ 1000000) : slices_Chunk_Lstringstring l (n : Int) = some (chunks n l) := by
  unfold slices_Chunk_Lstringstring slices_Chunk_Lstringstring_J1 slices_Chunk_Lstringstring_f1
  rw [if_neg (by omega)]
  have := chunk_L hn hl big 0 (by omega) (by have := chN_le (L := l.length) hn.1; simp only [big]; omega)
  rw [Nat.zero_mul] at this
  rw [show (0 : Int) = ((0 : Nat) : Int) from rfl, this]
  simp only [Option.bind_some, Nat.sub_zero, Nat.zero_add]
  rfl
theorem firsts_L (kx : List ByteArray → Option (List (List ByteArray))) : ∀ (cs : List (List ByteArray)) (acc : List ByteArray), (∀ c ∈ cs, c ≠ []) → acc.length + cs.length ≤ 1000000 →
    fence_levels_L2 kx cs acc = kx (acc ++ cs.map fun c => gd c 0)
  | [], acc, _, _ => by simp [fence_levels_L2]
  | c :: cs, acc, h, hl => by
    simp only [List.length_cons] at hl
    show fence_levels_B2 kx (fence_levels_L2 kx cs) c acc = _
    unfold fence_levels_B2
    have hc := List.length_pos_iff.2 (h c (List.mem_cons_self ..))
    rw [lidx_ok .empty (by omega) (by omega)]
    simp only [Option.bind_some]
    rw [lapp_ok (by simp; omega)]
    simp only [Option.bind_some]
    rw [firsts_L kx cs _ (fun c hc => h c (List.mem_cons_of_mem _ hc)) (by simp; omega)]
    simp
theorem chunks_up {n : Nat} (hn : 1 ≤ n) (l : List ByteArray) : (∀ c ∈ chunks n l, c ≠ []) ∧ (chunks n l).map (fun c => gd c 0) = up n l := by
  constructor
  · intro c hc
    obtain ⟨k, hk, rfl⟩ := List.mem_map.1 hc
    have := (chN_iff hn).1 (List.mem_range.1 hk)
    intro h
    have := congrArg List.length h
    simp at this; omega
  · unfold chunks up
    rw [List.map_map]
    apply List.map_congr_left
    intro k hk
    have := (chN_iff hn).1 (List.mem_range.1 hk)
    show gd ((l.drop (k * n)).take n) 0 = gd l (k * n)
    simp [gd, List.getD_eq_getElem?_getD, List.getElem?_take_of_lt hn]
def lvs (n : Nat) : Nat → List ByteArray → List (List ByteArray)
  | 0, _ => []
  | k + 1, l => if l.length ≤ n then [] else up n l :: lvs n k (up n l)
theorem lvs_len {n : Nat} (hn : 2 ≤ n) : ∀ (k : Nat) (l : List ByteArray), (lvs n k l).length + 1 = stp n k l.length
  | 0, l => rfl
  | k + 1, l => by
    simp only [lvs, stp]
    by_cases h : l.length ≤ n
    · rw [if_pos h, if_pos (by omega)]; rfl
    · rw [if_neg h, if_neg (by omega), List.length_cons, lvs_len hn k, up_len]
      rcases chN_int (L := l.length) (n := n) with h2 | h2
      · rw [h2]; omega
      · omega
theorem levels_L {n : Nat} (hn : 2 ≤ n ∧ n ≤ 8) : ∀ (f k : Nat) (l : List ByteArray) (acc : List (List ByteArray)), l.length ≤ k → l.length < f → acc.length + l.length ≤ 100000 →
    fence_levels_L3 (n : Int) f acc l = some (acc ++ lvs n k l)
  | 0, k, l, acc, h1, h2, h3 => by omega
  | f + 1, k, l, acc, h1, h2, h3 => by
    show fence_levels_B3 (n : Int) (fence_levels_L3 (n : Int) f) acc l = _
    unfold fence_levels_B3
    split
    · rename_i h
      cases k with
      | zero => omega
      | succ k =>
        have hc := chN_lt hn.1 (by omega : n < l.length)
        obtain ⟨c1, c2⟩ := chunks_up (n := n) (by omega) l
        rw [chunk_eq ⟨by omega, by omega⟩ (by omega)]
        simp only [Option.bind_some]
        rw [firsts_L _ _ _ c1 (by simp [chunks]; omega), c2, List.nil_append]
        unfold fence_levels_J1
        rw [lapp_ok (by simp; omega)]
        simp only [Option.bind_some]
        rw [levels_L hn f k (up n l) (acc ++ [up n l]) (by rw [up_len]; omega) (by rw [up_len]; omega) (by simp [up_len]; omega)]
        simp only [lvs]
        rw [if_neg (by omega)]
        simp
    · cases k with
      | zero => simp [lvs]
      | succ k => simp only [lvs]; rw [if_pos (by omega)]; simp
theorem levels_eq {n : Nat} (hn : 2 ≤ n ∧ n ≤ 8) {l : List ByteArray} (hl : l.length ≤ 256) : fence_levels ((n : Int), l) = some (l :: lvs n 256 l) := by
  unfold fence_levels slices_Clone_Lstringstring
  dsimp only
  rw [lapp_ok (by simp; omega)]
  simp only [Option.bind_some, List.nil_append]
  rw [levels_L hn big 256 l _ hl (by simp only [big]; omega) (by simp; omega)]
  rfl
def tow (n : Nat) (l : List ByteArray) : List (List ByteArray) := l :: lvs n 256 l
abbrev gl (L : List (List ByteArray)) (i : Nat) : List ByteArray := L.getD i []
theorem tow_ok {n : Nat} (hn : 2 ≤ n) : ∀ (k : Nat) (l : List ByteArray), l.length ≤ k → (∀ i, i + 1 < (l :: lvs n k l).length → n < (gl (l :: lvs n k l) i).length ∧ gl (l :: lvs n k l) (i + 1) = up n (gl (l :: lvs n k l) i)) ∧ (gl (l :: lvs n k l) ((l :: lvs n k l).length - 1)).length ≤ n
  | 0, l, h => ⟨fun i hi => by simp [lvs] at hi, by simp [lvs, gl]; omega⟩
  | k + 1, l, h => by
    simp only [lvs]
    split
    · exact ⟨fun i hi => by simp at hi, by simpa [gl]⟩
    · rename_i h1
      have hc := chN_lt hn (by omega : n < l.length)
      obtain ⟨i1, i2⟩ := tow_ok hn k (up n l) (by rw [up_len]; omega)
      refine ⟨fun i hi => ?_, ?_⟩
      · cases i with
        | zero => exact ⟨by simp only [gl, List.getD_cons_zero]; omega, rfl⟩
        | succ i =>
          have := i1 i (by simpa using hi)
          simpa [gl] using this
      · simpa [gl] using i2
theorem asc_up {n : Nat} (hn : 1 ≤ n) {l : List ByteArray} (h : AscP l) : AscP (up n l) := by
  refine asc_of (fun i hi => ?_) (fun i hi => ?_)
  · rw [up_len] at hi
    rw [up_gd hi]
    exact (h _ ((chN_iff hn).1 hi)).1
  · rw [up_len] at hi
    rw [up_gd (by omega), up_gd hi]
    exact asc_lt h (by rw [Nat.add_mul]; omega) ((chN_iff hn).1 hi)
theorem tow_len {n : Nat} (hn : 2 ≤ n) (l : List ByteArray) : (tow n l).length = st n l.length := by
  unfold tow st; rw [List.length_cons, lvs_len hn]
theorem tow_asc {n : Nat} (hn : 2 ≤ n) {l : List ByteArray} (hl : 1 ≤ l.length ∧ l.length ≤ 256) (h : AscP l) : ∀ i, i < (tow n l).length → AscP (gl (tow n l) i) ∧ 1 ≤ (gl (tow n l) i).length ∧ (gl (tow n l) i).length ≤ 256
  | 0, _ => ⟨h, hl⟩
  | i + 1, hi => by
    obtain ⟨h1, h2, h3⟩ := tow_asc hn hl h i (by omega)
    obtain ⟨h4, h5⟩ := (tow_ok hn 256 l hl.2).1 i hi
    have hc := chN_lt hn h4
    unfold tow
    rw [h5]
    refine ⟨asc_up (by omega) h1, ?_⟩
    rw [up_len]
    unfold tow at h3
    omega
def levelsI (f : Int × List ByteArray) : List (List ByteArray) × Int := if FenP f then (tow f.1.toNat f.2, 0) else ([], 2)
theorem flevels_eq (f : Int × List ByteArray) : fence_Levels f = some (levelsI f) := by
  unfold fence_Levels levelsI
  rw [check_eq]
  simp only [Option.bind_some]
  by_cases hf : FenP f
  · rw [if_pos hf, if_neg (show ¬ ((0 : Int) ≠ 0) by decide), if_pos hf]
    have hb := hf.1
    have := levels_eq (n := f.1.toNat) (by omega) hb.2.2
    rw [show ((f.1.toNat : Nat) : Int) = f.1 by omega] at this
    rw [show f = (f.1, f.2) from rfl, this]; rfl
  · rw [if_neg hf, if_pos (show (2 : Int) ≠ 0 by decide), if_neg hf]
end Go.Proofs.YtfcicopgdahmcaaGreatDoor
end

section
namespace Go.Proofs.YtfcicopgdahmcaaGreatDoor
theorem stepsI_ok2 {n b : Int} (h : 1 ≤ n ∧ n ≤ 256) (h2 : 2 ≤ b ∧ b ≤ 8) : stepsI n b = ((st b n : Int), 0) := by unfold stepsI; rw [if_pos ⟨h, h2⟩]
def blk (n : Nat) (l : List ByteArray) (t : Nat) : List ByteArray := (l.drop (t * n)).take n
theorem blk_sub {n : Nat} {l : List ByteArray} {t : Nat} (hn : n ≤ 8) (hl : l.length ≤ 1000) (ht : t * n ≤ l.length) (ht2 : t ≤ 1000) : lsub l (w64 ((t : Int) * (n : Int))) (min (w64 (w64 ((t : Int) + 1) * (n : Int))) (l.length : Int)) = some (blk n l t) := by
  have e1 : (t : Int) * (n : Int) = ((t * n : Nat) : Int) := by simp
  have e2 : ((t : Int) + 1) * (n : Int) = ((t * n + n : Nat) : Int) := by rw [Int.add_mul]; simp
  rw [e1, w64_id (x := ((t * n : Nat) : Int)) (by omega) (by omega), w64_id (x := (t : Int) + 1) (by omega) (by omega), e2, w64_id (x := ((t * n + n : Nat) : Int)) (by omega) (by omega), lsub_ok (by omega) (by omega) (by omega)]
  congr 1
  unfold blk
  rw [Int.toNat_natCast]
  rcases Nat.le_total (t * n + n) l.length with h | h
  · congr 1; omega
  · rw [List.take_of_length_le (by simp; omega), List.take_of_length_le (by simp; omega)]
theorem blk_sub' {n : Nat} {l : List ByteArray} {t : Nat} (hn : n ≤ 8) (hl : l.length ≤ 1000) (ht : t * n ≤ l.length) (ht2 : t ≤ 1000) : lsub l (w64 ((t : Int) * (n : Int))) (min (l.length : Int) (w64 (w64 ((t : Int) + 1) * (n : Int)))) = some (blk n l t) := by
  rw [Int.min_comm]; exact blk_sub hn hl ht ht2
theorem blk_len (n : Nat) (l : List ByteArray) (t : Nat) : (blk n l t).length = min n (l.length - t * n) := by simp [blk]
theorem blk_gd {n : Nat} {l : List ByteArray} {t j : Nat} (h : j < n) : gd (blk n l t) j = gd l (t * n + j) := by
  simp [blk, gd, List.getD_eq_getElem?_getD, List.getElem?_take_of_lt h]
theorem blk_asc {n : Nat} {l : List ByteArray} (h : AscP l) (t : Nat) : AscP (blk n l t) := by
  refine asc_of (fun i hi => ?_) (fun i hi => ?_)
  · rw [blk_len] at hi
    rw [blk_gd (by omega)]
    exact (h _ (by omega)).1
  · rw [blk_len] at hi
    rw [blk_gd (by omega), blk_gd (by omega)]
    exact asc_lt h (by omega) (by omega)
theorem blk_top {n : Nat} {l : List ByteArray} (h : l.length ≤ n) : blk n l 0 = l := by
  unfold blk
  rw [Nat.zero_mul, List.drop_zero, List.take_of_length_le h]
theorem blk_up {n : Nat} (hn : 1 ≤ n) {l : List ByteArray} (h : AscP l) (hl : 1 ≤ l.length) (w : ByteArray) : lastN (up n l) w (up n l).length * n < l.length ∧
    lastN (up n l) w (up n l).length * n + lastN (blk n l (lastN (up n l) w (up n l).length)) w (blk n l (lastN (up n l) w (up n l).length)).length = lastN l w l.length := by
  obtain ⟨r, h1, h2, h3⟩ := partk h w l.length (Nat.le_refl _)
  obtain ⟨q, g1, g2, g3⟩ := partk (asc_up hn h) w (up n l).length (Nat.le_refl _)
  rw [lastN_eq h2 _ h1 h3, lastN_eq g2 _ g1 g3]
  rw [up_len] at g1 g3
  have hc0 : 0 < chN l.length n := (chN_iff hn).2 (by omega)
  have a1 : q ≠ 0 → (q - 1) * n < r := fun hq => by
    have h4 := g2 (q - 1) (by omega)
    rw [up_gd (by omega)] at h4
    rcases Nat.lt_or_ge ((q - 1) * n) r with h5 | h5
    · exact h5
    · exact absurd (h3 _ h5 ((chN_iff hn).1 (by omega))) h4
  have a2 : r ≤ q * n := by
    rcases Nat.lt_or_ge q (chN l.length n) with h4 | h4
    · have h5 := g3 q (Nat.le_refl _) h4
      rw [up_gd h4] at h5
      rcases Nat.lt_or_ge (q * n) r with h6 | h6
      · exact absurd h5 (h2 _ h6)
      · exact h6
    · have : ¬ q * n < l.length := fun h5 => by have := (chN_iff hn).2 h5; omega
      omega
  have a3 : q ≠ 0 → q * n = (q - 1) * n + n := fun hq => by
    obtain ⟨p, rfl⟩ : ∃ p, q = p + 1 := ⟨q - 1, by omega⟩
    rw [Nat.add_sub_cancel, Nat.add_mul, Nat.one_mul]
  have a4 : q = 0 → r = 0 := fun hq => by rw [hq, Nat.zero_mul] at a2; omega
  have a5 : q = 0 → (q - 1) * n = 0 := fun hq => by rw [hq]; simp
  refine ⟨by by_cases hq : q = 0
             · have := a5 hq; omega
             · have := a1 hq; omega, ?_⟩
  have e := lastN_eq (l := blk n l (q - 1)) (w := w) (r := r - (q - 1) * n) (fun k hk => by
      have hk2 : k < n := by by_cases hq : q = 0
                             · have := a4 hq; omega
                             · have := a3 hq; omega
      rw [blk_gd hk2]; exact h2 _ (by omega)) (blk n l (q - 1)).length (by
      rw [blk_len]
      by_cases hq : q = 0
      · have := a4 hq; omega
      · have := a3 hq; omega) (fun k hk hk2 => by
      rw [blk_len] at hk2
      rw [blk_gd (by omega)]; exact h3 _ (by omega) (by omega))
  rw [e]
  by_cases hq : q = 0
  · have := a4 hq; have := a5 hq; omega
  · have := a1 hq; omega
def pos (L : List (List ByteArray)) (w : ByteArray) (m : Nat) : Nat := if L.length ≤ m then 0 else lastN (gl L m) w (gl L m).length
def trl (L : List (List ByteArray)) (w : ByteArray) : Nat → List Int
  | 0 => []
  | m + 1 => (pos L w (m + 1) : Int) :: trl L w m
theorem trl_len (L : List (List ByteArray)) (w : ByteArray) : ∀ m, (trl L w m).length = m
  | 0 => rfl
  | m + 1 => by simp [trl, trl_len L w m]
structure Twr (n : Nat) (L : List (List ByteArray)) : Prop where
  n2 : 2 ≤ n
  n8 : n ≤ 8
  len : 1 ≤ L.length ∧ L.length ≤ 300
  step : ∀ i, i + 1 < L.length → n < (gl L i).length ∧ gl L (i + 1) = up n (gl L i)
  top : (gl L (L.length - 1)).length ≤ n
  asc : ∀ i, i < L.length → AscP (gl L i) ∧ 1 ≤ (gl L i).length ∧ (gl L i).length ≤ 256
theorem st_256 {n : Nat} (hn : 2 ≤ n) {x : Int} (hx : x ≤ 256) : st n x ≤ 256 := (st_le (b := n) (n := x) (by omega) hx 256 (by omega)).2 (by
  have e : ∀ j : Nat, (2 : Int) ^ j ≤ (n : Int) ^ j := fun j => by
    induction j with
    | zero => simp
    | succ j ih =>
      rw [Int.pow_succ, Int.pow_succ]
      have p1 : 0 < (2 : Int) ^ j := Int.pow_pos (by omega)
      exact Int.mul_le_mul ih (by omega) (by omega) (by omega)
  have := e 256
  have : (256 : Int) ≤ 2 ^ 256 := by decide
  omega)
theorem twr {n : Nat} (hn : 2 ≤ n ∧ n ≤ 8) {l : List ByteArray} (hl : 1 ≤ l.length ∧ l.length ≤ 256) (h : AscP l) : Twr n (tow n l) :=
  ⟨hn.1, hn.2, by rw [tow_len hn.1]; have := st_256 hn.1 (x := l.length) (by omega); have := st_pos n l.length; omega, (tow_ok hn.1 256 l hl.2).1, (tow_ok hn.1 256 l hl.2).2, tow_asc hn.1 hl h⟩
theorem pos_step {n : Nat} {L : List (List ByteArray)} (h : Twr n L) (w : ByteArray) {m : Nat} (hm : m < L.length) : pos L w (m + 1) * n < (gl L m).length ∧ pos L w (m + 1) * n + lastN (blk n (gl L m) (pos L w (m + 1))) w (blk n (gl L m) (pos L w (m + 1))).length = pos L w m ∧ pos L w (m + 1) ≤ 256 := by
  have ha := h.asc m hm
  unfold pos
  rw [if_neg (by omega : ¬ L.length ≤ m)]
  by_cases h1 : L.length ≤ m + 1
  · rw [if_pos h1]
    have ht := h.top
    rw [show L.length - 1 = m by omega] at ht
    rw [blk_top ht, Nat.zero_mul]
    exact ⟨by omega, by omega, by omega⟩
  · rw [if_neg h1, (h.step m (by omega)).2]
    obtain ⟨b1, b2⟩ := blk_up (by have := h.n2; omega : 1 ≤ n) ha.1 ha.2.1 w
    refine ⟨b1, b2, ?_⟩
    have hn := h.n2
    have := Nat.mul_le_mul_left (lastN (up n (gl L m)) w (up n (gl L m)).length) hn
    omega
theorem pos_lt {n : Nat} {L : List (List ByteArray)} (h : Twr n L) (w : ByteArray) (m : Nat) : pos L w m ≤ 256 := by
  unfold pos
  split
  · omega
  · have ha := h.asc m (by omega)
    have := lastN_le (gl L m) w _ ha.2.1
    omega
def bk (L : List (List ByteArray)) : Nat → List (Int × List ByteArray)
  | 0 => []
  | m + 1 => ((m : Int), gl L m) :: bk L m
theorem bkw_L (L : List (List ByteArray)) (hL : L.length ≤ 100000) : ∀ (f m : Nat), m ≤ L.length → m < f → slices_Backward_LLstringLstring_f1_L1 L f ((m : Int) - 1) = some (bk L m)
  | 0, m, _, h => by omega
  | f + 1, m, h1, h2 => by
    show slices_Backward_LLstringLstring_f1_B1 L (slices_Backward_LLstringLstring_f1_L1 L f) _ = _
    unfold slices_Backward_LLstringLstring_f1_B1
    cases m with
    | zero => rw [if_neg (by omega)]; rfl
    | succ m =>
      rw [if_pos (by omega), show (((m + 1 : Nat) : Int) - 1) = (m : Int) by omega, lidx_nat [] (by omega)]
      simp only [Option.bind_some]
      rw [w64_id (by omega) (by omega), bkw_L L hL f m (by omega) (by omega)]
      rfl
theorem back_eq (L : List (List ByteArray)) (hL : L.length ≤ 100000) : slices_Backward_LLstringLstring L = some (bk L L.length) := by
  unfold slices_Backward_LLstringLstring slices_Backward_LLstringLstring_f1
  rw [w64_id (by omega) (by omega), bkw_L L hL big L.length (Nat.le_refl _) (by simp only [big]; omega)]; rfl
theorem probe_L {n : Nat} {L : List (List ByteArray)} (h : Twr n L) (w : ByteArray) (kx : List Int → Int → Option ((List Int) × Int × Bool × Int)) : ∀ (m : Nat) (acc : List Int), m ≤ L.length → acc.length + m ≤ 1000 →
    fence_Probe_L2 kx (n : Int) w (bk L m) acc (pos L w m : Int) = kx (acc ++ trl L w m) (pos L w 0 : Int)
  | 0, acc, _, _ => by simp [bk, trl, fence_Probe_L2]
  | m + 1, acc, h1, h2 => by
    show fence_Probe_B2 kx (n : Int) w (fence_Probe_L2 kx (n : Int) w (bk L m)) ((m : Int), gl L m) acc _ = _
    unfold fence_Probe_B2 fence_blockOf
    obtain ⟨p1, p2, p3⟩ := pos_step h w (by omega : m < L.length)
    have ha := h.asc m (by omega)
    have hn8 := h.n8
    rw [lapp_ok (by simp; omega)]
    dsimp only
    rw [blk_sub hn8 (by omega) (by omega) (by omega)]
    simp only [Option.bind_some]
    rw [last_eq (by rw [blk_len]; omega) (blk_asc ha.1 _)]
    simp only [Option.bind_some]
    have e1 : (pos L w (m + 1) : Int) * (n : Int) = ((pos L w (m + 1) * n : Nat) : Int) := by simp
    have e2 := pos_lt h w m
    rw [e1, w64_id (x := ((pos L w (m + 1) * n : Nat) : Int)) (by omega) (by omega), w64_id (by omega) (by omega), show ((pos L w (m + 1) * n : Nat) : Int) + (lastN (blk n (gl L m) (pos L w (m + 1))) w (blk n (gl L m) (pos L w (m + 1))).length : Int) = (pos L w m : Int) by omega]
    rw [probe_L h w kx m _ (by omega) (by simp; omega)]
    simp [trl]
def probeI (f : Int × List ByteArray) (w : ByteArray) : List Int × Int × Bool × Int :=
  if ¬ FenP f then ([], 0, false, 2) else if ¬ KeyP w then ([], 0, false, 1)
  else (trl (tow f.1.toNat f.2) w (tow f.1.toNat f.2).length, lastN f.2 w f.2.length, decide (gd f.2 (lastN f.2 w f.2.length) = w), 0)
theorem probeI_1 {f : Int × List ByteArray} {w : ByteArray} (h : ¬ FenP f) : probeI f w = ([], 0, false, 2) := by unfold probeI; rw [if_pos h]
theorem probeI_2 {f : Int × List ByteArray} {w : ByteArray} (h : FenP f) (h2 : ¬ KeyP w) : probeI f w = ([], 0, false, 1) := by unfold probeI; rw [if_neg (fun h3 => h3 h), if_pos h2]
theorem probeI_3 {f : Int × List ByteArray} {w : ByteArray} (h : FenP f) (h2 : KeyP w) : probeI f w = (trl (tow f.1.toNat f.2) w (tow f.1.toNat f.2).length, (lastN f.2 w f.2.length : Int), decide (gd f.2 (lastN f.2 w f.2.length) = w), 0) := by unfold probeI; rw [if_neg (fun h3 => h3 h), if_neg (fun h3 => h3 h2)]
theorem pos_0 (n : Nat) (l : List ByteArray) (w : ByteArray) : pos (tow n l) w 0 = lastN l w l.length := by
  unfold pos; rw [if_neg (by unfold tow; simp)]; rfl
theorem pos_top (L : List (List ByteArray)) (w : ByteArray) : pos L w L.length = 0 := by unfold pos; rw [if_pos (Nat.le_refl _)]
theorem fprobe_eq (f : Int × List ByteArray) (w : ByteArray) : fence_Probe f w = some (probeI f w) := by
  unfold fence_Probe
  rw [check_eq, proper_eq]
  simp only [Option.bind_some]
  by_cases hf : FenP f
  · rw [if_pos hf, if_neg (show ¬ ((0 : Int) ≠ 0) by decide)]
    by_cases hk : KeyP w
    · rw [if_neg (nb_t hk), probeI_3 hf hk]
      have hb := hf.1
      obtain ⟨b, l⟩ := f
      dsimp only at hb ⊢
      obtain ⟨n, rfl⟩ : ∃ n : Nat, b = n := ⟨b.toNat, by omega⟩
      rw [Int.toNat_natCast, levels_eq (by omega) hb.2.2]
      simp only [Option.bind_some]
      have T := twr (n := n) (by omega) hb.2 hf.2
      rw [show l :: lvs n 256 l = tow n l from rfl, back_eq _ (by have := T.len; omega)]
      simp only [Option.bind_some]
      have hP := probe_L T w (fence_Probe_J1 w l) (tow n l).length [] (Nat.le_refl _) (by have := T.len; simp; omega)
      rw [pos_top, pos_0] at hP
      rw [show (0 : Int) = ((0 : Nat) : Int) from rfl, hP]
      unfold fence_Probe_J1
      have := lastN_le l w _ hb.2.1
      rw [lidx_nat .empty (by omega)]
      rfl
    · rw [if_pos (nb_f hk), probeI_2 hf hk]
  · rw [if_neg hf, if_pos (show (2 : Int) ≠ 0 by decide), probeI_1 hf]
end Go.Proofs.YtfcicopgdahmcaaGreatDoor
end

section
namespace Go.Proofs.YtfcicopgdahmcaaGreatDoor
theorem drop_getD {α : Type} (d : α) {l : List α} {v : Nat} (h : v < l.length) : l.drop v = l.getD v d :: l.drop (v + 1) := by
  rw [List.drop_eq_getElem_cons h, List.getD_eq_getElem?_getD]; simp [h]
theorem awake_eq : top_awake = some true := by kernel_rfl
theorem tdesc_L {n : Nat} {L : List (List ByteArray)} (h : Twr n L) {w : ByteArray} (hw : KeyP w) (kx : Int → Option Bool) : ∀ (m f : Nat), m ≤ L.length → m < f →
    top_TopRanges_L8 kx w (L.length : Int) (n : Int) (trl L w L.length) L f (pos L w m : Int) ((m : Int) - 1) = kx (pos L w 0 : Int)
  | m, 0, _, h2 => by omega
  | 0, f + 1, _, _ => by
    show top_TopRanges_B8 kx w _ _ _ L (top_TopRanges_L8 kx w _ _ _ L f) _ _ = _
    unfold top_TopRanges_B8
    rw [if_neg (by omega)]
  | m + 1, f + 1, h1, h2 => by
    show top_TopRanges_B8 kx w (L.length : Int) (n : Int) (trl L w L.length) L (top_TopRanges_L8 kx w (L.length : Int) (n : Int) (trl L w L.length) L f) _ _ = _
    unfold top_TopRanges_B8
    obtain ⟨p1, p2, p3⟩ := pos_step h w (by omega : m < L.length)
    have ha := h.asc m (by omega)
    have hn8 := h.n8
    have hn2 := h.n2
    have hL := h.len
    have ht : ∀ (S i : Nat), i < S → (trl L w S).getD i 0 = (pos L w (S - i) : Int) := by
      intro S
      induction S with
      | zero => intro i hi; omega
      | succ S ih =>
        intro i hi
        cases i with
        | zero => rfl
        | succ i =>
          show (trl L w S).getD i 0 = _
          rw [ih i (by omega), show S + 1 - (i + 1) = S - i by omega]
    rw [if_pos (by omega), show (((m + 1 : Nat) : Int) - 1) = (m : Int) by omega, w64_id (x := (L.length : Int) - 1) (by omega) (by omega), w64_id (x := (L.length : Int) - 1 - (m : Int)) (by omega) (by omega), show (L.length : Int) - 1 - (m : Int) = ((L.length - 1 - m : Nat) : Int) by omega, lidx_nat 0 (by rw [trl_len]; omega), ht _ _ (by omega), show L.length - (L.length - 1 - m) = m + 1 by omega]
    simp only [Option.bind_some]
    rw [if_neg (fun h => h rfl), lidx_nat [] (by omega)]
    simp only [Option.bind_some]
    show (lsub (gl L m) _ _).bind _ = _
    rw [blk_sub' (l := gl L m) hn8 (by omega) (by omega) (by omega)]
    simp only [Option.bind_some]
    rw [fnext_eq _ _ _ (by rw [blk_len]; omega), nextI_3 (by omega) (by omega) hw (by rw [blk_len]; omega) (blk_asc ha.1 _)]
    simp only [Option.bind_some]
    rw [if_neg (fun h => h rfl)]
    have e1 : (pos L w (m + 1) : Int) * (n : Int) + (lastN (blk n (gl L m) (pos L w (m + 1))) w (blk n (gl L m) (pos L w (m + 1))).length : Int) = (pos L w m : Int) := by
      rw [show (pos L w (m + 1) : Int) * (n : Int) = ((pos L w (m + 1) * n : Nat) : Int) by simp]; omega
    rw [e1, w64_id (by omega) (by omega)]
    exact tdesc_L h hw kx m f (by omega) (by omega)
def Gt (l : List ByteArray) (F m : Nat) : List ByteArray := (l.drop F).take (m - F)
theorem Gt_len {l : List ByteArray} {F m : Nat} (h : m ≤ l.length) : (Gt l F m).length = m - F := by unfold Gt; simp; omega
theorem Gt_nil {l : List ByteArray} {F m : Nat} (h : m ≤ F) : Gt l F m = [] := by unfold Gt; rw [show m - F = 0 by omega]; simp
theorem Gt_succ {l : List ByteArray} {F m : Nat} (h : F ≤ m) (hm : m < l.length) : Gt l F (m + 1) = Gt l F m ++ [gd l m] := by
  unfold Gt
  rw [show m + 1 - F = (m - F) + 1 by omega, List.take_add_one, List.getElem?_drop, show F + (m - F) = m by omega]
  simp [gd, List.getD_eq_getElem?_getD, hm]
theorem inner_L {l : List ByteArray} {n : Nat} (hl : l.length ≤ 256) (hn : 2 ≤ n ∧ n ≤ 8) {F b E : Nat} (hb : b ≤ 256) (hE : E = min l.length ((b + 1) * n)) (kx : Int → List ByteArray → Option Bool) : ∀ (f k m : Nat), (k ≤ m ∨ k ≤ F ∧ k < E) → m ≤ l.length → k ≤ E → E - k < f →
    top_TopRanges_L5 kx (F : Int) (b : Int) (n : Int) l f ((m : Int) - 1) (Gt l F m) (k : Int) = kx (((max m E : Nat) : Int) - 1) (Gt l F (max m E))
  | 0, k, m, _, _, _, h => by omega
  | f + 1, k, m, h1, h2, h3, h4 => by
    show top_TopRanges_B5 kx (F : Int) (b : Int) (n : Int) l (top_TopRanges_L5 kx (F : Int) (b : Int) (n : Int) l f) _ _ _ = _
    unfold top_TopRanges_B5
    have e1 : min (l.length : Int) (w64 (w64 ((b : Int) + 1) * (n : Int))) = (E : Int) := by
      have : (b + 1) * n ≤ 257 * 8 := Nat.mul_le_mul (by omega) hn.2
      rw [w64_id (x := (b : Int) + 1) (by omega) (by omega), show ((b : Int) + 1) * (n : Int) = (((b + 1) * n : Nat) : Int) by simp, w64_id (by omega) (by omega)]
      omega
    rw [e1]
    by_cases hk : k < E
    · rw [if_pos (by omega)]
      have hkl : k < l.length := by omega
      by_cases hc : (m : Int) - 1 < (k : Int) ∧ (F : Int) ≤ (k : Int)
      · rw [if_pos hc, lidx_nat .empty hkl]
        simp only [Option.bind_some]
        rw [lapp_ok (by rw [Gt_len h2]; simp; omega)]
        simp only [Option.bind_some]
        unfold top_TopRanges_J4
        rw [w64_id (by omega) (by omega), show max ((m : Int) - 1) (k : Int) = (((k + 1 : Nat) : Int) - 1) by omega, show (k : Int) + 1 = ((k + 1 : Nat) : Int) by omega]
        have e2 : Gt l F m ++ [gd l k] = Gt l F (k + 1) := by
          rcases h1 with h1 | h1
          · rw [show m = k by omega, Gt_succ (by omega) hkl]
          · rw [Gt_succ (by omega) hkl, Gt_nil (by omega), Gt_nil (by omega)]
        show top_TopRanges_L5 kx _ _ _ l f _ (Gt l F m ++ [gd l k]) _ = _
        rw [e2, inner_L hl hn hb hE kx f (k + 1) (k + 1) (.inl (Nat.le_refl _)) (by omega) (by omega) (by omega), show max (k + 1) E = max m E by omega]
      · rw [if_neg hc]
        unfold top_TopRanges_J4
        rw [w64_id (by omega) (by omega), show (k : Int) + 1 = ((k + 1 : Nat) : Int) by omega]
        by_cases hm : k < m
        · rw [show max ((m : Int) - 1) (k : Int) = (m : Int) - 1 by omega, inner_L hl hn hb hE kx f (k + 1) m (.inl (by omega)) h2 (by omega) (by omega)]
        · rw [show max ((m : Int) - 1) (k : Int) = (((k + 1 : Nat) : Int) - 1) by omega, show Gt l F m = Gt l F (k + 1) by rw [Gt_nil (by omega), Gt_nil (by omega)], inner_L hl hn hb hE kx f (k + 1) (k + 1) (.inl (Nat.le_refl _)) (by omega) (by omega) (by omega), show max (k + 1) E = max m E by omega]
    · rw [if_neg (by omega), show max m E = m by omega]
theorem outer_L {l : List ByteArray} {n : Nat} (hl : 1 ≤ l.length ∧ l.length ≤ 256) (hn : 2 ≤ n ∧ n ≤ 8) {w : ByteArray} {F q : Nat} (hq : q ≤ 64) (hF : lastN l w l.length ≤ F) (kx : List ByteArray → Option Bool) : ∀ (xs : List Int) (i m : Nat), (rngL (n : Int) l w q).drop i = xs → (i = 0 ∧ m = 0) ∨ m = min l.length ((lastN l w l.length / n + i) * n) →
    top_TopRanges_L6 kx (F : Int) (n : Int) l xs ((m : Int) - 1) (Gt l F m) = kx (Gt l F (if q ≤ i then m else min l.length ((lastN l w l.length / n + q) * n)))
  | [], i, m, h, hm => by
    have : q ≤ i := by have := congrArg List.length h; simp [rngL_len] at this; omega
    rw [if_pos this]; rfl
  | x :: xs, i, m, h, hm => by
    have hi : i < q := by
      rcases Nat.lt_or_ge i q with h2 | h2
      · exact h2
      · rw [List.drop_of_length_le (by rw [rngL_len]; exact h2)] at h; cases h
    have hx : x = ((min (lastN l w l.length / n + i) ((l.length - 1) / n) : Nat) : Int) := by
      have h2 := drop_getD (0 : Int) (l := rngL (n : Int) l w q) (v := i) (by rw [rngL_len]; exact hi)
      rw [h] at h2
      have h3 : x = (rngL (n : Int) l w q).getD i 0 := (List.cons.inj h2).1
      rw [h3, rng_get hi]
      rw [show ((l.length : Int) - 1) = ((l.length - 1 : Nat) : Int) by omega]
      rw [← Int.natCast_ediv, ← Int.natCast_ediv]
      generalize lastN l w l.length / n = A
      generalize (l.length - 1) / n = B
      omega
    have hlt := lastN_le l w _ hl.1
    show top_TopRanges_B6 kx (F : Int) (n : Int) l (top_TopRanges_L6 kx (F : Int) (n : Int) l xs) x _ _ = _
    unfold top_TopRanges_B6
    generalize hA : lastN l w l.length / n = A at *
    generalize hB : (l.length - 1) / n = B at *
    have hAB : n = 2 ∨ n = 3 ∨ n = 4 ∨ n = 5 ∨ n = 6 ∨ n = 7 ∨ n = 8 := by omega
    have key : (min (A + i) B) * n < l.length ∧ min (A + i) B ≤ 256 ∧ ((min (A + i) B) * n ≤ m ∨ (min (A + i) B) * n ≤ F) ∧ max m (min l.length ((min (A + i) B + 1) * n)) = min l.length ((A + (i + 1)) * n) ∧ m ≤ l.length := by
      rcases hAB with rfl | rfl | rfl | rfl | rfl | rfl | rfl <;> omega
    obtain ⟨k1, k2, k3, k4, k5⟩ := key
    rw [hx, show ((min (A + i) B : Nat) : Int) * (n : Int) = (((min (A + i) B) * n : Nat) : Int) by simp, w64_id (by omega) (by omega)]
    have hlt2 : (min (A + i) B) * n < min l.length ((min (A + i) B + 1) * n) := by
      rw [Nat.add_mul]; omega
    rw [inner_L hl.2 hn k2 rfl _ big _ m (by omega) k5 (by omega) (by simp only [big]; omega), k4, outer_L hl hn hq hF kx xs (i + 1) _ (by rw [← List.drop_drop, h]; rfl) (.inr (by rw [hA]))]
    rw [hA, if_neg (by omega : ¬ q ≤ i)]
    congr 2
    split
    · rw [show i + 1 = q by omega]
    · rfl
theorem tcheck_L {l : List ByteArray} {w : ByteArray} {F : Nat} (hl : l.length ≤ 256) (hF : ∀ k, F ≤ k → k < l.length → ¬ sLt (gd l k) w) (kx : Option Bool) {m : Nat} (hm : m ≤ l.length) : ∀ (xs : List ByteArray) (i : Nat), (Gt l F m).drop i = xs →
    top_TopRanges_L2 kx w (F : Int) l xs i = kx
  | [], _, _ => rfl
  | x :: xs, i, h => by
    show top_TopRanges_B2 kx w (F : Int) l (top_TopRanges_L2 kx w (F : Int) l xs (i + 1)) x i = _
    unfold top_TopRanges_B2
    have hi : i < m - F := by
      rcases Nat.lt_or_ge i (Gt l F m).length with h2 | h2
      · rwa [Gt_len hm] at h2
      · rw [List.drop_of_length_le h2] at h; cases h
    have hx : x = gd l (F + i) := by
      have h2 := drop_getD ByteArray.empty (l := Gt l F m) (v := i) (by rw [Gt_len hm]; exact hi)
      rw [h] at h2
      rw [(List.cons.inj h2).1]
      simp only [List.getD_eq_getElem?_getD, gd, Gt]
      rw [List.getElem?_take_of_lt hi, List.getElem?_drop]
    rw [w64_id (by omega) (by omega), if_neg (by
      rintro (h3 | h3)
      · rw [hx] at h3; exact hF _ (by omega) (by omega) h3
      · omega), show (F : Int) + (i : Int) = ((F + i : Nat) : Int) by omega, lidx_nat .empty (by omega)]
    simp only [Option.bind_some]
    rw [if_neg (by rw [decide_eq_true_eq]; exact fun h3 => h3 hx)]
    exact tcheck_L hl hF kx hm xs (i + 1) (by rw [← List.drop_drop, h]; rfl)
theorem tcheck_0 {l : List ByteArray} {w : ByteArray} {F : Nat} (hl : l.length ≤ 256) (hF : ∀ k, F ≤ k → k < l.length → ¬ sLt (gd l k) w) (kx : Option Bool) {m : Nat} (hm : m ≤ l.length) : top_TopRanges_L2 kx w (F : Int) l (Gt l F m) 0 = kx := tcheck_L hl hF kx hm _ 0 rfl
theorem law_tranges {x0 : List Int} {x1 : Int} (h1 : 0 ≤ x1 ∧ x1 ≤ 255) : top_TopRanges x0 x1 = some true := by
  unfold top_TopRanges
  rw [awake_eq, few_eq]
  simp only [Option.bind_some]
  rw [if_neg (by simp)]
  by_cases hl : x0.length ≤ 500
  · rw [if_neg (nb_t hl)]
    show (some (x0, (0 : Int))).bind _ = _
    simp only [Option.bind_some]
    obtain ⟨⟨b, l⟩, e, hf, hF, _, h25, hwd, hd⟩ := fence_ok (l := x0) (by omega) (d := (x0, 0)) ⟨rfl, by dsimp only; omega, by dsimp only; omega⟩
    rw [hf]
    have hb := hF.1
    dsimp only at hb h25 hwd
    simp only [Option.bind_some]
    obtain ⟨w, e2, hw, hwd2, hd2⟩ := word_ok (l := x0) (by omega) hd
    have hk : KeyP w := by unfold Wd at hwd2; unfold KeyP; omega
    rw [hw]
    simp only [Option.bind_some, flevels_eq, levelsI, steps_eq, fprobe_eq, probeI_3 hF hk]
    rw [if_pos hF]
    dsimp only
    obtain ⟨n, rfl⟩ : ∃ n : Nat, b = n := ⟨b.toNat, by omega⟩
    have T := twr (n := n) (by omega) hb.2 hF.2
    have hTl := T.len
    rw [stepsI_ok2 (by omega) (by omega), Int.toNat_natCast, ← tow_len (by omega), trl_len]
    rw [if_neg (by simp), w64_id (by omega) (by omega)]
    have hD := tdesc_L T hk (top_TopRanges_J7 x1 w (lastN l w l.length : Int) (n : Int) l) (tow n l).length big (Nat.le_refl _) (by simp only [big]; omega)
    rw [pos_top, pos_0] at hD
    rw [show (0 : Int) = ((0 : Nat) : Int) from rfl, hD]
    unfold top_TopRanges_J7
    have et : Int.tmod x1 5 = x1 % 5 := by rw [Int.tmod_eq_emod_of_nonneg (by omega)]
    obtain ⟨q, hq⟩ : ∃ q : Nat, (q : Int) = 1 + x1 % 5 := ⟨(1 + x1 % 5).toNat, by omega⟩
    have ew : w64 (1 + w64 (Int.tmod x1 5)) = (q : Int) := by rw [et, w64_id (x := x1 % 5) (by omega) (by omega), w64_id (by omega) (by omega)]; omega
    rw [ew, range_eq, rangeI_3 hF ⟨hk, by omega, by omega⟩]
    simp only [Option.bind_some, Int.toNat_natCast]
    have hlt := lastN_le l w _ hb.2.1
    rw [rngL_len]
    have e0 : (rngL (n : Int) l w q).getD 0 0 = (lastN l w l.length : Int) / (n : Int) := by
      rw [rng_get (by omega)]
      have : (lastN l w l.length : Int) / (n : Int) ≤ ((l.length : Int) - 1) / (n : Int) := Int.ediv_le_ediv (by omega) (by omega)
      simp; omega
    rw [if_neg (by simp), show (0 : Int) = ((0 : Nat) : Int) from rfl, lidx_nat 0 (by rw [rngL_len]; omega), e0, nz_of (by omega)]
    simp only [Option.bind_some]
    have hdv : Int.tdiv (lastN l w l.length : Int) (n : Int) = (lastN l w l.length : Int) / (n : Int) := Int.tdiv_eq_ediv_of_nonneg (by omega)
    have hdb : (lastN l w l.length : Int) / (n : Int) ≤ (lastN l w l.length : Int) := Int.ediv_le_self _ (by omega)
    have hd0 : 0 ≤ (lastN l w l.length : Int) / (n : Int) := Int.ediv_nonneg (by omega) (by omega)
    rw [hdv, w64_id (by omega) (by omega), if_neg (by simp)]
    obtain ⟨f1, f2, f3⟩ := fst_ok hF.2 hb.2.1 w
    dsimp only at f1 f2 f3
    have hFl : lastN l w l.length ≤ fstN l w ∧ fstN l w ≤ lastN l w l.length + 1 := by unfold fstN; split <;> omega
    have hO := outer_L (n := n) (w := w) (q := q) (F := fstN l w) hb.2 (by omega) (by omega) hFl.1 (top_TopRanges_J3 w (q : Int) (fstN l w : Int) (n : Int) l) (rngL (n : Int) l w q) 0 0 rfl (.inl ⟨rfl, rfl⟩)
    rw [Gt_nil (by omega), if_neg (by omega : ¬ q ≤ 0)] at hO
    rw [show (-1 : Int) = ((0 : Nat) : Int) - 1 by omega, hO]
    unfold top_TopRanges_J3
    rw [tcheck_0 hb.2.2 f3 _ (by omega)]
    unfold top_TopRanges_J1
    rw [Gt_len (by omega), w64_id (x := (l.length : Int) - (fstN l w : Int)) (by omega) (by omega), w64_id (x := (q : Int) - 1) (by omega) (by omega)]
    have hn8 : n = 2 ∨ n = 3 ∨ n = 4 ∨ n = 5 ∨ n = 6 ∨ n = 7 ∨ n = 8 := by omega
    congr 1
    rw [decide_eq_true_eq]
    rcases hn8 with rfl | rfl | rfl | rfl | rfl | rfl | rfl <;> (rw [w64_id (by omega) (by omega)]; omega)
  · rw [if_pos (nb_f hl)]
end Go.Proofs.YtfcicopgdahmcaaGreatDoor
end
