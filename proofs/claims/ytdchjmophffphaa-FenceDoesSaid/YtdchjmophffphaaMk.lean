/- Plain: what the packs of numbers give (privatefetchmake). -/
import Derived.Test.YtdchjmophffphaaS
namespace Go.Proofs.Ytdchjmophffphaa

theorem nz_ok {y : Int} (h : y ≠ 0) : nz y = some () := by unfold nz; rw [if_neg h]
theorem lidx_ok {α : Type} {l : List α} {i : Int} (d : α) (h0 : 0 ≤ i) (h1 : i < l.length) : lidx l i = some (l.getD i.toNat d) := by
  refine lidx_of h0 ?_
  rw [List.getD_eq_getElem?_getD]
  have : i.toNat < l.length := by omega
  simp [this]
theorem lidx_nat {α : Type} {l : List α} {i : Nat} (d : α) (h1 : i < l.length) : lidx l (i : Int) = some (l.getD i d) := by
  rw [lidx_ok d (by omega) (by omega), Int.toNat_natCast]
theorem lapp_ok {α : Type} {l m : List α} (h : l.length + m.length ≤ 16777216) : lapp l m = some (l ++ m) := by unfold lapp; rw [if_pos h]
theorem lsub_ok {α : Type} {l : List α} {i j : Int} (h0 : 0 ≤ i) (h1 : i ≤ j) (h2 : j ≤ l.length) : lsub l i j = some ((l.drop i.toNat).take (j - i).toNat) := by unfold lsub; rw [if_pos ⟨h0, h1, h2⟩]
theorem lupd_ok {α : Type} {l : List α} {i : Int} {y : α} (h0 : 0 ≤ i) (h1 : i < l.length) : lupd l i y = some (l.set i.toNat y) := by unfold lupd; rw [if_pos ⟨h0, h1⟩]
theorem ofB_size (l : List Int) : (ofB l).size = l.length := by simp [ofB, ByteArray.size]

theorem mod_ok {x n : Int} (hn : 1 ≤ n) (hn2 : n ≤ 1000000) : make_Mod x n = some (x % n) := by
  unfold make_Mod
  rw [nz_ok (by omega)]
  simp only [Option.bind_some]
  have h1 := Int.lt_tmod_of_pos x (by omega : 0 < n)
  have h2 := Int.tmod_lt_of_pos x (by omega : 0 < n)
  rw [w64_id (by omega) (by omega), Int.tmod_eq_emod_of_nonneg (by omega), Int.add_emod_right]
  congr 1
  have h3 := Int.tmod_add_mul_tdiv x n
  have h4 : x.tmod n = x - n * x.tdiv n := by omega
  rw [h4, Int.sub_mul_emod_self_left]

theorem dnext_ok {l : List Int} (hl : l.length ≤ 1000) {p n : Int} (h0 : 0 ≤ p ∧ p ≤ 1000) (hn : 1 ≤ n ∧ n ≤ 1000000) : ∃ v q, make_Deck_Next (l, p) n = some (v, (l, q)) ∧ 0 ≤ v ∧ v < n ∧ 0 ≤ q ∧ q ≤ 1000 := by
  unfold make_Deck_Next
  split
  · exact ⟨0, p, rfl, by omega, by omega, h0.1, h0.2⟩
  · rename_i h
    dsimp only at h ⊢
    rw [lidx_ok 0 (by omega) (by omega)]
    simp only [Option.bind_some]
    rw [mod_ok hn.1 hn.2]
    simp only [Option.bind_some]
    refine ⟨_, _, rfl, Int.emod_nonneg _ (by omega), Int.emod_lt_of_pos _ (by omega), ?_⟩
    rw [w64_id (by omega) (by omega)]; omega

theorem word_L {l : List Int} (hl : l.length ≤ 1000) : ∀ (f : Nat) (acc : List Int) (c p : Int), -1 ≤ c → c ≤ 10 → c + 2 ≤ f → acc.length + c ≤ 10 → 0 ≤ p → p ≤ 1000 →
    ∃ s q, make_Word_L2 make_Word_J1 f acc c l p = some (s, (l, q)) ∧ (s.size : Int) = acc.length + (c + 1) ∧ 0 ≤ q ∧ q ≤ 1000
  | 0, acc, c, p, h1, _, h2, _, _, _ => by omega
  | f + 1, acc, c, p, h1, h2, h3, h4, h5, h6 => by
    show ∃ s q, make_Word_B2 make_Word_J1 (make_Word_L2 make_Word_J1 f) acc c l p = _ ∧ _
    unfold make_Word_B2
    split
    · obtain ⟨v, q, e, _, _, hq1, hq2⟩ := dnext_ok hl ⟨h5, h6⟩ (n := 4) (by omega)
      rw [e]
      simp only [Option.bind_some]
      rw [lapp_ok (by simp; omega)]
      simp only [Option.bind_some]
      rw [w64_id (x := c - 1) (by omega) (by omega)]
      obtain ⟨s, q2, e2, hs, hq⟩ := word_L hl f (acc ++ [wu8 (w64 (97 + v))]) (c - 1) q (by omega) (by omega) (by omega) (by simp; omega) hq1 hq2
      exact ⟨s, q2, e2, by rw [hs]; simp; omega, hq⟩
    · exact ⟨_, _, rfl, by rw [ofB_size]; omega, h5, h6⟩

/-- A pack: its numbers, and how far it is read. -/
def Dk (l : List Int) (d : List Int × Int) : Prop := d.1 = l ∧ 0 ≤ d.2 ∧ d.2 ≤ 1000
/-- A word of a pack. -/
def Wd (s : ByteArray) : Prop := 1 ≤ s.size ∧ s.size ≤ 4

theorem next_ok {l : List Int} (hl : l.length ≤ 1000) {d : List Int × Int} (hd : Dk l d) {n : Int} (hn : 1 ≤ n ∧ n ≤ 1000000) : ∃ v e, make_Deck_Next d n = some (v, e) ∧ 0 ≤ v ∧ v < n ∧ Dk l e := by
  obtain ⟨d1, d2⟩ := d
  obtain ⟨rfl, h1, h2⟩ := hd
  obtain ⟨v, q, e, a, b, c, f⟩ := dnext_ok hl ⟨h1, h2⟩ hn
  exact ⟨v, _, e, a, b, rfl, c, f⟩

theorem word_ok {l : List Int} (hl : l.length ≤ 1000) {d : List Int × Int} (hd : Dk l d) : ∃ s e, make_Word d = some (s, e) ∧ Wd s ∧ Dk l e := by
  obtain ⟨v, e, he, h1, h2, h3⟩ := next_ok hl hd (n := 4) (by omega)
  unfold make_Word
  rw [he]
  simp only [Option.bind_some]
  obtain ⟨e1, e2⟩ := e
  obtain ⟨rfl, h4, h5⟩ := h3
  obtain ⟨s, q, hs, hz, hq⟩ := word_L hl big [] v e2 (by omega) (by omega) (by simp only [big]; omega) (by simp; omega) h4 h5
  exact ⟨s, _, hs, by unfold Wd; simp at hz; omega, rfl, hq⟩

theorem words_in (kx : Bool → Int → Option ((List ByteArray) × ((List Int) × Int))) (w : ByteArray) (z : Int) : ∀ (l : List ByteArray) (b : Bool), make_Words_L2 kx w z l b = kx (b || l.any fun x => decide (x = w)) z
  | [], b => by simp [make_Words_L2]
  | x :: l, b => by
    show make_Words_B2 kx w z (make_Words_L2 kx w z l) x b = _
    unfold make_Words_B2
    rw [words_in kx w z l, List.any_cons, ← Bool.or_assoc]
    congr 2
    rw [Bool.eq_iff_iff]
    simp only [Bool.or_eq_true, decide_eq_true_eq]

theorem words_L {l : List Int} (hl : l.length ≤ 1000) : ∀ (f : Nat) (ws : List ByteArray) (c p : Int), 0 ≤ c → c ≤ 1000 → c < f → ws.length + c ≤ 1000 → Dk l (l, p) → ws.Nodup → (∀ w ∈ ws, Wd w) →
    ∃ vs e, make_Words_L3 f ws c l p = some (vs, e) ∧ Dk l e ∧ vs.Nodup ∧ (∀ w ∈ vs, Wd w) ∧ vs.length ≤ ws.length + c
  | 0, ws, c, p, h1, _, h2, _, _, _, _ => by omega
  | f + 1, ws, c, p, h1, h2, h3, h4, h5, h6, h7 => by
    show ∃ vs e, make_Words_B3 (make_Words_L3 f) ws c l p = _ ∧ _
    unfold make_Words_B3
    split
    · obtain ⟨s, ⟨e1, e2⟩, he, hw, hd⟩ := word_ok hl h5
      rw [he]
      simp only [Option.bind_some]
      rw [words_in]
      unfold make_Words_J1
      obtain ⟨hq, hd2⟩ := id hd
      dsimp only at hq hd2
      subst hq
      rw [w64_id (x := c - 1) (by omega) (by omega)]
      split
      · rename_i hm
        have hm : s ∉ ws := fun hs => by simp at hm; exact hm s hs rfl
        rw [lapp_ok (by simp; omega)]
        simp only [Option.bind_some]
        obtain ⟨vs, e, h, ha, hb, hc, hz⟩ := words_L hl f (ws ++ [s]) (c - 1) e2 (by omega) (by omega) (by omega) (by simp; omega) ⟨rfl, hd2⟩
          (by rw [List.nodup_append]; exact ⟨h6, by simp, fun a ha b hb => by simp at hb; subst hb; rintro rfl; exact hm ha⟩)
          (fun w hw2 => by rcases List.mem_append.1 hw2 with hw2 | hw2
                           · exact h7 w hw2
                           · simp at hw2; subst hw2; exact hw)
        exact ⟨vs, e, h, ha, hb, hc, by simp at hz; omega⟩
      · obtain ⟨vs, e, h, ha, hb, hc, hz⟩ := words_L hl f ws (c - 1) e2 (by omega) (by omega) (by omega) (by omega) ⟨rfl, hd2⟩ h6 h7
        exact ⟨vs, e, h, ha, hb, hc, by omega⟩
    · exact ⟨_, _, rfl, h5, h6, h7, by omega⟩

theorem words_ok {l : List Int} (hl : l.length ≤ 1000) {d : List Int × Int} (hd : Dk l d) {n : Int} (hn : 0 ≤ n ∧ n ≤ 900) : ∃ vs e, make_Words d n = some (vs, e) ∧ Dk l e ∧ vs.Nodup ∧ (∀ w ∈ vs, Wd w) ∧ vs.length ≤ n := by
  unfold make_Words
  rw [w64_id (by omega) (by omega)]
  obtain ⟨v, ⟨e1, e2⟩, he, h1, h2, h3⟩ := next_ok hl hd (n := n + 1) (by omega)
  rw [he]
  simp only [Option.bind_some]
  obtain ⟨hq, h4⟩ := id h3
  dsimp only at hq h4
  subst hq
  obtain ⟨vs, e, h, ha, hb, hc, hz⟩ := words_L hl big [] v e2 (by omega) (by omega) (by simp only [big]; omega) (by simp; omega) ⟨rfl, h4⟩ List.nodup_nil (fun _ h => by cases h)
  exact ⟨vs, e, h, ha, hb, hc, by simp at hz; omega⟩
end Go.Proofs.Ytdchjmophffphaa
