/- Plain: numbers out of packs (privatefetchmake). -/
import Derived.Test.YtbhmhindommaeaaS
namespace Go.Proofs.Ytbhmhindommaeaa

theorem nz_ok {y : Int} (h : y ≠ 0) : nz y = some () := by unfold nz; rw [if_neg h]
theorem lidx_ok {α : Type} {l : List α} {i : Int} (d : α) (h0 : 0 ≤ i) (h1 : i < l.length) : lidx l i = some (l.getD i.toNat d) := by
  refine lidx_of h0 ?_
  rw [List.getD_eq_getElem?_getD]
  have : i.toNat < l.length := by omega
  simp [this]
theorem lidx_nat {α : Type} {l : List α} {i : Nat} (d : α) (h1 : i < l.length) : lidx l (i : Int) = some (l.getD i d) := by
  rw [lidx_ok d (by omega) (by omega), Int.toNat_natCast]
theorem lapp_ok {α : Type} {l m : List α} (h : l.length + m.length ≤ 16777216) : lapp l m = some (l ++ m) := by unfold lapp; rw [if_pos h]
theorem lsub_ok {α : Type} {l : List α} {i j : Int} (h0 : 0 ≤ i) (h1 : i ≤ j) (h2 : j ≤ l.length) : lsub l i j = some ((l.drop i.toNat).take (j - i).toNat) := by unfold lsub; rw [if_pos ⟨h0, h1, h2⟩]
theorem lupd_ok {α : Type} {l : List α} {i : Int} {y : α} (h0 : 0 ≤ i) (h1 : i < l.length) : lupd l i y = some (l.set i.toNat y) := by unfold lupd; rw [if_pos ⟨h0, h1⟩]
theorem ofB_size (l : List Int) : (ofB l).size = l.length := by simp [ofB, ByteArray.size]

theorem mod_ok {x n : Int} (hn : 1 ≤ n) (hn2 : n ≤ 1000000) : make_Mod x n = some (x % n) := by
  unfold make_Mod
  rw [nz_ok (by omega)]
  simp only [Option.bind_some]
  have h1 := Int.lt_tmod_of_pos x (by omega : 0 < n)
  have h2 := Int.tmod_lt_of_pos x (by omega : 0 < n)
  rw [w64_id (by omega) (by omega), Int.tmod_eq_emod_of_nonneg (by omega), Int.add_emod_right]
  congr 1
  have h3 := Int.tmod_add_mul_tdiv x n
  have h4 : x.tmod n = x - n * x.tdiv n := by omega
  rw [h4, Int.sub_mul_emod_self_left]

theorem dnext_ok {l : List Int} (hl : l.length ≤ 1000) {p n : Int} (h0 : 0 ≤ p ∧ p ≤ 1000) (hn : 1 ≤ n ∧ n ≤ 1000000) : ∃ v q, make_Deck_Next (l, p) n = some (v, (l, q)) ∧ 0 ≤ v ∧ v < n ∧ 0 ≤ q ∧ q ≤ 1000 := by
  unfold make_Deck_Next
  split
  · exact ⟨0, p, rfl, by omega, by omega, h0.1, h0.2⟩
  · rename_i h
    dsimp only at h ⊢
    rw [lidx_ok 0 (by omega) (by omega)]
    simp only [Option.bind_some]
    rw [mod_ok hn.1 hn.2]
    simp only [Option.bind_some]
    refine ⟨_, _, rfl, Int.emod_nonneg _ (by omega), Int.emod_lt_of_pos _ (by omega), ?_⟩
    rw [w64_id (by omega) (by omega)]; omega

/-- A pack: its numbers, and how far it is read. -/
def Dk (l : List Int) (d : List Int × Int) : Prop := d.1 = l ∧ 0 ≤ d.2 ∧ d.2 ≤ 1000
theorem next_ok {l : List Int} (hl : l.length ≤ 1000) {d : List Int × Int} (hd : Dk l d) {n : Int} (hn : 1 ≤ n ∧ n ≤ 1000000) : ∃ v e, make_Deck_Next d n = some (v, e) ∧ 0 ≤ v ∧ v < n ∧ Dk l e := by
  obtain ⟨d1, d2⟩ := d
  obtain ⟨rfl, h1, h2⟩ := hd
  obtain ⟨v, q, e, a, b, c, f⟩ := dnext_ok hl ⟨h1, h2⟩ hn
  exact ⟨v, _, e, a, b, rfl, c, f⟩
end Go.Proofs.Ytbhmhindommaeaa
