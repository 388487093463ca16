/- Chapter 29, plain: dice, and what they want. -/
import Derived.Test.YtmjidoadjinhgaaC29c
namespace Go.Proofs.Ytmjidoadjinhgaa

theorem sane29 : law29_sane = some true := by kernel_rfl

/-- Dice's numbers. -/
def Dl (l : List Int) : Prop := l.length ≤ 300 ∧ ∀ y ∈ l, 0 ≤ y ∧ y ≤ 255
def Dk (l : List Int) (d : List Int × Int) : Prop := d.1 = l ∧ 0 ≤ d.2 ∧ d.2 ≤ 300
theorem new_ok {x : List Int} (h : ∀ y ∈ x, 0 ≤ y ∧ y ≤ 255) : ∃ d, play_New x = some d ∧ Dl d.1 ∧ Dk d.1 d := by
  unfold play_New play_New_J1
  split
  · rw [lsub_ok (by omega) (by omega) (by omega)]
    refine ⟨_, rfl, ⟨by simp; omega, fun y hy => ?_⟩, rfl, by dsimp only; omega, by dsimp only; omega⟩
    simp only [Int.toNat_zero, List.drop_zero] at hy
    exact h y (List.mem_of_mem_take hy)
  · exact ⟨_, rfl, ⟨by dsimp only; omega, h⟩, rfl, by dsimp only; omega, by dsimp only; omega⟩

theorem pick_ok {l : List Int} (hl : Dl l) {d : List Int × Int} (hd : Dk l d) {n : Int} (hn : 1 ≤ n) : ∃ v e, play_Dice_Pick d n = some (v, e) ∧ (0 ≤ v ∧ v < n) ∧ Dk l e := by
  obtain ⟨d1, p⟩ := d
  obtain ⟨rfl, h1, h2⟩ := hd
  dsimp only at h1 h2
  unfold play_Dice_Pick
  dsimp only
  split
  · exact ⟨0, _, rfl, by omega, rfl, h1, h2⟩
  · have hlt : p.toNat < d1.length := by omega
    have hi := lidx_nat 0 hlt
    rw [show ((p.toNat : Nat) : Int) = p by omega] at hi
    have hm : d1.getD p.toNat 0 ∈ d1 := by
      rw [List.getD_eq_getElem?_getD]; simp [hlt]
    have hv := hl.2 _ hm
    have hl1 := hl.1
    dsimp only at hl1
    rw [w64_id (x := p + 1) (by omega) (by omega), w64_id (x := p + 1 - 1) (by omega) (by omega), show p + 1 - 1 = p by omega, hi, nz_of (by omega)]
    simp only [Option.bind_some]
    rw [w64_id (x := d1.getD p.toNat 0) (by omega) (by omega), Int.tmod_eq_emod_of_nonneg hv.1]
    exact ⟨_, _, rfl, ⟨Int.emod_nonneg _ (by omega), Int.emod_lt_of_pos _ (by omega)⟩, rfl, by dsimp only; omega, by dsimp only; omega⟩

theorem scheme_ok {l : List Int} (hl : Dl l) {d : List Int × Int} (hd : Dk l d) : ∃ s e, play_Dice_Scheme d = some (s, e) ∧ Dk l e := by
  unfold play_Dice_Scheme
  obtain ⟨v1, d1, h1, b1, k1⟩ := pick_ok hl hd (n := 4) (by omega)
  rw [h1]; simp only [Option.bind_some]
  obtain ⟨v2, d2, h2, b2, k2⟩ := pick_ok hl k1 (n := 3) (by omega)
  rw [h2]; simp only [Option.bind_some]
  split
  · exact ⟨_, _, rfl, k2⟩
  split
  · obtain ⟨v3, d3, h3, b3, k3⟩ := pick_ok hl k2 (n := 2) (by omega)
    rw [h3]; exact ⟨_, _, rfl, k3⟩
  have key : ∃ b e, (if (w64 (3 + v1)) < 4 then (some (true, d2.1, d2.2)) else (play_Dice_Pick d2 2).bind fun u59 => some ((decide (u59.1 = 0)), u59.2.1, u59.2.2)) = some ((b, e) : Bool × List Int × Int) ∧ Dk l e := by
    split
    · exact ⟨true, d2, rfl, k2⟩
    · obtain ⟨v3, d3, h3, b3, k3⟩ := pick_ok hl k2 (n := 2) (by omega)
      rw [h3]; exact ⟨_, _, rfl, k3⟩
  obtain ⟨b, e, h4, k4⟩ := key
  rw [h4]; simp only [Option.bind_some]
  split
  · obtain ⟨v3, d3, h3, b3, k3⟩ := pick_ok hl k4 (n := 2) (by omega)
    rw [h3]; exact ⟨_, _, rfl, k3⟩
  · exact ⟨_, _, rfl, k4⟩

theorem odd_ok {l : List Int} (hl : Dl l) {d : List Int × Int} (hd : Dk l d) : ∃ s e, play_Dice_Odd d = some (s, e) ∧ Dk l e := by
  unfold play_Dice_Odd
  obtain ⟨s, d1, h1, k1⟩ := scheme_ok hl hd
  rw [h1]; simp only [Option.bind_some]
  obtain ⟨v2, d2, h2, b2, k2⟩ := pick_ok hl k1 (n := 6) (by omega)
  rw [h2]; simp only [Option.bind_some]
  split
  · obtain ⟨v3, d3, h3, b3, k3⟩ := pick_ok hl k2 (n := 6) (by omega)
    rw [h3]; exact ⟨_, _, rfl, k3⟩
  split
  · obtain ⟨v3, d3, h3, b3, k3⟩ := pick_ok hl k2 (n := 6) (by omega)
    have := lidx_nat (l := [0, 1, 2, 10, 11, (-1 : Int)]) 0 (i := v3.toNat) (by simp; omega)
    rw [show ((v3.toNat : Nat) : Int) = v3 by omega] at this
    rw [h3]; simp only [Option.bind_some]; rw [this]; exact ⟨_, _, rfl, k3⟩
  split
  · obtain ⟨v3, d3, h3, b3, k3⟩ := pick_ok hl k2 (n := 4) (by omega)
    have := lidx_nat (l := [0, (-1), (w64 (s.2.1 - 1)), s.2.1]) 0 (i := v3.toNat) (by simp; omega)
    rw [show ((v3.toNat : Nat) : Int) = v3 by omega] at this
    rw [h3]; simp only [Option.bind_some]; rw [this]; exact ⟨_, _, rfl, k3⟩
  split
  · obtain ⟨v3, d3, h3, b3, k3⟩ := pick_ok hl k2 (n := 4) (by omega)
    have := lidx_nat (l := [0, 1, 3, (-1 : Int)]) 0 (i := v3.toNat) (by simp; omega)
    rw [show ((v3.toNat : Nat) : Int) = v3 by omega] at this
    rw [h3]; simp only [Option.bind_some]; rw [this]; exact ⟨_, _, rfl, k3⟩
  · exact ⟨_, _, rfl, k2⟩

/-- What is wanted by dice. -/
def Wd (x : Wnt) : Prop := (-1 ≤ x.2.1 ∧ x.2.1 ≤ 20) ∧ (0 ≤ x.2.2.1 ∧ x.2.2.1 ≤ 2) ∧ 0 ≤ x.2.2.2.1 ∧ x.2.2.2.1 ≤ 2
theorem wanted_ok {l : List Int} (hl : Dl l) {d : List Int × Int} (hd : Dk l d) : ∃ x e, law29_wanted d = some (x, e) ∧ Wd x ∧ Dk l e := by
  unfold law29_wanted law29_wanted_J1
  obtain ⟨v1, d1, h1, b1, k1⟩ := pick_ok hl hd (n := 9) (by omega)
  rw [h1]; simp only [Option.bind_some]
  obtain ⟨v2, d2, h2, b2, k2⟩ := pick_ok hl k1 (n := 4) (by omega)
  rw [h2]; simp only [Option.bind_some]
  obtain ⟨v3, d3, h3, b3, k3⟩ := pick_ok hl k2 (n := 3) (by omega)
  rw [h3]; simp only [Option.bind_some]
  obtain ⟨v4, d4, h4, b4, k4⟩ := pick_ok hl k3 (n := 3) (by omega)
  rw [h4]; simp only [Option.bind_some]
  obtain ⟨v5, d5, h5, b5, k5⟩ := pick_ok hl k4 (n := 60) (by omega)
  rw [h5]; simp only [Option.bind_some]
  obtain ⟨v6, d6, h6, b6, k6⟩ := pick_ok hl k5 (n := 9) (by omega)
  rw [h6]; simp only [Option.bind_some]
  obtain ⟨v7, d7, h7, b7, k7⟩ := pick_ok hl k6 (n := 4) (by omega)
  rw [h7]; simp only [Option.bind_some]
  obtain ⟨v8, d8, h8, b8, k8⟩ := pick_ok hl k7 (n := 9) (by omega)
  rw [h8]; simp only [Option.bind_some]
  obtain ⟨v9, d9, h9, b9, k9⟩ := pick_ok hl k8 (n := 9) (by omega)
  rw [h9]; simp only [Option.bind_some]
  obtain ⟨va, da, ha, ba, ka⟩ := pick_ok hl k9 (n := 3) (by omega)
  rw [ha]; simp only [Option.bind_some]
  obtain ⟨vb, db, hb, bb, kb⟩ := pick_ok hl ka (n := 12) (by omega)
  rw [hb]; simp only [Option.bind_some]
  split
  · obtain ⟨v, e, h, b, k⟩ := pick_ok hl kb (n := 4) (by omega)
    have := lidx_nat (l := [0, 1, 10, (11 : Int)]) 0 (i := v.toNat) (by simp; omega)
    rw [show ((v.toNat : Nat) : Int) = v by omega] at this
    rw [h]; simp only [Option.bind_some]; rw [this]
    exact ⟨_, _, rfl, by unfold Wd; dsimp only; omega, k⟩
  split
  · obtain ⟨v, e, h, b, k⟩ := pick_ok hl kb (n := 3) (by omega)
    have := lidx_nat (l := [(-1), (w64 (2 + v1)), (w64 ((w64 (2 + v1)) + 1))]) 0 (i := v.toNat) (by simp; omega)
    rw [show ((v.toNat : Nat) : Int) = v by omega] at this
    rw [h]; simp only [Option.bind_some]; rw [this]
    refine ⟨_, _, rfl, ?_, k⟩
    rw [w64_id (x := 2 + v1) (by omega) (by omega), w64_id (x := 2 + v1 + 1) (by omega) (by omega)]
    have e3 : v.toNat = 0 ∨ v.toNat = 1 ∨ v.toNat = 2 := by omega
    unfold Wd
    dsimp only
    rcases e3 with e3 | e3 | e3 <;> rw [e3] <;> simp only [List.getD_cons_zero, List.getD_cons_succ] <;> omega
  split
  · obtain ⟨v, e, h, b, k⟩ := pick_ok hl kb (n := 3) (by omega)
    have := lidx_nat (l := [(-1), 1048576, (1048577 : Int)]) 0 (i := v.toNat) (by simp; omega)
    rw [show ((v.toNat : Nat) : Int) = v by omega] at this
    rw [h]; simp only [Option.bind_some]; rw [this]
    exact ⟨_, _, rfl, by unfold Wd; dsimp only; omega, k⟩
  split
  · obtain ⟨v, e, h, b, k⟩ := pick_ok hl kb (n := 3) (by omega)
    have := lidx_nat (l := [0, 1024, (1025 : Int)]) 0 (i := v.toNat) (by simp; omega)
    rw [show ((v.toNat : Nat) : Int) = v by omega] at this
    rw [h]; simp only [Option.bind_some]; rw [this]
    exact ⟨_, _, rfl, by unfold Wd; dsimp only; omega, k⟩
  · exact ⟨_, _, rfl, by unfold Wd; dsimp only; omega, kb⟩
end Go.Proofs.Ytmjidoadjinhgaa
