/- Chapter 13, plain: rows of records, and how records are laid out. -/
import Derived.Test.YthgmcgldmahgeaaC13a
namespace Go.Proofs.Ythgmcgldmahgeaa

/-- The digits of a number, lowest first. -/
def digs (p : Int) : Nat → Int → List Int
  | 0, _ => []
  | k + 1, x => x % p :: digs p k (x / p)
theorem digs_len (p : Int) : ∀ (k : Nat) (x : Int), (digs p k x).length = k
  | 0, _ => rfl
  | k + 1, x => by simp [digs, digs_len p k]

/-- Bytes. -/
def Byt (l : List Int) : Prop := ∀ b ∈ l, 0 ≤ b ∧ b ≤ 255
theorem toB_byt (s : ByteArray) : Byt (toB s) := fun b hb => by
  obtain ⟨c, _, rfl⟩ := List.mem_map.1 hb
  have := c.toNat_lt
  omega
theorem toB_len (s : ByteArray) : (toB s).length = s.size := by unfold toB; rw [List.length_map, Array.length_toList]; rfl

def els (p : Int) (bs : List Int) : List Int := bs.flatMap (digs p (dg p.toNat))
theorem els_len (p : Int) : ∀ bs : List Int, (els p bs).length = bs.length * dg p.toNat
  | [] => by simp [els]
  | b :: bs => by
    have := els_len p bs
    unfold els at this ⊢
    rw [List.flatMap_cons, List.length_append, digs_len, this, List.length_cons, Nat.add_mul]; omega

/-- Parts of w elements. -/
def chk (w n : Nat) (l : List Int) : List (List Int) := (List.range n).map fun i => (l.drop (i * w)).take w
theorem chk_len (w n : Nat) (l : List Int) : (chk w n l).length = n := by simp [chk]

theorem range_shift {α : Type} (f : Nat → α) (k m : Nat) : (List.range (m + 1)).map (fun t => f (k + t)) = f k :: (List.range m).map fun t => f (k + 1 + t) := by
  rw [List.range_succ_eq_map, List.map_cons, List.map_map]
  congr 1
  apply List.map_congr_left
  intro t _
  show f (k + (t + 1)) = f (k + 1 + t)
  congr 1; omega

theorem lsub3_ok {α : Type} {l : List α} {i j : Int} (h0 : 0 ≤ i) (h1 : i ≤ j) (h2 : j ≤ l.length) : lsub3 l i j j = some ((l.drop i.toNat).take (j - i).toNat) := by
  unfold lsub3; rw [if_pos ⟨by omega, h2⟩, lsub_ok h0 h1 h2]

theorem chunk_L {w n : Nat} {l : List Int} (hw : 1 ≤ w) (hw2 : w ≤ 100000) (hl : l.length = n * w) (hb : l.length ≤ 10000000) : ∀ (m k f : Nat), k + m = n → m < f →
    slices_Chunk_Lintint_f1_L1 l (w : Int) f ((k * w : Nat) : Int) = some ((List.range m).map fun t => (l.drop ((k + t) * w)).take w)
  | _, _, 0, _, h => by omega
  | 0, k, f + 1, h, _ => by
    show slices_Chunk_Lintint_f1_B1 l (w : Int) (slices_Chunk_Lintint_f1_L1 l (w : Int) f) _ = _
    unfold slices_Chunk_Lintint_f1_B1
    have : k = n := by omega
    subst this
    rw [if_neg (by omega)]; rfl
  | m + 1, k, f + 1, h, hf => by
    show slices_Chunk_Lintint_f1_B1 l (w : Int) (slices_Chunk_Lintint_f1_L1 l (w : Int) f) _ = _
    unfold slices_Chunk_Lintint_f1_B1
    have h1 : (k + 1) * w ≤ n * w := Nat.mul_le_mul_right w (by omega)
    have h2 : (k + 1) * w = k * w + w := by rw [Nat.add_mul]; omega
    rw [if_pos (by omega), lsub_ok (by omega) (by omega) (by omega)]
    simp only [Option.bind_some]
    have hm : min (w : Int) (((l.drop ((k * w : Nat) : Int).toNat).take (((l.length : Int)) - ((k * w : Nat) : Int)).toNat).length : Int) = w := by
      simp only [List.length_take, List.length_drop]; omega
    rw [hm, w64_id (by omega) (by omega), lsub3_ok (by omega) (by omega) (by omega)]
    simp only [Option.bind_some]
    have e1 : ((k * w : Nat) : Int) + (w : Int) = (((k + 1) * w : Nat) : Int) := by omega
    rw [e1, chunk_L hw hw2 hl hb m (k + 1) f (by omega) (by omega)]
    have e2 : ((((k + 1) * w : Nat) : Int) - ((k * w : Nat) : Int)).toNat = w := by omega
    rw [e2, Int.toNat_natCast]
    show some (_ :: _) = _
    rw [range_shift (fun t => (l.drop (t * w)).take w)]
theorem chunk_eq {w n : Nat} {l : List Int} (hw : 1 ≤ w) (hw2 : w ≤ 100000) (hl : l.length = n * w) (hb : l.length ≤ 10000000) : slices_Chunk_Lintint l (w : Int) = some (chk w n l) := by
  unfold slices_Chunk_Lintint slices_Chunk_Lintint_J1 slices_Chunk_Lintint_f1
  have hn : n ≤ n * w := Nat.le_mul_of_pos_right n hw
  rw [if_neg (by omega)]
  have := chunk_L hw hw2 hl hb n 0 big (by omega) (by simp only [big]; omega)
  simp only [Nat.zero_mul, Nat.zero_add] at this
  rw [show (0 : Int) = ((0 : Nat) : Int) from rfl, this]; rfl

theorem clone_eq {l : List Int} (h : l.length ≤ 16777216) : slices_Clone_Lintint l = some l := by
  unfold slices_Clone_Lintint; rw [lapp_ok (by simpa using h)]; rfl

theorem tmod_byte {x p : Int} (hx : 0 ≤ x) : Int.tmod x p = x % p := Int.tmod_eq_emod_of_nonneg hx
theorem div_byte {x p : Int} (hx : 0 ≤ x ∧ x ≤ 255) (hp : 2 ≤ p) : w64 (Int.tdiv x p) = x / p ∧ 0 ≤ x / p ∧ x / p ≤ 255 := by
  have h1 : 0 ≤ x / p := Int.ediv_nonneg hx.1 (by omega)
  have h2 : x / p ≤ x := Int.ediv_le_self p hx.1
  rw [Int.tdiv_eq_ediv_of_nonneg hx.1, w64_id (by omega) (by omega)]
  omega

theorem rows_L4 {p : Int} (hp : 2 ≤ p) (rc : List Int → Option (List (List Int))) {D N : Nat} (hD : D ≤ 8) : ∀ (k i f : Nat) (l : List Int) (x : Int), i + k = D → k < f → l.length + k ≤ N → 0 ≤ x ∧ x ≤ 255 →
    layout_rowsOf_L4 rc p (D : Int) (N : Int) f l x (i : Int) = rc (l ++ digs p k x)
  | _, _, 0, _, _, _, h, _, _ => by omega
  | 0, i, f + 1, l, x, h, hf, hl, hx => by
    show layout_rowsOf_B4 rc p (D : Int) (N : Int) (layout_rowsOf_L4 rc p (D : Int) (N : Int) f) l x _ = _
    unfold layout_rowsOf_B4
    rw [if_neg (by omega)]; simp [digs]
  | k + 1, i, f + 1, l, x, h, hf, hl, hx => by
    show layout_rowsOf_B4 rc p (D : Int) (N : Int) (layout_rowsOf_L4 rc p (D : Int) (N : Int) f) l x _ = _
    unfold layout_rowsOf_B4
    obtain ⟨d1, d2, d3⟩ := div_byte hx hp
    rw [if_pos (by omega), nz_ok (by omega)]
    simp only [Option.bind_some]
    have : lapz (N : Int).toNat l [Int.tmod x p] = some (l ++ [Int.tmod x p]) := by unfold lapz; rw [if_pos (by rw [Int.toNat_natCast]; simp; omega)]
    rw [this]
    simp only [Option.bind_some]
    rw [d1, w64_id (by omega) (by omega), show (i : Int) + 1 = ((i + 1 : Nat) : Int) by omega, rows_L4 hp rc hD k (i + 1) f _ _ (by omega) (by omega) (by simp; omega) ⟨d2, d3⟩, tmod_byte hx.1]
    simp [digs]
theorem rows_L5 {p : Int} (hp : vF p = true) (kx : List Int → Option (List (List Int))) (z : Int) {N : Nat} (hz : z = (N : Int)) : ∀ (bs l : List Int), Byt bs → l.length + bs.length * dg p.toNat ≤ N →
    layout_rowsOf_L5 kx p z bs l = kx (l ++ els p bs)
  | [], l, _, _ => by simp [layout_rowsOf_L5, els]
  | b :: bs, l, hb, hl => by
    show layout_rowsOf_B5 kx p z (layout_rowsOf_L5 kx p z bs) b l = _
    unfold layout_rowsOf_B5
    have h2 := vF_b hp
    have hd := (dg_spec (p := p.toNat) (by omega)).2.1
    rw [digits_eq hp]
    simp only [Option.bind_some]
    have hbb := hb b List.mem_cons_self
    simp only [List.length_cons, Nat.add_mul, Nat.one_mul] at hl
    rw [w64_id (by omega) (by omega), show (0 : Int) = ((0 : Nat) : Int) from rfl, hz, rows_L4 (by omega) _ hd (dg p.toNat) 0 big l b (by omega) (by simp only [big]; omega) (by omega) hbb, ← hz, rows_L5 hp kx z hz bs _ (fun x hx => hb x (List.mem_cons_of_mem _ hx)) (by simp [digs_len]; omega)]
    simp [els]
theorem rows_L2 : ∀ (l acc : List (List Int)), (∀ r ∈ l, r.length ≤ 1000) → acc.length + l.length ≤ 1000000 → layout_rowsOf_L2 layout_rowsOf_J1 l acc = some (acc ++ l)
  | [], acc, _, _ => by simp [layout_rowsOf_L2, layout_rowsOf_J1]
  | r :: l, acc, h, hl => by
    show layout_rowsOf_B2 layout_rowsOf_J1 (layout_rowsOf_L2 layout_rowsOf_J1 l) r acc = _
    unfold layout_rowsOf_B2
    simp only [List.length_cons] at hl
    rw [clone_eq (by have := h r List.mem_cons_self; omega)]
    simp only [Option.bind_some]
    rw [lapp_ok (by simp; omega)]
    simp only [Option.bind_some]
    rw [rows_L2 l _ (fun x hx => h x (List.mem_cons_of_mem _ hx)) (by simp; omega)]; simp

/-- The rows of a record. -/
def rowsN (p : Int) (w : Nat) (s : ByteArray) : List (List Int) := chk w (nd p.toNat w s.size) (padz (nd p.toNat w s.size * w) 0 (els p (toB s)))
theorem rowsN_len (p : Int) (w : Nat) (s : ByteArray) : (rowsN p w s).length = nd p.toNat w s.size := chk_len _ _ _
theorem padz_len' {α : Type} {N : Nat} {z : α} {l : List α} (h : l.length ≤ N) : (padz N z l).length = N := by simp [padz]; omega
theorem rowsOf_eq {p : Int} (hp : vF p = true) {w : Nat} (hw : 1 ≤ w ∧ w ≤ 64) {s : ByteArray} (hs : s.size ≤ 2000) : layout_rowsOf p (w : Int) s = some (rowsN p w s) := by
  have h2 := vF_b hp
  have hd := (dg_spec (p := p.toNat) (by omega)).2.1
  have hm := nd_le (p := p.toNat) hw hs hd
  have hm2 := nd_mul (p := p.toNat) (n := s.size) hw.1
  unfold layout_rowsOf
  rw [needed_eq hp hw hs]
  simp only [Option.bind_some]
  have e1 : ((nd p.toNat w s.size : Nat) : Int) * (w : Int) = ((nd p.toNat w s.size * w : Nat) : Int) := by omega
  rw [e1, w64_id (by omega) (by omega)]
  have e2 : lcap ((nd p.toNat w s.size * w : Nat) : Int) = some () := by unfold lcap; rw [if_pos (by omega)]
  rw [e2]
  simp only [Option.bind_some]
  have e3 : tobs s = some (toB s) := by unfold tobs; rw [if_pos (by omega)]
  rw [e3]
  simp only [Option.bind_some]
  rw [rows_L5 hp _ _ rfl (toB s) [] (toB_byt s) (by rw [toB_len]; simpa using hm2)]
  unfold layout_rowsOf_J3
  have e4 : lfull ((nd p.toNat w s.size * w : Nat) : Int).toNat 0 ([] ++ els p (toB s)) = some (padz (nd p.toNat w s.size * w) 0 (els p (toB s))) := by
    rw [Int.toNat_natCast, List.nil_append]; unfold lfull; rw [if_pos (by rw [els_len, toB_len]; exact hm2)]
  rw [e4]
  simp only [Option.bind_some]
  have hpl : (padz (nd p.toNat w s.size * w) (0 : Int) (els p (toB s))).length = nd p.toNat w s.size * w := padz_len' (by rw [els_len, toB_len]; exact hm2)
  rw [chunk_eq (n := nd p.toNat w s.size) hw.1 (by omega) hpl (by omega)]
  simp only [Option.bind_some]
  have hq : nd p.toNat w s.size ≤ nd p.toNat w s.size * w := Nat.le_mul_of_pos_right _ hw.1
  rw [rows_L2 _ [] (fun r hr => by obtain ⟨i, _, rfl⟩ := List.mem_map.1 hr; simp only [List.length_take]; omega) (by rw [chk_len]; simp; omega)]
  rfl

/-- How many rows records need. -/
def sumN (p : Int) (w : Nat) : List ByteArray → Nat
  | [] => 0
  | s :: r => nd p.toNat w s.size + sumN p w r
/-- The places of records, from a row on. -/
def plc (p : Int) (w : Nat) : Nat → List ByteArray → List (Int × Int × Int)
  | _, [] => []
  | k, s :: r => ((k : Int), ((nd p.toNat w s.size : Nat) : Int), (s.size : Int)) :: plc p w (k + nd p.toNat w s.size) r
theorem plc_len (p : Int) (w : Nat) : ∀ (k : Nat) (r : List ByteArray), (plc p w k r).length = r.length
  | _, [] => rfl
  | k, s :: r => by simp [plc, plc_len p w _ r]
def fitR (p : Int) (w n : Nat) (r : List ByteArray) : Prop := (∀ s ∈ r, s.size ≤ 1024) ∧ n + sumN p w r ≤ 1024
instance (p : Int) (w n : Nat) (r : List ByteArray) : Decidable (fitR p w n r) := by unfold fitR; infer_instance
abbrev Lay := Int × List (Int × Int × Int)
abbrev noR : List (List Int) × Lay × Int := (([] : List (List Int)), ((0 : Int), ([] : List (Int × Int × Int))), 4)

theorem enc_L {p : Int} (hp : vF p = true) {w : Nat} (hw : 1 ≤ w ∧ w ≤ 64) (z : Int) : ∀ (r : List ByteArray) (acc : List (List Int)) (pl : List (Int × Int × Int)), acc.length ≤ 1024 → pl.length + r.length ≤ 1000 →
    layout_Encode_L2 layout_Encode_J1 (w : Int) p z r acc pl = some (if fitR p w acc.length r then (acc ++ r.flatMap (rowsN p w), ((w : Int), pl ++ plc p w acc.length r), 0) else noR)
  | [], acc, pl, h1, h2 => by
    show some _ = _
    rw [if_pos (by unfold fitR; simp [sumN]; exact h1)]; simp [plc]
  | s :: r, acc, pl, h1, h2 => by
    show layout_Encode_B2 layout_Encode_J1 (w : Int) p z (layout_Encode_L2 layout_Encode_J1 (w : Int) p z r) s acc pl = _
    unfold layout_Encode_B2
    simp only [List.length_cons] at h2
    by_cases hs : 1024 < (s.size : Int)
    · rw [if_pos hs]
      simp only [Option.bind_some, if_true]
      rw [if_neg (by unfold fitR; rintro ⟨h, _⟩; have := h s List.mem_cons_self; omega)]
    · rw [if_neg hs, needed_eq hp hw (by omega)]
      simp only [Option.bind_some]
      have hd := (dg_spec (p := p.toNat) (by have := vF_b hp; omega)).2.1
      have hm := nd_le (p := p.toNat) (n := s.size) hw (by omega) hd
      have hq : nd p.toNat w s.size ≤ nd p.toNat w s.size * w := Nat.le_mul_of_pos_right _ hw.1
      rw [w64_id (by omega) (by omega)]
      by_cases hn : 1024 < ((acc.length : Int) + ((nd p.toNat w s.size : Nat) : Int))
      · rw [if_pos (bt hn), if_neg (by unfold fitR; rintro ⟨_, h⟩; simp only [sumN] at h; omega)]
      · rw [if_neg (bf hn), rowsOf_eq hp hw (by omega)]
        simp only [Option.bind_some]
        rw [lapp_ok (by rw [rowsN_len]; omega)]
        simp only [Option.bind_some]
        rw [lapp_ok (by simp; omega)]
        simp only [Option.bind_some]
        have hal : (acc ++ rowsN p w s).length = acc.length + nd p.toNat w s.size := by rw [List.length_append, rowsN_len]
        rw [enc_L hp hw z r _ _ (by rw [hal]; omega) (by simp; omega)]
        have hfit : fitR p w (acc ++ rowsN p w s).length r ↔ fitR p w acc.length (s :: r) := by
          rw [hal]; unfold fitR
          simp only [sumN, List.mem_cons, forall_eq_or_imp]
          constructor
          · rintro ⟨a, b⟩; exact ⟨⟨by omega, a⟩, by omega⟩
          · rintro ⟨⟨_, a⟩, b⟩; exact ⟨a, by omega⟩
        have hv : w64 (((acc ++ rowsN p w s).length : Int) - (acc.length : Int)) = ((nd p.toNat w s.size : Nat) : Int) := by
          rw [hal, w64_id (by omega) (by omega)]; omega
        rw [hv]
        by_cases hf : fitR p w acc.length (s :: r)
        · rw [if_pos (hfit.2 hf), if_pos hf, hal]; simp [plc]
        · rw [if_neg (fun h => hf (hfit.1 h)), if_neg hf]

/-- How records are laid out, or the error. -/
def encI (p w : Int) (r : List ByteArray) : List (List Int) × Lay × Int :=
  if vF p = false then ([], (0, []), 9) else if ¬ (1 ≤ w ∧ w ≤ 64) then ([], (0, []), 1) else if 256 < (r.length : Int) then noR
  else if fitR p w.toNat 0 r then (r.flatMap (rowsN p w.toNat), (w, plc p w.toNat 0 r), 0) else noR
theorem enc_f {p w : Int} {r : List ByteArray} (h : vF p = false) : encI p w r = ([], (0, []), 9) := by unfold encI; rw [if_pos h]
theorem enc_w {p w : Int} {r : List ByteArray} (h : vF p = true) (hw : ¬ (1 ≤ w ∧ w ≤ 64)) : encI p w r = ([], (0, []), 1) := by unfold encI; rw [if_neg (by simp [h]), if_pos hw]
theorem enc_m {p w : Int} {r : List ByteArray} (h : vF p = true) (hw : 1 ≤ w ∧ w ≤ 64) (hr : 256 < (r.length : Int)) : encI p w r = noR := by unfold encI; rw [if_neg (by simp [h]), if_neg (not_not_intro hw), if_pos hr]
theorem enc_o {p w : Int} {r : List ByteArray} (h : vF p = true) (hw : 1 ≤ w ∧ w ≤ 64) (hr : ¬ 256 < (r.length : Int)) : encI p w r = if fitR p w.toNat 0 r then (r.flatMap (rowsN p w.toNat), (w, plc p w.toNat 0 r), 0) else noR := by
  unfold encI; rw [if_neg (by simp [h]), if_neg (not_not_intro hw), if_neg hr]
theorem encode_eq (p w : Int) (r : List ByteArray) : layout_Encode p w r = some (encI p w r) := by
  unfold layout_Encode
  rw [of_eq]
  simp only [Option.bind_some]
  by_cases hp : vF p = true
  · rw [if_pos hp]
    dsimp only
    rw [if_neg (by simp)]
    unfold layout_wide
    simp only [Option.bind_some]
    by_cases hw : 1 ≤ w ∧ w ≤ 64
    · rw [if_neg (nb_t hw)]
      by_cases hr : 256 < (r.length : Int)
      · rw [if_pos hr, enc_m hp hw hr]
      · rw [if_neg hr, enc_o hp hw hr]
        have := enc_L hp (w := w.toNat) (by omega) p r [] [] (by simp) (by simp; omega)
        rw [Int.toNat_of_nonneg (by omega)] at this
        rw [this]; simp
    · rw [if_pos (nb_f hw), enc_w hp hw]
  · have hp : vF p = false := by simpa using hp
    rw [enc_f hp, hp]; rfl
end Go.Proofs.Ythgmcgldmahgeaa
