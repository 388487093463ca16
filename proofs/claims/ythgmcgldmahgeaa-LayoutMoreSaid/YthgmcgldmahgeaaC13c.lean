/- Chapter 13, plain: the document's own laying out. -/
import Derived.Test.YthgmcgldmahgeaaC13b
namespace Go.Proofs.Ythgmcgldmahgeaa

theorem sidx_ok {s : ByteArray} {i : Nat} (h : i < s.size) : sidx s (i : Int) = some ((toB s).getD i 0) := by
  unfold sidx
  rw [if_pos (by omega), Int.toNat_natCast]
  congr 1
  have h1 : i < s.data.toList.length := by rw [Array.length_toList]; exact h
  unfold toB
  rw [List.getD_eq_getElem?_getD, List.getD_eq_getElem?_getD, List.getElem?_map, List.getElem?_eq_getElem h1]
  rfl

abbrev ER := Option (List (List Int) × Lay × Int)

theorem renc_L6 {p : Int} (hp : 2 ≤ p) (rc : List Int → Int → Int → Int → Int → ER) (z v a : Int) {D : Nat} (hD : D ≤ 8) (hz : 0 ≤ z ∧ z ≤ 100000) : ∀ (k i f : Nat) (l : List Int) (x : Int), i + k = D → k < f → l.length + k ≤ 100000 → 0 ≤ x ∧ x ≤ 255 →
    ref13_Encode_L6 rc z (D : Int) v a p f l x (i : Int) = rc (l ++ digs p k x) (z + 1) v a p
  | _, _, 0, _, _, _, h, _, _ => by omega
  | 0, i, f + 1, l, x, h, hf, hl, hx => by
    show ref13_Encode_B6 rc z (D : Int) v a p (ref13_Encode_L6 rc z (D : Int) v a p f) l x _ = _
    unfold ref13_Encode_B6
    rw [if_neg (by omega), w64_id (by omega) (by omega)]; simp [digs]
  | k + 1, i, f + 1, l, x, h, hf, hl, hx => by
    show ref13_Encode_B6 rc z (D : Int) v a p (ref13_Encode_L6 rc z (D : Int) v a p f) l x _ = _
    unfold ref13_Encode_B6
    obtain ⟨d1, d2, d3⟩ := div_byte hx hp
    rw [if_pos (by omega), nz_ok (by omega)]
    simp only [Option.bind_some]
    rw [lapp_ok (by simp; omega)]
    simp only [Option.bind_some]
    rw [d1, w64_id (by omega) (by omega), show (i : Int) + 1 = ((i + 1 : Nat) : Int) by omega, renc_L6 hp rc z v a hD hz k (i + 1) f _ _ (by omega) (by omega) (by simp; omega) ⟨d2, d3⟩, tmod_byte hx.1]
    simp [digs]
theorem renc_L7 {p : Int} (hp : vF p = true) (kx : List Int → Int → Int → Int → ER) (s : ByteArray) (hs : s.size ≤ 2000) (v a : Int) : ∀ (m i f : Nat) (l : List Int), i + m = s.size → m < f → l.length + m * dg p.toNat ≤ 100000 →
    ref13_Encode_L7 kx s f l (i : Int) v a p = kx (l ++ els p ((toB s).drop i)) v a p
  | _, _, 0, _, _, h, _ => by omega
  | 0, i, f + 1, l, h, hf, hl => by
    show ref13_Encode_B7 kx s (ref13_Encode_L7 kx s f) l _ v a p = _
    unfold ref13_Encode_B7
    rw [if_neg (by omega), List.drop_of_length_le (by rw [toB_len]; omega)]; simp [els]
  | m + 1, i, f + 1, l, h, hf, hl => by
    show ref13_Encode_B7 kx s (ref13_Encode_L7 kx s f) l _ v a p = _
    unfold ref13_Encode_B7
    have h2 := vF_b hp
    have hd := (dg_spec (p := p.toNat) (by omega)).2.1
    have hi : i < (toB s).length := by rw [toB_len]; omega
    rw [if_pos (by omega), sidx_ok (by omega)]
    simp only [Option.bind_some]
    rw [rdigits_eq hp]
    simp only [Option.bind_some]
    have e0 : (toB s).getD i 0 = (toB s)[i] := by rw [List.getD_eq_getElem?_getD, List.getElem?_eq_getElem hi]; rfl
    have hbb := toB_byt s _ (List.getElem_mem hi)
    rw [← e0] at hbb
    simp only [Nat.add_mul, Nat.one_mul] at hl
    rw [w64_id (by omega) (by omega)]
    have := renc_L6 (p := p) (by omega) (ref13_Encode_L7 kx s f) (i : Int) v a hd (by omega) (dg p.toNat) 0 big l ((toB s).getD i 0) (by omega) (by simp only [big]; omega) (by omega) hbb
    rw [show (0 : Int) = ((0 : Nat) : Int) from rfl]
    rw [show ((0 : Nat) : Int) = (0 : Int) from rfl] at this ⊢
    rw [this, show (i : Int) + 1 = ((i + 1 : Nat) : Int) by omega, renc_L7 hp kx s hs v a m (i + 1) f _ (by omega) (by omega) (by simp [digs_len]; omega)]
    have e5 : els p ((toB s).drop i) = digs p (dg p.toNat) ((toB s).getD i 0) ++ els p ((toB s).drop (i + 1)) := by
      rw [List.drop_eq_getElem_cons hi, ← e0]; simp [els]
    rw [e5, List.append_assoc]
theorem renc_L4 (kx : List Int → Int → Int → Int → ER) {w n : Nat} (v a p : Int) (hb : n * w ≤ 100000) : ∀ (m f : Nat) (l : List Int), l.length + m = n * w → m < f →
    ref13_Encode_L4 kx (w : Int) (n : Int) v a p f l = kx (padz (n * w) 0 l) v a p
  | _, 0, _, _, h => by omega
  | 0, f + 1, l, h, hf => by
    show ref13_Encode_B4 kx (w : Int) (n : Int) v a p (ref13_Encode_L4 kx (w : Int) (n : Int) v a p f) l = _
    unfold ref13_Encode_B4
    have e1 : (n : Int) * (w : Int) = ((n * w : Nat) : Int) := by omega
    rw [e1, w64_id (by omega) (by omega), if_neg (by omega)]
    unfold padz
    rw [show n * w - l.length = 0 by omega]; simp
  | m + 1, f + 1, l, h, hf => by
    show ref13_Encode_B4 kx (w : Int) (n : Int) v a p (ref13_Encode_L4 kx (w : Int) (n : Int) v a p f) l = _
    unfold ref13_Encode_B4
    have e1 : (n : Int) * (w : Int) = ((n * w : Nat) : Int) := by omega
    rw [e1, w64_id (by omega) (by omega), if_pos (by omega), lapp_ok (by simp; omega)]
    simp only [Option.bind_some]
    rw [renc_L4 kx v a p hb m f _ (by simp; omega) (by omega)]
    unfold padz
    rw [List.append_assoc]
    have : n * w - l.length = (n * w - (l ++ [0]).length) + 1 := by simp; omega
    rw [this, List.replicate_succ]; rfl
theorem renc_L2 (rc : List (List Int) → Int → List (Int × Int × Int) → Int → Int → ER) {w n : Nat} {all : List Int} (v a p : Int) (pl : List (Int × Int × Int)) (hl : all.length = n * w) (hb : n * w ≤ 100000) (hw : 1 ≤ w) (hn : n ≤ 100000) : ∀ (m k f : Nat) (acc : List (List Int)), k + m = n → m < f → acc.length + m ≤ 1000000 →
    ref13_Encode_L2 rc all (w : Int) (n : Int) v a p pl f acc (k : Int) = rc (acc ++ (List.range m).map fun t => (all.drop ((k + t) * w)).take w) v pl a p
  | _, _, 0, _, _, h, _ => by omega
  | 0, k, f + 1, acc, h, hf, _ => by
    show ref13_Encode_B2 rc all (w : Int) (n : Int) v a p pl (ref13_Encode_L2 rc all (w : Int) (n : Int) v a p pl f) acc _ = _
    unfold ref13_Encode_B2
    rw [if_neg (by omega)]; simp
  | m + 1, k, f + 1, acc, h, hf, ha => by
    show ref13_Encode_B2 rc all (w : Int) (n : Int) v a p pl (ref13_Encode_L2 rc all (w : Int) (n : Int) v a p pl f) acc _ = _
    unfold ref13_Encode_B2
    have h1 : (k + 1) * w ≤ n * w := Nat.mul_le_mul_right w (by omega)
    have h2 : (k + 1) * w = k * w + w := by rw [Nat.add_mul]; omega
    have e1 : (k : Int) * (w : Int) = ((k * w : Nat) : Int) := by omega
    have e2 : ((k + 1 : Nat) : Int) * (w : Int) = (((k + 1) * w : Nat) : Int) := by omega
    rw [if_pos (by omega), w64_id (x := (k : Int) + 1) (by omega) (by omega), show (k : Int) + 1 = ((k + 1 : Nat) : Int) by omega, e1, e2, w64_id (by omega) (by omega), w64_id (by omega) (by omega), lsub_ok (by omega) (by omega) (by omega)]
    simp only [Option.bind_some]
    rw [lapp_ok (by simp only [List.length_nil, List.length_take, List.length_drop]; omega)]
    simp only [Option.bind_some]
    rw [lapp_ok (by simp; omega)]
    simp only [Option.bind_some]
    rw [renc_L2 rc v a p pl hl hb hw hn m (k + 1) f _ (by omega) (by omega) (by simp; omega)]
    have e3 : ((((k + 1) * w : Nat) : Int) - ((k * w : Nat) : Int)).toNat = w := by omega
    rw [e3, Int.toNat_natCast, range_shift (fun t => (all.drop (t * w)).take w), List.nil_append, List.append_assoc]
    rfl
theorem renc_L8 {p : Int} (hp : vF p = true) {w : Nat} (hw : 1 ≤ w ∧ w ≤ 64) (a : Int) : ∀ (r : List ByteArray) (acc : List (List Int)) (v : Int) (pl : List (Int × Int × Int)), (∀ s ∈ r, s.size ≤ 1024) → acc.length + sumN p w r ≤ 1024 → pl.length + r.length ≤ 1000 →
    ref13_Encode_L8 ref13_Encode_J1 (w : Int) r acc v pl a p = some (acc ++ r.flatMap (rowsN p w), (v, pl ++ plc p w acc.length r), 0)
  | [], acc, v, pl, _, _, _ => by simp [ref13_Encode_L8, ref13_Encode_J1, plc]
  | s :: r, acc, v, pl, h1, h2, h3 => by
    show ref13_Encode_B8 ref13_Encode_J1 (w : Int) (ref13_Encode_L8 ref13_Encode_J1 (w : Int) r) s acc v pl a p = _
    unfold ref13_Encode_B8
    simp only [List.length_cons, sumN] at h2 h3
    have hs := h1 s List.mem_cons_self
    have h2' := vF_b hp
    have hd := (dg_spec (p := p.toNat) (by omega)).2.1
    have hm := nd_le (p := p.toNat) (n := s.size) hw (by omega) hd
    have hm2 := nd_mul (p := p.toNat) (n := s.size) hw.1
    have hq : nd p.toNat w s.size ≤ nd p.toNat w s.size * w := Nat.le_mul_of_pos_right _ hw.1
    rw [rneed_eq hp hw (by omega)]
    simp only [Option.bind_some]
    have e1 : ((nd p.toNat w s.size : Nat) : Int) * (w : Int) = ((nd p.toNat w s.size * w : Nat) : Int) := by omega
    rw [e1, w64_id (by omega) (by omega)]
    have e2 : lcap ((nd p.toNat w s.size * w : Nat) : Int) = some () := by unfold lcap; rw [if_pos (by omega)]
    rw [e2]
    simp only [Option.bind_some]
    have h7 := renc_L7 hp (ref13_Encode_J5 (ref13_Encode_L8 ref13_Encode_J1 (w : Int) r) (w : Int) s ((nd p.toNat w s.size : Nat) : Int) acc pl) s (by omega) v a s.size 0 big [] (by omega) (by simp only [big]; omega) (by simp; omega)
    rw [show ((0 : Nat) : Int) = (0 : Int) from rfl] at h7
    rw [h7]
    unfold ref13_Encode_J5
    rw [List.nil_append, List.drop_zero]
    have hel : (els p (toB s)).length ≤ nd p.toNat w s.size * w := by rw [els_len, toB_len]; exact hm2
    rw [renc_L4 _ v a p (by omega) (nd p.toNat w s.size * w - (els p (toB s)).length) big _ (by omega) (by simp only [big]; omega)]
    unfold ref13_Encode_J3
    rw [lapp_ok (by simp; omega)]
    simp only [Option.bind_some]
    have hl2 := renc_L2 (ref13_Encode_L8 ref13_Encode_J1 (w : Int) r) v a p (pl ++ [((acc.length : Int), ((nd p.toNat w s.size : Nat) : Int), (s.size : Int))]) (padz_len' (z := 0) hel) (by omega) hw.1 (by omega) (nd p.toNat w s.size) 0 big acc (by omega) (by simp only [big]; omega) (by omega)
    rw [show ((0 : Nat) : Int) = (0 : Int) from rfl] at hl2
    rw [hl2]
    simp only [Nat.zero_add]
    rw [show ((List.range (nd p.toNat w s.size)).map fun t => ((padz (nd p.toNat w s.size * w) 0 (els p (toB s))).drop (t * w)).take w) = rowsN p w s from rfl]
    have hal : (acc ++ rowsN p w s).length = acc.length + nd p.toNat w s.size := by rw [List.length_append, rowsN_len]
    rw [renc_L8 hp hw a r _ v _ (fun x hx => h1 x (List.mem_cons_of_mem _ hx)) (by rw [hal]; omega) (by simp; omega), hal]
    simp [plc]
theorem renc_L10 {p : Int} (hp : vF p = true) {w : Nat} (hw : 1 ≤ w ∧ w ≤ 64) (kx : Int → Int → Int → ER) : ∀ (r : List ByteArray) (v : Nat), v + r.length * 20000 ≤ 100000000 →
    ref13_Encode_L10 kx (w : Int) p r (v : Int) = if (∀ s ∈ r, s.size ≤ 1024) then kx ((v + sumN p w r : Nat) : Int) 0 p else some noR
  | [], v, _ => by rw [if_pos (by simp)]; simp [ref13_Encode_L10, sumN]
  | s :: r, v, h => by
    show ref13_Encode_B10 kx (w : Int) p (ref13_Encode_L10 kx (w : Int) p r) s _ = _
    unfold ref13_Encode_B10
    simp only [List.length_cons] at h
    by_cases hs : 1024 < (s.size : Int)
    · rw [if_pos hs, if_neg (fun hh => by have := hh s List.mem_cons_self; omega)]
    · have hd := (dg_spec (p := p.toNat) (by have := vF_b hp; omega)).2.1
      have hm := nd_le (p := p.toNat) (n := s.size) hw (by omega) hd
      have hq : nd p.toNat w s.size ≤ nd p.toNat w s.size * w := Nat.le_mul_of_pos_right _ hw.1
      rw [if_neg hs, rneed_eq hp hw (by omega)]
      simp only [Option.bind_some]
      rw [w64_id (by omega) (by omega), show (v : Int) + ((nd p.toNat w s.size : Nat) : Int) = ((v + nd p.toNat w s.size : Nat) : Int) by omega, renc_L10 hp hw kx r _ (by omega)]
      by_cases hr : ∀ s ∈ r, s.size ≤ 1024
      · rw [if_pos hr, if_pos (fun x hx => by rcases List.mem_cons.1 hx with rfl | hx; omega; exact hr x hx)]
        simp only [sumN]
        rw [show v + nd p.toNat w s.size + sumN p w r = v + (nd p.toNat w s.size + sumN p w r) by omega]
      · rw [if_neg hr, if_neg (fun hh => hr fun x hx => hh x (List.mem_cons_of_mem _ hx))]
theorem rencode_eq (p w : Int) (r : List ByteArray) : ref13_Encode p w r = some (encI p w r) := by
  unfold ref13_Encode
  rw [rof_eq]
  simp only [Option.bind_some]
  by_cases hp : vF p = true
  · rw [if_pos hp]
    rw [if_neg (show ¬ ((0 : Int) ≠ 0) by decide)]
    by_cases hw : 1 ≤ w ∧ w ≤ 64
    · rw [if_neg (by omega)]
      by_cases hr : 256 < (r.length : Int)
      · rw [if_pos hr, enc_m hp hw hr]
      · rw [if_neg hr, enc_o hp hw hr]
        have h10 := renc_L10 hp (w := w.toNat) (by omega) (ref13_Encode_J9 w r) r 0 (by omega)
        rw [Int.toNat_of_nonneg (by omega), show ((0 : Nat) : Int) = (0 : Int) from rfl] at h10
        rw [h10]
        by_cases ha : ∀ s ∈ r, s.size ≤ 1024
        · rw [if_pos ha]
          unfold ref13_Encode_J9
          rw [Nat.zero_add]
          by_cases hn : 1024 < ((sumN p w.toNat r : Nat) : Int)
          · rw [if_pos hn, if_neg (by unfold fitR; rintro ⟨_, h⟩; omega)]
          · rw [if_neg hn, if_pos (by unfold fitR; exact ⟨ha, by omega⟩)]
            have h8 := renc_L8 hp (w := w.toNat) (by omega) 0 r [] w [] ha (by simp; omega) (by simp; omega)
            rw [Int.toNat_of_nonneg (by omega)] at h8
            rw [h8]; simp
        · rw [if_neg ha, if_neg (fun h => ha h.1)]
    · rw [if_pos (by omega), enc_w hp hw]
  · have hp : vF p = false := by simpa using hp
    rw [enc_f hp, hp]; rfl
end Go.Proofs.Ythgmcgldmahgeaa
