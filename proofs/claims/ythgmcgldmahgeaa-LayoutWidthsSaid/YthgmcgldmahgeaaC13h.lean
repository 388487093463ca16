/- Chapter 13, plain: the laws LayoutWidths, LayoutMore, LayoutDigits. -/
import Derived.Test.YthgmcgldmahgeaaC13g
namespace Go.Proofs.Ythgmcgldmahgeaa

-- LayoutWidths
theorem nd_wider {p a b n : Nat} (ha : 1 ≤ a) (h : a ≤ b) : nd p b n ≤ nd p a n := by
  unfold nd
  have : (n * dg p + b - 1) / b ≤ (n * dg p + a - 1) / a := by
    rcases Nat.eq_zero_or_pos (n * dg p) with h0 | h0
    · rw [h0, Nat.zero_add, Nat.div_eq_of_lt (by omega)]; exact Nat.zero_le _
    · have e1 : (n * dg p + b - 1) / b = (n * dg p - 1) / b + 1 := by rw [show n * dg p + b - 1 = n * dg p - 1 + b by omega, Nat.add_div_right _ (by omega)]
      have e2 : (n * dg p + a - 1) / a = (n * dg p - 1) / a + 1 := by rw [show n * dg p + a - 1 = n * dg p - 1 + a by omega, Nat.add_div_right _ (by omega)]
      rw [e1, e2]
      have := Nat.div_le_div_left (a := n * dg p - 1) h (by omega : 0 < a)
      omega
  omega
theorem nd_fewer {p q w n : Nat} (h : dg q ≤ dg p) : nd q w n ≤ nd p w n := by
  unfold nd
  have h1 : n * dg q ≤ n * dg p := Nat.mul_le_mul_left n h
  have : (n * dg q + w - 1) / w ≤ (n * dg p + w - 1) / w := Nat.div_le_div_right (by omega)
  omega
theorem nd_tight {p w n : Nat} (hw : 1 ≤ w) : (nd p w n - 1) * w < max 1 (dg p * n) := by
  unfold nd
  rw [Nat.mul_comm (dg p) n]
  have h1 := Nat.div_mul_le_self (n * dg p + w - 1) w
  rcases Nat.le_total 1 ((n * dg p + w - 1) / w) with h | h
  · rw [Nat.max_eq_right h, Nat.sub_mul, Nat.one_mul]; omega
  · rw [Nat.max_eq_left h]; simp; omega

theorem widths_L {p : Int} {a b : Nat} {r : List ByteArray} (hA : LaidP p a r) (hB : LaidP p b r) (hC : LaidP 257 a r) (hab : a ≤ b) : ∀ (q : List ByteArray) (i : Nat), r.drop i = q →
    law13_LayoutWidths_L1 (a : Int) ((dg p.toNat : Nat) : Int) (plc 257 a 0 r) (plc p b 0 r) (plc p a 0 r) q i = some true
  | [], _, _ => rfl
  | s :: q, i, hq => by
    show law13_LayoutWidths_B1 (a : Int) _ (plc 257 a 0 r) (plc p b 0 r) (plc p a 0 r) (law13_LayoutWidths_L1 (a : Int) _ (plc 257 a 0 r) (plc p b 0 r) (plc p a 0 r) q (i + 1)) s i = _
    unfold law13_LayoutWidths_B1
    have hs : r[i]? = some s := by have : (r.drop i)[0]? = some s := by rw [hq]; rfl
                                   simpa using this
    obtain ⟨fa, ga, _⟩ := hA.get hs
    obtain ⟨fb, gb, _⟩ := hB.get hs
    obtain ⟨fc, gc, _⟩ := hC.get hs
    have la : lidx (plc p a 0 r) (i : Int) = some ((fa : Int), ((nd p.toNat a s.size : Nat) : Int), (s.size : Int)) := lidx_of (by omega) (by rw [Int.toNat_natCast]; exact ga)
    have lb : lidx (plc p b 0 r) (i : Int) = some ((fb : Int), ((nd p.toNat b s.size : Nat) : Int), (s.size : Int)) := lidx_of (by omega) (by rw [Int.toNat_natCast]; exact gb)
    have lc : lidx (plc 257 a 0 r) (i : Int) = some ((fc : Int), ((nd (257 : Int).toNat a s.size : Nat) : Int), (s.size : Int)) := lidx_of (by omega) (by rw [Int.toNat_natCast]; exact gc)
    have hd := dg_spec (p := p.toNat) (by have := vF_b hA.f; omega)
    have hsz := hA.s s (List.mem_of_getElem? hs)
    have w1 := nd_wider (p := p.toNat) (n := s.size) hA.w1.1 hab
    have w2 : nd (257 : Int).toNat a s.size ≤ nd p.toNat a s.size := nd_fewer (by rw [show dg (257 : Int).toNat = 1 from rfl]; exact hd.1)
    have w3 := nd_tight (p := p.toNat) (n := s.size) hA.w1.1
    have w4 := nd_mul (p := p.toNat) (n := s.size) hA.w1.1
    have w5 := nd_le (p := p.toNat) (n := s.size) hA.w1 (by omega) hd.2.1
    have w6 := nd_pos p.toNat a s.size
    rw [lb, la, lc]
    simp only [Option.bind_some]
    rw [if_neg (show ¬ (((nd p.toNat a s.size : Nat) : Int) < ((nd p.toNat b s.size : Nat) : Int)) by omega)]
    simp only [Option.bind_some]
    rw [if_neg (show ¬ (decide (((nd p.toNat a s.size : Nat) : Int) < ((nd (257 : Int).toNat a s.size : Nat) : Int)) = true) from bf (by omega))]
    simp only [Option.bind_some]
    have hm : dg p.toNat * s.size ≤ 8 * 1024 := Nat.mul_le_mul hd.2.1 hsz
    have e1 : ((dg p.toNat : Nat) : Int) * (s.size : Int) = ((dg p.toNat * s.size : Nat) : Int) := by omega
    have e2 : ((nd p.toNat a s.size : Nat) : Int) * (a : Int) = ((nd p.toNat a s.size * a : Nat) : Int) := by omega
    have e3 : (((nd p.toNat a s.size : Nat) : Int) - 1) * (a : Int) = (((nd p.toNat a s.size - 1) * a : Nat) : Int) := by rw [Int.natCast_mul]; congr 1; omega
    have w7 : (nd p.toNat a s.size - 1) * a ≤ nd p.toNat a s.size * a := Nat.mul_le_mul_right _ (by omega)
    have hq2 : nd p.toNat a s.size ≤ nd p.toNat a s.size * a := Nat.le_mul_of_pos_right _ hA.w1.1
    rw [Nat.mul_comm] at w4
    rw [e1, w64_id (x := ((dg p.toNat * s.size : Nat) : Int)) (by omega) (by omega), w64_id (x := ((nd p.toNat a s.size : Nat) : Int) - 1) (by omega) (by omega), e3, e2, w64_id (by omega) (by omega), w64_id (by omega) (by omega)]
    rw [if_neg (bf (by omega))]
    simp only [Option.bind_some]
    rw [if_neg (bf (by omega)), widths_L hA hB hC hab q (i + 1) (drop_succ hq)]
theorem law_widths (t : List Int) {u v : Int} (hu : 0 ≤ u ∧ u ≤ 255) (hv : 0 ≤ v ∧ v ≤ 255) : law13_LayoutWidths t u v = some true := by
  unfold law13_LayoutWidths
  rw [sane13]
  simp only [Option.bind_some]
  rw [if_neg (by simp), few_eq]
  simp only [Option.bind_some]
  by_cases ht : (t.length : Int) ≤ 500
  · rw [if_neg (nb_t ht)]
    rw [show make_New t = some (t, 0) from rfl]
    simp only [Option.bind_some]
    obtain ⟨p, e, h1, h2, h3⟩ := field_ok (by omega) (new_dk (t := t))
    rw [h1]
    simp only [Option.bind_some]
    obtain ⟨r, e2, h4, h5, h6, h7⟩ := records_ok (by omega) h3
    rw [h4]
    simp only [Option.bind_some]
    have hw : w64 (1 + w64 (Int.tmod u 30)) = ((1 + (u % 30).toNat : Nat) : Int) := by
      rw [Int.tmod_eq_emod_of_nonneg hu.1, w64_id (x := u % 30) (by omega) (by omega), w64_id (by omega) (by omega)]; omega
    have hw2 : w64 (((1 + (u % 30).toNat : Nat) : Int) + w64 (Int.tmod v 30)) = ((1 + (u % 30).toNat + (v % 30).toNat : Nat) : Int) := by
      rw [Int.tmod_eq_emod_of_nonneg hv.1, w64_id (x := v % 30) (by omega) (by omega), w64_id (by omega) (by omega)]; omega
    have f257 : vF 257 = true := List.all_eq_true.1 fields_ok 257 (by simp)
    have hA := few_laid h2 (w := 1 + (u % 30).toNat) (by omega) h5 h6
    have hB := few_laid h2 (w := 1 + (u % 30).toNat + (v % 30).toNat) (by omega) h5 h6
    have hC := few_laid f257 (w := 1 + (u % 30).toNat) (by omega) h5 h6
    rw [hw, hw2, encode_eq, hA.enc]
    simp only [Option.bind_some]
    rw [encode_eq, hB.enc]
    simp only [Option.bind_some]
    rw [encode_eq, hC.enc]
    simp only [Option.bind_some]
    rw [digitsI_eq, if_pos h2, if_pos h2]
    simp only [Option.bind_some]
    rw [if_neg (by rw [plc_len, plc_len, plc_len]; simp)]
    exact widths_L hA hB hC (by omega) r 0 rfl
  · rw [if_pos (nb_f ht)]

-- LayoutMore
theorem plc_snoc {p : Int} {w : Nat} (s : ByteArray) : ∀ (r : List ByteArray) (k : Nat), plc p w k (r ++ [s]) = plc p w k r ++ [(((k + sumN p w r : Nat) : Int), ((nd p.toNat w s.size : Nat) : Int), (s.size : Int))]
  | [], k => by simp [plc, sumN]
  | t :: r, k => by
    simp only [List.cons_append, plc, plc_snoc s r, sumN, List.cons.injEq, true_and]
    congr 4; omega
theorem sumN_snoc {p : Int} {w : Nat} (s : ByteArray) : ∀ r : List ByteArray, sumN p w (r ++ [s]) = sumN p w r + nd p.toNat w s.size
  | [] => by simp [sumN]
  | t :: r => by simp only [List.cons_append, sumN, sumN_snoc s r]; omega
theorem more_L (kx : Int → Int → Int → Int → Option Bool) (a b c e : Int) (l : List (Int × Int × Int)) (x : Int × Int × Int) : ∀ (q : List (Int × Int × Int)) (i : Nat), l.drop i = q → law13_LayoutMore_L2 kx a (l ++ [x]) b c e q i = kx a b c e
  | [], _, _ => rfl
  | y :: q, i, h => by
    show law13_LayoutMore_B2 kx a (l ++ [x]) b c e (law13_LayoutMore_L2 kx a (l ++ [x]) b c e q (i + 1)) y i = _
    unfold law13_LayoutMore_B2
    have hi : i < l.length := by have := drop_lt h; omega
    have h1 : l[i]? = some y := by have : (l.drop i)[0]? = some y := by rw [h]; rfl
                                   simpa using this
    have h2 : (l ++ [x])[i]? = some y := by rw [List.getElem?_append_left hi]; exact h1
    rw [lidx_of (by omega) (by rw [Int.toNat_natCast]; exact h2)]
    simp only [Option.bind_some]
    rw [if_neg (by simp), more_L kx a b c e l x q (i + 1) (drop_succ h)]
theorem law_more (t : List Int) (m : ByteArray) : law13_LayoutMore t m = some true := by
  unfold law13_LayoutMore
  rw [sane13]
  simp only [Option.bind_some]
  rw [if_neg (by simp), few_eq]
  simp only [Option.bind_some]
  by_cases hc : ((!decide ((t.length : Int) ≤ 500)) = true) ∨ (40 < (m.size : Int))
  · rw [if_pos hc]
  · rw [if_neg hc]
    have ht : (t.length : Int) ≤ 500 := by
      by_cases h : (t.length : Int) ≤ 500
      · exact h
      · exact absurd (.inl (nb_f h)) hc
    have hm : ¬ (40 < (m.size : Int)) := fun h => hc (.inr h)
    rw [show make_New t = some (t, 0) from rfl]
    simp only [Option.bind_some]
    obtain ⟨p, r, w, e, h1, hL, h2, h3, h4, h5⟩ := laid_ok (by omega) (new_dk (t := t))
    rw [h1]
    simp only [Option.bind_some]
    have hw := hL.w1
    rw [if_neg (show ¬ ((w : Int) = 0) by omega), lapp_ok (by simp; omega)]
    simp only [Option.bind_some, List.nil_append]
    rw [lapp_ok (by simp; omega)]
    simp only [Option.bind_some]
    have hd := (dg_spec (p := p.toNat) (by have := vF_b hL.f; omega)).2.1
    have hM : LaidP p w (r ++ [m]) := by
      have s1 := sumN_le (w := w) hw.1 hd r h4
      have s2 : r.length * (8 * 9 + 1) ≤ 5 * (8 * 9 + 1) := Nat.mul_le_mul_right _ h3
      have s3 := nd_le2 (n := m.size) hw.1 hd
      refine ⟨hL.f, hw, by simp; omega, fun s hs => ?_, by rw [sumN_snoc]; omega⟩
      rcases List.mem_append.1 hs with hs | hs
      · have := h4 s hs; omega
      · simp at hs; subst hs; omega
    rw [encode_eq, hM.enc]
    simp only [Option.bind_some]
    unfold law13_LayoutMore_J3
    have hrl : rws p w (r ++ [m]) = rws p w r ++ rowsN p w m := by simp [List.flatMap_append]
    have hn := nd_pos p.toNat w m.size
    have hlen : (rws p w (r ++ [m])).length = (rws p w r).length + nd p.toNat w m.size := by rw [hrl, List.length_append, rowsN_len]
    have hk : (rws p w (r ++ [m])).length ≤ 1024 := by rw [rows_len]; exact hM.k
    rw [w64_id (by omega) (by omega)]
    rw [if_neg (by rw [plc_len]; simp only [List.length_append, List.length_cons, List.length_nil]; omega)]
    have hpl : plc p w 0 (r ++ [m]) = plc p w 0 r ++ [(((0 + sumN p w r : Nat) : Int), ((nd p.toNat w m.size : Nat) : Int), (m.size : Int))] := plc_snoc m r 0
    rw [hpl, more_L _ _ _ _ _ (plc p w 0 r) _ (plc p w 0 r) 0 rfl, ← hpl]
    unfold law13_LayoutMore_J1
    have hg : (r ++ [m])[r.length]? = some m := by simp
    obtain ⟨f, g1, g2, g3, g4⟩ := hM.get hg
    have hgl : (plc p w 0 (r ++ [m]))[r.length]? = some (((0 + sumN p w r : Nat) : Int), ((nd p.toNat w m.size : Nat) : Int), (m.size : Int)) := by
      rw [hpl, List.getElem?_append_right (by rw [plc_len]; exact Nat.le_refl _), plc_len]; simp
    rw [lidx_of (by omega) (by rw [Int.toNat_natCast]; exact hgl)]
    simp only [Option.bind_some]
    rw [record_eq p (lay p w (r ++ [m])) (by omega), g4]
    simp only [Option.bind_some]
    rw [if_pos (by simp), lsub_ok (by omega) (by omega) (by omega)]
    simp only [Option.bind_some]
    have e1 : ((rws p w (r ++ [m])).drop (0 : Int).toNat).take (((rws p w r).length : Int) - 0).toNat = rws p w r := by
      rw [show (0 : Int).toNat = 0 from rfl, List.drop_zero, Int.sub_zero, Int.toNat_natCast, hrl, List.take_left]
    rw [e1, sameRows_refl]
    simp only [Option.bind_some]
    have hs : (rws p w r).length = sumN p w r := rows_len r
    rw [w64_id (by omega) (by omega)]
    congr 1
    refine decide_eq_true ⟨⟨⟨by trivial, ?_⟩, ?_⟩, by trivial⟩
    · have : (rws p w r).length = sumN p w r := hs
      omega
    · have : (rws p w r).length = sumN p w r := hs
      omega

-- LayoutDigits
theorem digs_L4 {p : Int} (hp : vF p = true) (kx : Int → Int → Int → Int → Option Bool) (e : Int) : ∀ (m k f : Nat) (y : Int), k + m = dg p.toNat → m < f →
    law13_LayoutDigits_L4 kx ((dg p.toNat : Nat) : Int) p e f (p ^ k) y (k : Int) = kx (p ^ dg p.toNat) (if m = 0 then y else p ^ (dg p.toNat - 1)) p e
  | _, _, 0, _, _, h => by omega
  | 0, k, f + 1, y, h, hf => by
    show law13_LayoutDigits_B4 kx _ p e (law13_LayoutDigits_L4 kx _ p e f) _ y _ = _
    unfold law13_LayoutDigits_B4
    have : k = dg p.toNat := by omega
    subst this
    rw [if_neg (by omega), if_pos rfl]
  | m + 1, k, f + 1, y, h, hf => by
    show law13_LayoutDigits_B4 kx _ p e (law13_LayoutDigits_L4 kx _ p e f) _ y _ = _
    unfold law13_LayoutDigits_B4
    have hd := dg_spec (p := p.toNat) (by have := vF_b hp; omega)
    have hb := pow_b hp (k := k + 1) (by omega)
    rw [if_pos (by omega), ← Int.pow_succ, w64_id (x := p ^ (k + 1)) (by omega) (by omega), w64_id (by omega) (by omega), show (k : Int) + 1 = ((k + 1 : Nat) : Int) by omega, digs_L4 hp kx e m (k + 1) f _ (by omega) (by omega)]
    rw [if_neg (show ¬ (m + 1 = 0) by omega)]
    by_cases hm : m = 0
    · rw [if_pos hm]; congr 2; omega
    · rw [if_neg hm]
theorem digs_L2 {p : Int} (hp : vF p = true) (kx : Int → Int → Int → Int → Option Bool) (a e : Int) {row : List Int} (hr : elm p row) (hl : row.length = dg p.toNat) : ∀ (k f : Nat), k ≤ row.length → k < f →
    law13_LayoutDigits_L2 kx [row] a p e f (val p (row.drop k)) ((k : Int) - 1) = kx (val p row) a p e
  | _, 0, _, h => by omega
  | 0, f + 1, h, hf => by
    show law13_LayoutDigits_B2 kx [row] a p e (law13_LayoutDigits_L2 kx [row] a p e f) _ _ = _
    unfold law13_LayoutDigits_B2
    rw [if_neg (by omega), List.drop_zero]
  | k + 1, f + 1, h, hf => by
    show law13_LayoutDigits_B2 kx [row] a p e (law13_LayoutDigits_L2 kx [row] a p e f) _ _ = _
    unfold law13_LayoutDigits_B2
    have hd := dg_spec (p := p.toNat) (by have := vF_b hp; omega)
    have h2 := vF_b hp
    have e0 : ((k + 1 : Nat) : Int) - 1 = (k : Int) := by omega
    rw [e0, if_pos (by omega), show lidx [row] 0 = some row from rfl]
    simp only [Option.bind_some]
    rw [lidx_nat 0 (by omega)]
    simp only [Option.bind_some]
    have hg : row.getD k 0 = row[k] := by rw [List.getD_eq_getElem?_getD, List.getElem?_eq_getElem (by omega)]; rfl
    have hck := List.drop_eq_getElem_cons (l := row) (i := k) (by omega)
    have hv1 := val_sm hp (l := row.drop (k + 1)) (fun x hx => hr x (List.mem_of_mem_drop hx)) (by rw [List.length_drop]; omega)
    have hv0 := val_sm hp (l := row.drop k) (fun x hx => hr x (List.mem_of_mem_drop hx)) (by rw [List.length_drop]; omega)
    rw [hck] at hv0
    simp only [val] at hv0
    have hx := hr _ (List.getElem_mem (show k < row.length by omega))
    have hm0 : 0 ≤ val p (row.drop (k + 1)) * p := Int.mul_nonneg hv1.1 (by omega)
    have hm1 : val p (row.drop (k + 1)) * p ≤ 256 * 65521 := by rw [Int.mul_comm]; omega
    rw [hg, w64_id (x := val p _ * p) (by omega) (by omega), w64_id (x := val p _ * p + _) (by rw [Int.mul_comm]; omega) (by rw [Int.mul_comm]; omega), w64_id (by omega) (by omega)]
    have ih := digs_L2 hp kx a e hr hl k f (by omega) (by omega)
    rw [hck] at ih
    simp only [val] at ih
    rw [← ih]
    congr 1
    rw [Int.mul_comm]; omega
theorem toB_ofB {l : List Int} (h : Byt l) : toB (ofB l) = l := by
  unfold toB ofB
  simp only [List.map_map]
  conv => rhs; rw [← List.map_id l]
  apply List.map_congr_left
  intro b hb
  have := h b hb
  show ((UInt8.ofNat b.toNat).toNat : Int) = b
  rw [UInt8.toNat_ofNat']
  omega
theorem digs_J3 {p : Int} (h2 : vF p = true) {b : Int} (hb : 0 ≤ b ∧ b ≤ 255) (e : Int) : law13_LayoutDigits_J3 b ((dg p.toNat : Nat) : Int) 0 (p ^ dg p.toNat) (p ^ (dg p.toNat - 1)) p e = some true := by
  have hp := vF_b h2
  have hd := dg_spec (p := p.toNat) (by omega)
  have hsz : (ofB [b]).size = 1 := by rw [ofB_size]; rfl
  have hnd : nd p.toNat (dg p.toNat) 1 = 1 := by
    unfold nd
    rw [Nat.one_mul]
    have : (dg p.toNat + dg p.toNat - 1) / dg p.toNat < 2 := Nat.div_lt_of_lt_mul (by omega)
    omega
  have hM : LaidP p (dg p.toNat) [ofB [b]] := ⟨h2, by omega, by simp, fun s hs => by simp at hs; subst hs; omega, by simp only [sumN, hsz, hnd]; omega⟩
  have hbt : toB (ofB [b]) = [b] := toB_ofB (fun x hx => by simp at hx; subst hx; exact hb)
  have hrow : rws p (dg p.toNat) [ofB [b]] = [digs p (dg p.toNat) b] := by
    have : rowsN p (dg p.toNat) (ofB [b]) = [digs p (dg p.toNat) b] := by
      unfold rowsN
      rw [hsz, hnd, hbt, Nat.one_mul]
      have e1 : padz (dg p.toNat) (0 : Int) (els p [b]) = digs p (dg p.toNat) b := by
        unfold padz
        rw [els_len]
        simp [els]
      rw [e1]
      unfold chk
      rw [show List.range 1 = [0] from rfl]
      simp only [List.map_cons, List.map_nil, Nat.zero_mul, List.drop_zero]
      rw [List.take_of_length_le (by rw [digs_len]; exact Nat.le_refl _)]
    simp [this]
  have hpb := pow_b h2 (k := dg p.toNat) (Nat.le_refl _)
  have h256 := pow256 h2
  have hless : p ^ (dg p.toNat - 1) < 256 := by
    have e1 : p ^ (dg p.toNat - 1) = ((p.toNat ^ (dg p.toNat - 1) : Nat) : Int) := by rw [Int.natCast_pow, Int.toNat_of_nonneg (by omega)]
    have := hd.2.2.1
    omega
  generalize hP : p ^ dg p.toNat = P at hpb h256 ⊢
  generalize hQ : p ^ (dg p.toNat - 1) = Q at hless ⊢
  have hv : val p (digs p (dg p.toNat) b) = b := val_digs (by omega) _ b hb.1 (by rw [hP]; omega)
  have hrl := digs_len p (dg p.toNat) b
  have hre := els_elm (p := p) (by omega) (dg p.toNat) b
  generalize digs p (dg p.toNat) b = row at hrow hv hrl hre
  have hE : layout_Encode p ((dg p.toNat : Nat) : Int) ([(ofB ([b] : List Int))] : List ByteArray) = some ([row], lay p (dg p.toNat) [ofB [b]], 0) := by rw [encode_eq, hM.enc, hrow]
  have hl1 : (lay p (dg p.toNat) [ofB [b]]).2.length = 1 := plc_len _ _ _ _
  generalize lay p (dg p.toNat) [ofB [b]] = L at hE hl1
  generalize hD : dg p.toNat = D at *
  unfold law13_LayoutDigits_J3
  rw [hE, Option.bind_some]
  dsimp only
  rw [if_neg (by simp only [List.length_cons, List.length_nil]; omega), show lidx [row] 0 = some row from rfl, Option.bind_some, Option.bind_some]
  rw [if_neg (by rw [hrl]; simp), w64_id (by omega) (by omega)]
  have h5 := digs_L2 h2 (law13_LayoutDigits_J1 b) L.1 e hre (by omega) row.length big (Nat.le_refl _) (by rw [hrl]; simp only [big]; omega)
  rw [List.drop_of_length_le (Nat.le_refl _), hrl] at h5
  rw [show val p [] = 0 from rfl] at h5
  rw [h5]
  unfold law13_LayoutDigits_J1
  rw [hv, w64_id (by omega) (by omega)]
  simp
theorem law_digits (t : List Int) {b : Int} (hb : 0 ≤ b ∧ b ≤ 255) : law13_LayoutDigits t b = some true := by
  unfold law13_LayoutDigits
  have hB : 100 < big := by simp only [big]; omega
  generalize big = B at hB ⊢
  rw [sane13]
  simp only [Option.bind_some]
  rw [if_neg (by simp), few_eq]
  simp only [Option.bind_some]
  by_cases ht : (t.length : Int) ≤ 500
  · rw [if_neg (nb_t ht)]
    rw [show make_New t = some (t, 0) from rfl]
    simp only [Option.bind_some]
    obtain ⟨p, e, h1, h2, h3⟩ := field_ok (by omega) (new_dk (t := t))
    rw [h1]
    simp only [Option.bind_some]
    have hp := vF_b h2
    have hd := dg_spec (p := p.toNat) (by omega)
    have h4 := digs_L4 h2 (law13_LayoutDigits_J3 b ((dg p.toNat : Nat) : Int) 0) e.2 (dg p.toNat) 0 B 1 (by omega) (by omega)
    rw [Int.pow_zero, show ((0 : Nat) : Int) = (0 : Int) from rfl, if_neg (by omega), digs_J3 h2 hb e.2] at h4
    have hdg : layout_Digits p = some (((dg p.toNat : Nat) : Int), 0) := by rw [digitsI_eq, if_pos h2, if_pos h2]
    generalize ((dg p.toNat : Nat) : Int) = D at hdg h4
    rw [hdg, Option.bind_some]
    exact h4
  · rw [if_pos (nb_f ht)]
end Go.Proofs.Ythgmcgldmahgeaa
