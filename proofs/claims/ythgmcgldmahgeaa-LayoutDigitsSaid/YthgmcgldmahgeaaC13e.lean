/- Chapter 13, plain: the document's decoding; what layouts are valid, what is read and asked for. -/
import Derived.Test.YthgmcgldmahgeaaC13d
namespace Go.Proofs.Ythgmcgldmahgeaa

theorem rdec_L2 (v : List Int) (z : Int) : ∀ l : List Int, ref13_Decode_L2 (ref13_Decode_J1 v) z l = some (if (∀ x ∈ l, x = 0) then (ofB v, 0) else noD)
  | [] => by rw [if_pos (by simp)]; rfl
  | x :: l => by
    show ref13_Decode_B2 _ z (ref13_Decode_L2 (ref13_Decode_J1 v) z l) x = _
    unfold ref13_Decode_B2
    by_cases hx : x ≠ 0
    · rw [if_pos hx, if_neg (fun h => hx (h x List.mem_cons_self))]
    · rw [if_neg hx, rdec_L2 v z l]
      by_cases hl : ∀ x ∈ l, x = 0
      · rw [if_pos hl, if_pos (fun y hy => by rcases List.mem_cons.1 hy with rfl | hy; omega; exact hl y hy)]
      · rw [if_neg hl, if_neg (fun h => hl fun y hy => h y (List.mem_cons_of_mem _ hy))]
theorem rdec_L5 {p : Int} (hp : vF p = true) (kx : Int → Int → Option (ByteArray × Int)) {all : List Int} (i : Nat) (he : elm p all) (hi : (i + 1) * dg p.toNat ≤ all.length) (hb : all.length ≤ 1000000) : ∀ (k f : Nat), k ≤ dg p.toNat → k < f →
    ref13_Decode_L5 kx (i : Int) all ((dg p.toNat : Nat) : Int) p f (val p (((all.drop (i * dg p.toNat)).take (dg p.toNat)).drop k)) ((k : Int) - 1) = kx (val p ((all.drop (i * dg p.toNat)).take (dg p.toNat))) p
  | _, 0, _, h => by omega
  | 0, f + 1, h, hf => by
    show ref13_Decode_B5 kx (i : Int) all _ p (ref13_Decode_L5 kx (i : Int) all _ p f) _ _ = _
    unfold ref13_Decode_B5
    rw [if_neg (by omega), List.drop_zero]
  | k + 1, f + 1, h, hf => by
    show ref13_Decode_B5 kx (i : Int) all _ p (ref13_Decode_L5 kx (i : Int) all _ p f) _ _ = _
    unfold ref13_Decode_B5
    have ih := rdec_L5 hp kx i he hi hb k f (by omega) (by omega)
    have h1 : (i + 1) * dg p.toNat = i * dg p.toNat + dg p.toNat := by rw [Nat.add_mul]; omega
    have h2 := vF_b hp
    have hd := (dg_spec (p := p.toNat) (by omega)).2.1
    generalize hD : dg p.toNat = D at *
    have e0 : ((k + 1 : Nat) : Int) - 1 = (k : Int) := by omega
    have e1 : (i : Int) * (D : Int) = ((i * D : Nat) : Int) := by omega
    have e2 : ((i * D : Nat) : Int) + (k : Int) = ((i * D + k : Nat) : Int) := by omega
    have hil : i * D ≤ all.length := by omega
    rw [e0, if_pos (by omega), e1, w64_id (x := ((i * D : Nat) : Int)) (by omega) (by omega), e2, w64_id (x := ((i * D + k : Nat) : Int)) (by omega) (by omega), lidx_nat 0 (by omega)]
    simp only [Option.bind_some]
    have hg : all.getD (i * D + k) 0 = all[i * D + k] := by rw [List.getD_eq_getElem?_getD, List.getElem?_eq_getElem (by omega)]; rfl
    have hcl : ((all.drop (i * D)).take D).length = D := by rw [List.length_take, List.length_drop]; omega
    have hck : ((all.drop (i * D)).take D).drop k = all[i * D + k] :: ((all.drop (i * D)).take D).drop (k + 1) := by
      rw [List.drop_eq_getElem_cons (by omega)]
      congr 1
      simp
    have hce : elm p ((all.drop (i * D)).take D) := fun x hx => he x (List.mem_of_mem_drop (List.mem_of_mem_take hx))
    have hde : ∀ j, elm p (((all.drop (i * D)).take D).drop j) := fun j x hx => hce x (List.mem_of_mem_drop hx)
    have hv1 := val_sm hp (hde (k + 1)) (by rw [List.length_drop, hcl, hD]; omega)
    have hv0 := val_sm hp (hde k) (by rw [List.length_drop, hcl, hD]; omega)
    rw [hck] at hv0
    simp only [val] at hv0
    have hx := he _ (List.getElem_mem (show i * D + k < all.length by omega))
    have hm0 : 0 ≤ val p (((all.drop (i * D)).take D).drop (k + 1)) * p := Int.mul_nonneg hv1.1 (by omega)
    have hm1 : val p (((all.drop (i * D)).take D).drop (k + 1)) * p ≤ 256 * 65521 := by rw [Int.mul_comm]; omega
    rw [hg, w64_id (x := val p _ * p) (by omega) (by omega), w64_id (x := val p _ * p + _) (by rw [Int.mul_comm]; omega) (by rw [Int.mul_comm]; omega), w64_id (by omega) (by omega)]
    rw [hck] at ih
    simp only [val] at ih
    rw [← ih]
    congr 1
    rw [Int.mul_comm]; omega
theorem rdec_L6 {p : Int} (hp : vF p = true) (kx : List Int → List Int → Int → Option (ByteArray × Int)) {all : List Int} {n : Nat} (he : elm p all) (hn : n * dg p.toNat ≤ all.length) (hb : all.length ≤ 1000000) (hn2 : n ≤ 10000) : ∀ (m k f : Nat) (acc : List Int), k + m = n → m < f → acc.length + m ≤ 100000 →
    ref13_Decode_L6 kx all (n : Int) ((dg p.toNat : Nat) : Int) f acc (k : Int) p = if (∀ c ∈ (List.range m).map (fun t => (all.drop ((k + t) * dg p.toNat)).take (dg p.toNat)), val p c ≤ 255) then kx all (acc ++ ((List.range m).map (fun t => (all.drop ((k + t) * dg p.toNat)).take (dg p.toNat))).map (val p)) p else some noD
  | _, _, 0, _, _, h, _ => by omega
  | 0, k, f + 1, acc, h, hf, ha => by
    show ref13_Decode_B6 kx all (n : Int) _ (ref13_Decode_L6 kx all (n : Int) _ f) acc _ p = _
    unfold ref13_Decode_B6
    rw [if_neg (by omega), if_pos (by simp)]; simp
  | m + 1, k, f + 1, acc, h, hf, ha => by
    show ref13_Decode_B6 kx all (n : Int) _ (ref13_Decode_L6 kx all (n : Int) _ f) acc _ p = _
    unfold ref13_Decode_B6
    have h2 := vF_b hp
    have hd := dg_spec (p := p.toNat) (by omega)
    have hk : (k + 1) * dg p.toNat ≤ n * dg p.toNat := Nat.mul_le_mul_right _ (by omega)
    have hk2 : (k + 1) * dg p.toNat = k * dg p.toNat + dg p.toNat := by rw [Nat.add_mul]; omega
    rw [if_pos (by omega), w64_id (by omega) (by omega)]
    have h5 := rdec_L5 hp (ref13_Decode_J4 (ref13_Decode_L6 kx all (n : Int) ((dg p.toNat : Nat) : Int) f) (k : Int) acc) k he (by omega) hb (dg p.toNat) big (Nat.le_refl _) (by simp only [big]; omega)
    have hcl : ((all.drop (k * dg p.toNat)).take (dg p.toNat)).length = dg p.toNat := by rw [List.length_take, List.length_drop]; omega
    rw [List.drop_of_length_le (by rw [hcl]; exact Nat.le_refl _)] at h5
    rw [show val p [] = 0 from rfl] at h5
    rw [h5]
    unfold ref13_Decode_J4
    have hv := val_sm hp (l := (all.drop (k * dg p.toNat)).take (dg p.toNat)) (fun x hx => he x (List.mem_of_mem_drop (List.mem_of_mem_take hx))) (by omega)
    rw [range_shift (fun t => (all.drop (t * dg p.toNat)).take (dg p.toNat))]
    by_cases h255 : 255 < val p ((all.drop (k * dg p.toNat)).take (dg p.toNat))
    · rw [if_pos h255, if_neg (fun hh => by have := hh _ List.mem_cons_self; omega)]
    · rw [if_neg h255, lapp_ok (by simp; omega)]
      simp only [Option.bind_some]
      rw [wu8_id (by omega) (by omega), w64_id (by omega) (by omega), show (k : Int) + 1 = ((k + 1 : Nat) : Int) by omega, rdec_L6 hp kx he hn hb hn2 m (k + 1) f _ (by omega) (by omega) (by simp; omega)]
      by_cases hc : ∀ c ∈ (List.range m).map (fun t => (all.drop ((k + 1 + t) * dg p.toNat)).take (dg p.toNat)), val p c ≤ 255
      · rw [if_pos hc, if_pos (fun x hx => by rcases List.mem_cons.1 hx with rfl | hx; omega; exact hc x hx)]; simp
      · rw [if_neg hc, if_neg (fun hh => hc fun x hx => hh x (List.mem_cons_of_mem _ hx))]
theorem rdec_L8 {p : Int} (hp : vF p = true) {w : Nat} (kx : List Int → Int → Option (ByteArray × Int)) : ∀ (rows : List (List Int)) (acc : List Int), acc.length + rows.length * w ≤ 1000000 →
    ref13_Decode_L8 kx (w : Int) p rows acc = if rOk p w rows then kx (acc ++ rows.flatten) p else some noD
  | [], acc, _ => by rw [if_pos (show rOk p w [] from fun _ h => by cases h)]; simp [ref13_Decode_L8]
  | r :: rows, acc, h => by
    show ref13_Decode_B8 kx (w : Int) p (ref13_Decode_L8 kx (w : Int) p rows) r acc = _
    unfold ref13_Decode_B8
    simp only [List.length_cons, Nat.add_mul, Nat.one_mul] at h
    by_cases hr : (r.length : Int) ≠ (w : Int)
    · rw [if_pos hr]
      simp only [Option.bind_some, if_true]
      rw [if_neg (show ¬ rOk p w (r :: rows) from fun hh => by have := (hh r List.mem_cons_self).1; omega)]
    · rw [if_neg hr, in_eq hp]
      simp only [Option.bind_some]
      by_cases he : elm p r
      · rw [if_neg (nb_t he), lapp_ok (by omega)]
        simp only [Option.bind_some]
        rw [rdec_L8 hp kx rows _ (by simp; omega)]
        by_cases hh : rOk p w rows
        · rw [if_pos hh, if_pos (show rOk p w (r :: rows) from fun x hx => by rcases List.mem_cons.1 hx with rfl | hx; exact ⟨by omega, he⟩; exact hh x hx)]; simp
        · rw [if_neg hh, if_neg (show ¬ rOk p w (r :: rows) from fun h2 => hh fun x hx => h2 x (List.mem_cons_of_mem _ hx))]
      · rw [if_pos (nb_f he), if_neg (show ¬ rOk p w (r :: rows) from fun hh => he (hh r List.mem_cons_self).2)]
theorem rdecode_eq (p w n : Int) (rows : List (List Int)) : ref13_Decode p w n rows = some (decI p w n rows) := by
  unfold ref13_Decode
  rw [rof_eq]
  simp only [Option.bind_some]
  by_cases hp : vF p = true
  · rw [if_pos hp]
    rw [if_neg (show ¬ ((0 : Int) ≠ 0) by decide)]
    by_cases h2 : (1 ≤ w ∧ w ≤ 64) ∧ 0 ≤ n ∧ n ≤ 1024
    · rw [if_neg (by omega)]
      have hd := dg_spec (p := p.toNat) (by have := vF_b hp; omega)
      have hneed := rneed_eq hp (w := w.toNat) (n := n.toNat) (by omega) (by omega)
      rw [Int.toNat_of_nonneg (by omega), Int.toNat_of_nonneg (by omega)] at hneed
      rw [hneed]
      simp only [Option.bind_some]
      by_cases h3 : rows.length = nd p.toNat w.toNat n.toNat
      · rw [if_neg (by omega), dec_o hp h2 h3]
        have hm := nd_le (p := p.toNat) (w := w.toNat) (n := n.toNat) (by omega) (by omega) hd.2.1
        have hm2 := nd_mul (p := p.toNat) (w := w.toNat) (n := n.toNat) (by omega)
        have h8 := rdec_L8 hp (w := w.toNat) (ref13_Decode_J7 n) rows [] (by rw [h3]; simp; omega)
        rw [Int.toNat_of_nonneg (by omega)] at h8
        rw [h8]
        by_cases hr : rOk p w.toNat rows
        · rw [if_pos hr, List.nil_append]
          unfold ref13_Decode_J7
          have hfl := rOk_len hr
          rw [h3] at hfl
          rw [rdigits_eq hp]
          simp only [Option.bind_some]
          have hnd : n.toNat * dg p.toNat ≤ 1024 * 8 := Nat.mul_le_mul (by omega) hd.2.1
          have e1 : n * ((dg p.toNat : Nat) : Int) = ((n.toNat * dg p.toNat : Nat) : Int) := by rw [Int.natCast_mul, Int.toNat_of_nonneg (by omega)]
          have h6 := rdec_L6 hp (ref13_Decode_J3 n ((dg p.toNat : Nat) : Int)) (n := n.toNat) (rOk_elm hr) (by omega) (by omega) (by omega) n.toNat 0 big [] (by omega) (by simp only [big]; omega) (by simp; omega)
          rw [Int.toNat_of_nonneg (by omega), show ((0 : Nat) : Int) = (0 : Int) from rfl] at h6
          rw [h6]
          simp only [Nat.zero_add, List.nil_append]
          rw [show ((List.range n.toNat).map fun t => (rows.flatten.drop (t * dg p.toNat)).take (dg p.toNat)) = chk (dg p.toNat) n.toNat rows.flatten from rfl]
          have hv : (∀ c ∈ chk (dg p.toNat) n.toNat rows.flatten, val p c ≤ 255) ↔ ∀ v ∈ vals p n.toNat rows.flatten, v ≤ 255 := by unfold vals; simp
          by_cases hc : ∀ c ∈ chk (dg p.toNat) n.toNat rows.flatten, val p c ≤ 255
          · rw [if_pos hc]
            unfold ref13_Decode_J3
            rw [e1, w64_id (by omega) (by omega), lsub_ok (by omega) (by omega) (by omega)]
            simp only [Option.bind_some]
            have e3 : ((rows.flatten.drop ((n.toNat * dg p.toNat : Nat) : Int).toNat).take ((rows.flatten.length : Int) - ((n.toNat * dg p.toNat : Nat) : Int)).toNat) = rows.flatten.drop (n.toNat * dg p.toNat) := by
              rw [Int.toNat_natCast]; apply List.take_of_length_le; rw [List.length_drop]; omega
            rw [e3, rdec_L2]
            by_cases hz : ∀ x ∈ rows.flatten.drop (n.toNat * dg p.toNat), x = 0
            · rw [if_pos hz, if_pos ⟨hr, hv.1 hc, hz⟩]; rfl
            · rw [if_neg hz, if_neg (fun h => hz h.2.2)]
          · rw [if_neg hc, if_neg (fun h => hc (hv.2 h.2.1))]
        · rw [if_neg hr, if_neg (fun h => hr h.1)]
      · rw [if_pos (by omega), dec_n hp h2 h3]
    · rw [if_pos (by omega), dec_w hp h2]
  · have hp : vF p = false := by simpa using hp
    rw [dec_f hp, hp]; rfl

/-- Places follow each other, from a row on, to the end. -/
def chN : List (Int × Int × Int) → Int → Int → Bool
  | [], at_, n => decide (at_ = n)
  | x :: l, at_, n => decide (x.1 = at_ ∧ 1 ≤ x.2.1 ∧ x.2.1 ≤ 1024 ∧ 0 ≤ x.2.2 ∧ x.2.2 ≤ 1024) && chN l (at_ + x.2.1) n
def chkI (l : Lay) (n : Int) : Int := if ((1 ≤ l.1 ∧ l.1 ≤ 64) ∧ l.2.length ≤ 256) ∧ chN l.2 0 n = true then 0 else 2
theorem chN_b : ∀ (l : List (Int × Int × Int)) (a n : Int), chN l a n = true → a + l.length ≤ n ∧ n ≤ a + 1024 * l.length
  | [], a, n, h => by simp [chN] at h; simp; omega
  | x :: l, a, n, h => by
    simp only [chN, Bool.and_eq_true, decide_eq_true_eq] at h
    obtain ⟨h1, h2⟩ := h
    have := chN_b l _ _ h2
    simp only [List.length_cons]; omega
theorem check_L (z n : Int) (hn : -9223372036854775808 ≤ n ∧ n ≤ 9223372036854775807) : ∀ (l : List (Int × Int × Int)) (a : Int), 0 ≤ a → a + 1024 * l.length ≤ 1000000 →
    layout_Check_L2 (layout_Check_J1 n) n z l a = some (if chN l a n then 0 else 2)
  | [], a, _, _ => by
    show layout_Check_J1 n a z = _
    unfold layout_Check_J1 chN
    by_cases h : a = n
    · rw [if_neg (not_not_intro h), if_pos (bt h)]
    · rw [if_pos h, if_neg (bf h)]
  | x :: l, a, h1, h2 => by
    show layout_Check_B2 (layout_Check_J1 n) n z (layout_Check_L2 (layout_Check_J1 n) n z l) x a = _
    unfold layout_Check_B2
    simp only [List.length_cons] at h2
    by_cases hx : x.1 = a ∧ 1 ≤ x.2.1 ∧ x.2.1 ≤ 1024 ∧ 0 ≤ x.2.2 ∧ x.2.2 ≤ 1024
    · by_cases hw : w64 (n - a) < x.2.1
      · rw [if_pos (.inr hw), if_neg]
        intro hc
        simp only [chN, Bool.and_eq_true] at hc
        have := chN_b _ _ _ hc.2
        rw [w64_id (by omega) (by omega)] at hw
        omega
      · have e : chN (x :: l) a n = chN l (a + x.2.1) n := by simp only [chN]; rw [decide_eq_true hx, Bool.true_and]
        rw [if_neg (by omega), w64_id (by omega) (by omega), check_L z n hn l _ (by omega) (by omega), e]
    · rw [if_pos (by omega), if_neg]
      intro hc
      simp only [chN, Bool.and_eq_true, decide_eq_true_eq] at hc
      exact hx hc.1
theorem check_eq (l : Lay) {n : Int} (hn : -9223372036854775808 ≤ n ∧ n ≤ 9223372036854775807) : layout_Check l n = some (chkI l n) := by
  unfold layout_Check layout_wide
  simp only [Option.bind_some]
  by_cases h : (1 ≤ l.1 ∧ l.1 ≤ 64) ∧ l.2.length ≤ 256
  · rw [if_neg (show ¬ ((!decide (1 ≤ l.1 ∧ l.1 ≤ 64)) = true ∨ 256 < (l.2.length : Int)) from fun hh => by rcases hh with hh | hh; exact nb_t h.1 hh; omega), check_L _ n hn l.2 0 (by omega) (by omega)]
    unfold chkI
    by_cases hc : chN l.2 0 n = true
    · rw [if_pos hc, if_pos ⟨h, hc⟩]
    · rw [if_neg hc, if_neg (fun hh => hc hh.2)]
  · have e : chkI l n = 2 := by unfold chkI; rw [if_neg (fun hh => h hh.1)]
    rw [e]
    by_cases hw : 1 ≤ l.1 ∧ l.1 ≤ 64
    · rw [if_pos (.inr (by omega))]
    · rw [if_pos (.inl (nb_f hw))]
theorem rcheck_L (z n : Int) : ∀ (l : List (Int × Int × Int)) (a : Int), 0 ≤ a → a + 1024 * l.length ≤ 1000000 → ref13_Check_L2 (ref13_Check_J1 n) z l a = some (if chN l a n then 0 else 2)
  | [], a, _, _ => by
    show ref13_Check_J1 n a z = _
    unfold ref13_Check_J1 chN
    by_cases h : a = n
    · rw [if_neg (not_not_intro h), if_pos (bt h)]
    · rw [if_pos h, if_neg (bf h)]
  | x :: l, a, h1, h2 => by
    show ref13_Check_B2 (ref13_Check_J1 n) z (ref13_Check_L2 (ref13_Check_J1 n) z l) x a = _
    unfold ref13_Check_B2
    simp only [List.length_cons] at h2
    by_cases hx : x.1 = a ∧ 1 ≤ x.2.1 ∧ x.2.1 ≤ 1024 ∧ 0 ≤ x.2.2 ∧ x.2.2 ≤ 1024
    · have e : chN (x :: l) a n = chN l (a + x.2.1) n := by simp only [chN]; rw [decide_eq_true hx, Bool.true_and]
      rw [if_neg (by omega), w64_id (by omega) (by omega), rcheck_L z n l _ (by omega) (by omega), e]
    · rw [if_pos (by omega), if_neg]
      intro hc
      simp only [chN, Bool.and_eq_true, decide_eq_true_eq] at hc
      exact hx hc.1
theorem rcheck_eq (l : Lay) (n : Int) : ref13_Check l n = some (chkI l n) := by
  unfold ref13_Check
  by_cases h : (1 ≤ l.1 ∧ l.1 ≤ 64) ∧ l.2.length ≤ 256
  · rw [if_neg (by omega), rcheck_L _ n l.2 0 (by omega) (by omega)]
    unfold chkI
    by_cases hc : chN l.2 0 n = true
    · rw [if_pos hc, if_pos ⟨h, hc⟩]
    · rw [if_neg hc, if_neg (fun hh => hc hh.2)]
  · have e : chkI l n = 2 := by unfold chkI; rw [if_neg (fun hh => h hh.1)]
    rw [e, if_pos (by omega)]
theorem chkI_ok {l : Lay} {n : Int} (h : chkI l n = 0) : ((1 ≤ l.1 ∧ l.1 ≤ 64) ∧ l.2.length ≤ 256) ∧ chN l.2 0 n = true := by
  unfold chkI at h
  split at h
  · assumption
  · omega
theorem chkI_no {l : Lay} {n : Int} (h : ¬ chkI l n = 0) : chkI l n = 2 := by
  unfold chkI at h ⊢
  split
  · rename_i hh; rw [if_pos hh] at h; exact absurd rfl h
  · rfl
/-- A place of a valid layout lies within the rows. -/
theorem chN_get : ∀ (l : List (Int × Int × Int)) (a n : Int) (i : Nat) (x : Int × Int × Int), chN l a n = true → l[i]? = some x → a ≤ x.1 ∧ x.1 + x.2.1 ≤ n ∧ 1 ≤ x.2.1 ∧ x.2.1 ≤ 1024 ∧ 0 ≤ x.2.2 ∧ x.2.2 ≤ 1024
  | [], _, _, i, x, _, h => by simp at h
  | y :: l, a, n, 0, x, h, hx => by
    simp only [List.getElem?_cons_zero, Option.some.injEq] at hx
    subst hx
    simp only [chN, Bool.and_eq_true, decide_eq_true_eq] at h
    have := chN_b _ _ _ h.2
    omega
  | y :: l, a, n, i + 1, x, h, hx => by
    simp only [List.getElem?_cons_succ] at hx
    simp only [chN, Bool.and_eq_true, decide_eq_true_eq] at h
    have := chN_get l _ _ i x h.2 hx
    omega

/-- What is read of a record, or the error. -/
def recI (p : Int) (l : Lay) (rows : List (List Int)) (i : Int) : ByteArray × Int :=
  if chkI l (rows.length : Int) ≠ 0 then (ByteArray.empty, 2) else if i < 0 ∨ (l.2.length : Int) ≤ i then (ByteArray.empty, 6)
  else decI p l.1 (l.2.getD i.toNat (0, 0, 0)).2.2 ((rows.drop (l.2.getD i.toNat (0, 0, 0)).1.toNat).take (l.2.getD i.toNat (0, 0, 0)).2.1.toNat)
theorem record_core {l : Lay} {rows : List (List Int)} {i : Int} (h1 : chkI l (rows.length : Int) = 0) (h2 : ¬ (i < 0 ∨ (l.2.length : Int) ≤ i)) :
    lidx l.2 i = some (l.2.getD i.toNat (0, 0, 0)) ∧ lsub rows (l.2.getD i.toNat (0, 0, 0)).1 (w64 ((l.2.getD i.toNat (0, 0, 0)).1 + (l.2.getD i.toNat (0, 0, 0)).2.1)) = some ((rows.drop (l.2.getD i.toNat (0, 0, 0)).1.toNat).take (l.2.getD i.toNat (0, 0, 0)).2.1.toNat) := by
  have hg : l.2[i.toNat]? = some (l.2.getD i.toNat (0, 0, 0)) := by
    rw [List.getD_eq_getElem?_getD, List.getElem?_eq_getElem (by omega)]; rfl
  have hc := chkI_ok h1
  have hb := chN_b _ _ _ hc.2
  have := chN_get l.2 0 _ _ _ hc.2 hg
  refine ⟨lidx_of (by omega) hg, ?_⟩
  rw [w64_id (by omega) (by omega), lsub_ok (by omega) (by omega) (by omega)]
  congr 2; omega
theorem record_eq (p : Int) (l : Lay) {rows : List (List Int)} (hr : rows.length ≤ 9223372036854775807) (i : Int) : layout_Record p l rows i = some (recI p l rows i) := by
  unfold layout_Record
  rw [check_eq l (by omega)]
  simp only [Option.bind_some]
  unfold recI
  by_cases h1 : chkI l (rows.length : Int) ≠ 0
  · rw [if_pos h1, if_pos h1, chkI_no h1]
  · rw [if_neg h1, if_neg h1]
    by_cases h2 : i < 0 ∨ (l.2.length : Int) ≤ i
    · rw [if_pos h2, if_pos h2]
    · obtain ⟨e1, e2⟩ := record_core (Decidable.not_not.1 h1) h2
      rw [if_neg h2, if_neg h2, e1]
      simp only [Option.bind_some]
      rw [e2]
      simp only [Option.bind_some]
      rw [decode_eq]; rfl
theorem rrecord_eq (p : Int) (l : Lay) (rows : List (List Int)) (i : Int) : ref13_Record p l rows i = some (recI p l rows i) := by
  unfold ref13_Record
  rw [rcheck_eq l]
  simp only [Option.bind_some]
  unfold recI
  by_cases h1 : chkI l (rows.length : Int) ≠ 0
  · rw [if_pos h1, if_pos h1, chkI_no h1]
  · rw [if_neg h1, if_neg h1]
    by_cases h2 : i < 0 ∨ (l.2.length : Int) ≤ i
    · rw [if_pos h2, if_pos h2]
    · obtain ⟨e1, e2⟩ := record_core (Decidable.not_not.1 h1) h2
      rw [if_neg h2, if_neg h2, e1]
      simp only [Option.bind_some]
      rw [e2]
      simp only [Option.bind_some]
      rw [rdecode_eq]; rfl

/-- How many rows the longest record has. -/
def mst : List (Int × Int × Int) → Int
  | [] => 0
  | x :: l => l.foldl (fun m y => max m y.2.1) x.2.1
theorem max_L {l : List (Int × Int × Int)} (hl : l.length ≤ 9223372036854775000) : ∀ (k f : Nat) (m : Int × Int × Int), k ≤ l.length → l.length - k < f →
    ∃ r, slices_MaxFunc_LapiPlaceapiPlace_L2 slices_MaxFunc_LapiPlaceapiPlace_J1 l layout_Most_f1 f (k : Int) m.1 m.2.1 m.2.2 = some r ∧ r.2.1 = (l.drop k).foldl (fun m y => max m y.2.1) m.2.1
  | _, 0, _, _, h => by omega
  | k, f + 1, m, h1, h2 => by
    show ∃ r, slices_MaxFunc_LapiPlaceapiPlace_B2 _ l layout_Most_f1 (slices_MaxFunc_LapiPlaceapiPlace_L2 slices_MaxFunc_LapiPlaceapiPlace_J1 l layout_Most_f1 f) (k : Int) m.1 m.2.1 m.2.2 = _ ∧ _
    unfold slices_MaxFunc_LapiPlaceapiPlace_B2
    by_cases hk : k < l.length
    · rw [if_pos (by omega), lidx_nat (0, 0, 0) hk]
      simp only [Option.bind_some]
      have hg : l.getD k (0, 0, 0) = l[k] := by rw [List.getD_eq_getElem?_getD, List.getElem?_eq_getElem hk]; rfl
      rw [hg, List.drop_eq_getElem_cons hk, List.foldl_cons]
      have e1 : w64 ((k : Int) + 1) = ((k + 1 : Nat) : Int) := by rw [w64_id (by omega) (by omega)]; omega
      rw [e1]
      unfold layout_Most_f1
      by_cases hc : (l[k]).2.1 < m.2.1
      · rw [if_pos hc]
        simp only [Option.bind_some]
        rw [if_neg (by omega)]
        obtain ⟨r, h3, h4⟩ := max_L hl (k + 1) f m (by omega) (by omega)
        exact ⟨r, h3, by rw [h4, Int.max_eq_left (by omega)]⟩
      · rw [if_neg hc]
        simp only [Option.bind_some]
        rw [if_pos (by omega)]
        obtain ⟨r, h3, h4⟩ := max_L hl (k + 1) f l[k] (by omega) (by omega)
        exact ⟨r, h3, by rw [h4, Int.max_eq_right (by omega)]⟩
    · rw [if_neg (by omega), List.drop_of_length_le (by omega)]
      exact ⟨_, rfl, rfl⟩
theorem most_eq (l : Lay) (hl : l.2.length ≤ 900000000) : layout_Most l = some (mst l.2) := by
  unfold layout_Most
  obtain ⟨w, l⟩ := l
  dsimp only at hl ⊢
  cases l with
  | nil => rfl
  | cons x l =>
    simp only [List.length_cons] at hl
    rw [if_neg (by simp only [List.length_cons]; omega)]
    unfold slices_MaxFunc_LapiPlaceapiPlace slices_MaxFunc_LapiPlaceapiPlace_J3
    rw [if_neg (by simp only [List.length_cons]; omega)]
    rw [show lidx (x :: l) 0 = some x from rfl]
    simp only [Option.bind_some]
    obtain ⟨r, h1, h2⟩ := max_L (l := x :: l) (by simp only [List.length_cons]; omega) 1 big x (by simp) (by simp only [List.length_cons, big]; omega)
    rw [show ((1 : Nat) : Int) = (1 : Int) from rfl] at h1
    rw [h1]
    simp only [Option.bind_some]
    rw [h2]; rfl
theorem rmost_L : ∀ (l : List (Int × Int × Int)) (i : Nat) (m : Int), 1 ≤ i → ref13_Most_L1 l i m = some (l.foldl (fun m y => max m y.2.1) m)
  | [], _, _, _ => rfl
  | x :: l, i, m, h => by
    show ref13_Most_B1 (ref13_Most_L1 l (i + 1)) x i m = _
    unfold ref13_Most_B1
    rw [List.foldl_cons]
    by_cases hc : m < x.2.1
    · rw [if_pos (.inr hc), rmost_L l _ _ (by omega), Int.max_eq_right (by omega)]
    · rw [if_neg (by omega), rmost_L l _ _ (by omega), Int.max_eq_left (by omega)]
theorem rmost_eq (l : Lay) : ref13_Most l = some (mst l.2) := by
  unfold ref13_Most
  obtain ⟨w, l⟩ := l
  dsimp only
  cases l with
  | nil => rfl
  | cons x l =>
    show ref13_Most_B1 (ref13_Most_L1 l 1) x 0 0 = _
    unfold ref13_Most_B1
    rw [if_pos (.inl rfl), rmost_L l 1 _ (by omega)]; rfl
theorem fold_b {P : Int → Prop} (hm : ∀ a b, P a → P b → P (max a b)) : ∀ (l : List (Int × Int × Int)) (m : Int), P m → (∀ x ∈ l, P x.2.1) → P (l.foldl (fun m y => max m y.2.1) m)
  | [], m, h, _ => h
  | x :: l, m, h, hl => fold_b hm l _ (hm _ _ h (hl x List.mem_cons_self)) (fun y hy => hl y (List.mem_cons_of_mem _ hy))
theorem fold_le : ∀ (l : List (Int × Int × Int)) (m : Int), m ≤ l.foldl (fun m y => max m y.2.1) m
  | [], m => Int.le_refl _
  | x :: l, m => Int.le_trans (Int.le_max_left _ _) (fold_le l _)
theorem fold_mem : ∀ (l : List (Int × Int × Int)) (m : Int), ∀ x ∈ l, x.2.1 ≤ l.foldl (fun m y => max m y.2.1) m
  | y :: l, m, x, h => by
    rcases List.mem_cons.1 h with rfl | h
    · exact Int.le_trans (Int.le_max_right _ _) (fold_le l _)
    · exact fold_mem l _ x h
theorem mst_mem {l : List (Int × Int × Int)} {x : Int × Int × Int} (h : x ∈ l) : x.2.1 ≤ mst l := by
  cases l with
  | nil => cases h
  | cons y l =>
    rcases List.mem_cons.1 h with rfl | h
    · exact fold_le l _
    · exact fold_mem l _ x h
theorem mst_b {l : List (Int × Int × Int)} (h : ∀ x ∈ l, 1 ≤ x.2.1 ∧ x.2.1 ≤ 1024) : 0 ≤ mst l ∧ mst l ≤ 1024 := by
  cases l with
  | nil => simp [mst]
  | cons y l => exact fold_b (P := fun m => 0 ≤ m ∧ m ≤ 1024) (fun a b ha hb => by omega) l _ (by have := h y List.mem_cons_self; omega) (fun x hx => by have := h x (List.mem_cons_of_mem _ hx); omega)
theorem chN_mem : ∀ (l : List (Int × Int × Int)) (a n : Int), chN l a n = true → ∀ x ∈ l, 1 ≤ x.2.1 ∧ x.2.1 ≤ 1024
  | y :: l, a, n, h, x, hx => by
    simp only [chN, Bool.and_eq_true, decide_eq_true_eq] at h
    rcases List.mem_cons.1 hx with rfl | hx
    · omega
    · exact chN_mem l _ _ h.2 x hx

/-- Which rows are asked for. -/
def askI (l : Lay) (n i : Int) : List Int × Int :=
  if chkI l n ≠ 0 then ([], 2) else if i < 0 ∨ (l.2.length : Int) ≤ i then ([], 6)
  else ((List.range (mst l.2).toNat).map fun k : Nat => (l.2.getD i.toNat (0, 0, 0)).1 + min (k : Int) ((l.2.getD i.toNat (0, 0, 0)).2.1 - 1), 0)
theorem asked_L {a b : Int} {M : Nat} (hM : M ≤ 1024) (ha : 0 ≤ a ∧ a ≤ 1000000) (hb : 1 ≤ b ∧ b ≤ 1024) : ∀ (m k f : Nat) (acc : List Int), k + m = M → m < f → acc.length + m ≤ 2000 →
    layout_Asked_L1 (M : Int) a b f acc (k : Int) = some (acc ++ (List.range m).map (fun t => a + min ((k + t : Nat) : Int) (b - 1)), 0)
  | _, _, 0, _, _, h, _ => by omega
  | 0, k, f + 1, acc, h, hf, _ => by
    show layout_Asked_B1 (M : Int) a b (layout_Asked_L1 (M : Int) a b f) acc _ = _
    unfold layout_Asked_B1
    rw [if_neg (by omega)]; simp
  | m + 1, k, f + 1, acc, h, hf, hl => by
    show layout_Asked_B1 (M : Int) a b (layout_Asked_L1 (M : Int) a b f) acc _ = _
    unfold layout_Asked_B1
    rw [if_pos (by omega), w64_id (x := b - 1) (by omega) (by omega), w64_id (x := a + _) (by omega) (by omega), lapp_ok (by simp; omega)]
    simp only [Option.bind_some]
    rw [w64_id (by omega) (by omega), show (k : Int) + 1 = ((k + 1 : Nat) : Int) by omega, asked_L hM ha hb m (k + 1) f _ (by omega) (by omega) (by simp; omega), range_shift (fun t => a + min ((t : Nat) : Int) (b - 1))]
    simp
theorem rasked_L {a b z : Int} {pl : List (Int × Int × Int)} {M : Nat} (hp : mst pl = (M : Int)) (hM : M ≤ 1024) (ha : 0 ≤ a ∧ a ≤ 1000000) (hb : 1 ≤ b ∧ b ≤ 1024) : ∀ (m k f : Nat) (acc : List Int), k + m = M → m < f → acc.length + m ≤ 2000 →
    ref13_Asked_L1 a b z pl f acc (k : Int) = some (acc ++ (List.range m).map (fun t => a + min ((k + t : Nat) : Int) (b - 1)), 0)
  | _, _, 0, _, _, h, _ => by omega
  | 0, k, f + 1, acc, h, hf, _ => by
    show ref13_Asked_B1 a b z pl (ref13_Asked_L1 a b z pl f) acc _ = _
    unfold ref13_Asked_B1
    rw [rmost_eq]
    simp only [Option.bind_some]
    rw [hp, if_neg (by omega)]; simp
  | m + 1, k, f + 1, acc, h, hf, hl => by
    show ref13_Asked_B1 a b z pl (ref13_Asked_L1 a b z pl f) acc _ = _
    unfold ref13_Asked_B1
    rw [rmost_eq]
    simp only [Option.bind_some]
    rw [hp, if_pos (by omega), w64_id (x := b - 1) (by omega) (by omega), w64_id (x := a + _) (by omega) (by omega), lapp_ok (by simp; omega)]
    simp only [Option.bind_some]
    rw [w64_id (by omega) (by omega), show (k : Int) + 1 = ((k + 1 : Nat) : Int) by omega, rasked_L hp hM ha hb m (k + 1) f _ (by omega) (by omega) (by simp; omega), range_shift (fun t => a + min ((t : Nat) : Int) (b - 1))]
    simp
theorem asked_eq (l : Lay) {n : Int} (hn : -9223372036854775808 ≤ n ∧ n ≤ 9223372036854775807) (i : Int) : layout_Asked l n i = some (askI l n i) ∧ ref13_Asked l n i = some (askI l n i) := by
  unfold layout_Asked ref13_Asked askI
  rw [check_eq l hn, rcheck_eq]
  simp only [Option.bind_some]
  by_cases h1 : chkI l n ≠ 0
  · rw [if_pos h1, if_pos h1, if_pos h1, chkI_no h1]; exact ⟨rfl, rfl⟩
  · rw [if_neg h1, if_neg h1, if_neg h1]
    by_cases h2 : i < 0 ∨ (l.2.length : Int) ≤ i
    · rw [if_pos h2, if_pos h2, if_pos h2]; exact ⟨rfl, rfl⟩
    · rw [if_neg h2, if_neg h2, if_neg h2]
      have hg : l.2[i.toNat]? = some (l.2.getD i.toNat (0, 0, 0)) := by
        rw [List.getD_eq_getElem?_getD, List.getElem?_eq_getElem (by omega)]; rfl
      have hc := chkI_ok (Decidable.not_not.1 h1)
      have hb := chN_b _ _ _ hc.2
      have hx := chN_get l.2 0 _ _ _ hc.2 hg
      have hm := mst_b (chN_mem _ _ _ hc.2)
      rw [lidx_of (by omega) hg]
      simp only [Option.bind_some]
      rw [most_eq l (by omega)]
      simp only [Option.bind_some]
      have e := Int.toNat_of_nonneg hm.1
      have k1 := asked_L (a := (l.2.getD i.toNat (0, 0, 0)).1) (b := (l.2.getD i.toNat (0, 0, 0)).2.1) (M := (mst l.2).toNat) (by omega) (by omega) (by omega) (mst l.2).toNat 0 big [] (by omega) (by simp only [big]; omega) (by simp; omega)
      have k2 := rasked_L (a := (l.2.getD i.toNat (0, 0, 0)).1) (b := (l.2.getD i.toNat (0, 0, 0)).2.1) (z := l.1) (pl := l.2) (M := (mst l.2).toNat) e.symm (by omega) (by omega) (by omega) (mst l.2).toNat 0 big [] (by omega) (by simp only [big]; omega) (by simp; omega)
      rw [e, show ((0 : Nat) : Int) = (0 : Int) from rfl] at k1
      rw [show ((0 : Nat) : Int) = (0 : Int) from rfl] at k2
      rw [k1, k2]
      simp
end Go.Proofs.Ythgmcgldmahgeaa
