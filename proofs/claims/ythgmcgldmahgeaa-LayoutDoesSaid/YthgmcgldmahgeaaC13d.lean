/- Chapter 13, plain: what rows mean. -/
import Derived.Test.YthgmcgldmahgeaaC13c
namespace Go.Proofs.Ythgmcgldmahgeaa

/-- The number of some digits. -/
def val (p : Int) : List Int → Int
  | [] => 0
  | x :: l => x + p * val p l
def elm (p : Int) (l : List Int) : Prop := ∀ x ∈ l, 0 ≤ x ∧ x < p
instance (p : Int) (l : List Int) : Decidable (elm p l) := by unfold elm; infer_instance

theorem val_b {p : Int} (hp : 2 ≤ p) : ∀ l : List Int, elm p l → 0 ≤ val p l ∧ val p l < p ^ l.length
  | [], _ => by simp [val]
  | x :: l, h => by
    obtain ⟨a, b⟩ := val_b hp l (fun y hy => h y (List.mem_cons_of_mem _ hy))
    obtain ⟨c, d⟩ := h x List.mem_cons_self
    simp only [val, List.length_cons]
    have h1 : 0 ≤ p * val p l := Int.mul_nonneg (by omega) a
    have h2 : p * val p l ≤ p * (p ^ l.length - 1) := Int.mul_le_mul_of_nonneg_left (by omega) (by omega)
    rw [Int.mul_sub, Int.mul_one] at h2
    rw [Int.pow_succ, Int.mul_comm (p ^ l.length) p]
    omega
theorem pow_b {p : Int} (hp : vF p = true) {k : Nat} (hk : k ≤ dg p.toNat) : 0 ≤ p ^ k ∧ p ^ k ≤ 256 * 65521 := by
  have h2 := vF_b hp
  obtain ⟨h3, h4, h5, h6⟩ := dg_spec (p := p.toNat) (by omega)
  have e1 : p ^ k = ((p.toNat ^ k : Nat) : Int) := by
    rw [Int.natCast_pow, Int.toNat_of_nonneg (by omega)]
  have e2 : p.toNat ^ k ≤ p.toNat ^ dg p.toNat := Nat.pow_le_pow_right (by omega) hk
  have e3 : p.toNat ^ dg p.toNat = p.toNat ^ (dg p.toNat - 1) * p.toNat := by
    rw [← Nat.pow_succ]; congr 1; omega
  have e4 : p.toNat ^ (dg p.toNat - 1) * p.toNat ≤ 256 * 65521 := Nat.mul_le_mul (by omega) (by omega)
  omega
theorem val_sm {p : Int} (hp : vF p = true) {l : List Int} (hl : elm p l) (hk : l.length ≤ dg p.toNat) : 0 ≤ val p l ∧ val p l ≤ 256 * 65521 := by
  have := val_b (by have := vF_b hp; omega) l hl
  have := pow_b hp hk
  omega

theorem backward_L {l : List Int} (hl : l.length ≤ 1000000) : ∀ (k f : Nat), k ≤ l.length → k < f → slices_Backward_Lintint_f1_L1 l f ((k : Int) - 1) = some (((l.take k).zipIdx.map fun z => ((z.2 : Int), z.1)).reverse)
  | _, 0, _, h => by omega
  | 0, f + 1, h, hf => by
    show slices_Backward_Lintint_f1_B1 l (slices_Backward_Lintint_f1_L1 l f) _ = _
    unfold slices_Backward_Lintint_f1_B1
    rw [if_neg (by omega)]; simp
  | k + 1, f + 1, h, hf => by
    show slices_Backward_Lintint_f1_B1 l (slices_Backward_Lintint_f1_L1 l f) _ = _
    unfold slices_Backward_Lintint_f1_B1
    have e0 : ((k + 1 : Nat) : Int) - 1 = (k : Int) := by omega
    rw [if_pos (by omega), e0, lidx_nat 0 (by omega)]
    simp only [Option.bind_some]
    rw [w64_id (by omega) (by omega), backward_L hl k f (by omega) (by omega)]
    have e1 : l.getD k 0 = l[k] := by rw [List.getD_eq_getElem?_getD, List.getElem?_eq_getElem (by omega)]; rfl
    rw [List.take_add_one, List.getElem?_eq_getElem (by omega), e1]
    simp only [yc, Option.map_some, Option.toList_some, List.zipIdx_append, List.map_append, List.reverse_append]
    congr 1
    simp [List.zipIdx]
    omega
theorem backward_eq {l : List Int} (hl : l.length ≤ 1000000) : slices_Backward_Lintint l = some ((l.zipIdx.map fun z => ((z.2 : Int), z.1)).reverse) := by
  unfold slices_Backward_Lintint slices_Backward_Lintint_f1
  rw [w64_id (by omega) (by omega)]
  have := backward_L hl l.length big (Nat.le_refl _) (by simp only [big]; omega)
  rw [List.take_length] at this
  rw [this]; rfl

theorem dec_L3 {p : Int} (hp : vF p = true) (kx : Int → Option (ByteArray × Int)) : ∀ (l : List (Int × Int)) (t : List Int), elm p t → elm p (l.map (·.2)) → t.length + l.length ≤ dg p.toNat →
    layout_Decode_L3 kx p l (val p t) = kx (val p ((l.map (·.2)).reverse ++ t))
  | [], t, _, _, _ => by simp [layout_Decode_L3]
  | x :: l, t, h1, h2, h3 => by
    show layout_Decode_B3 kx p (layout_Decode_L3 kx p l) x (val p t) = _
    unfold layout_Decode_B3
    simp only [List.length_cons] at h3
    have hx := h2 x.2 (by simp)
    have ht : elm p (x.2 :: t) := fun y hy => by rcases List.mem_cons.1 hy with rfl | hy; exact hx; exact h1 y hy
    have hb := val_sm hp ht (by simp; omega)
    simp only [val] at hb
    have hbt := val_sm hp h1 (by omega)
    have h2' := vF_b hp
    have hm : val p t * p ≤ 256 * 65521 := by rw [Int.mul_comm]; omega
    have hm0 : 0 ≤ val p t * p := Int.mul_nonneg hbt.1 (by omega)
    rw [w64_id (x := val p t * p) (by omega) (by omega), w64_id (by omega) (by omega)]
    have e : val p t * p + x.2 = val p (x.2 :: t) := by simp only [val]; rw [Int.mul_comm]; omega
    rw [e, dec_L3 hp kx l (x.2 :: t) ht (fun y hy => h2 y (by simp only [List.map_cons]; exact List.mem_cons_of_mem _ hy)) (by simp; omega)]
    simp

/-- An error, or what was meant. -/
abbrev noD : ByteArray × Int := (ByteArray.empty, 2)

theorem dec_L4 {p : Int} (hp : vF p = true) (kx : List Int → Option (ByteArray × Int)) : ∀ (l : List (List Int)) (acc : List Int), (∀ c ∈ l, elm p c ∧ c.length ≤ dg p.toNat) → acc.length + l.length ≤ 100000 →
    layout_Decode_L4 kx p l acc = if (∀ c ∈ l, val p c ≤ 255) then kx (acc ++ l.map (val p)) else some noD
  | [], acc, _, _ => by simp [layout_Decode_L4]
  | c :: l, acc, h, hl => by
    show layout_Decode_B4 kx p (layout_Decode_L4 kx p l) c acc = _
    unfold layout_Decode_B4
    simp only [List.length_cons] at hl
    obtain ⟨hc, hcl⟩ := h c List.mem_cons_self
    have hd := (dg_spec (p := p.toNat) (by have := vF_b hp; omega)).2.1
    rw [backward_eq (by omega)]
    simp only [Option.bind_some]
    have em : ((c.zipIdx.map fun z => ((z.2 : Int), z.1)).reverse.map (·.2)) = c.reverse := by
      rw [List.map_reverse, List.map_map]
      congr 1
      have : ((fun z : Int × Int => z.2) ∘ fun z : Int × Nat => ((z.2 : Int), z.1)) = fun z : Int × Nat => z.1 := rfl
      rw [this, List.zipIdx_map_fst]
    have := dec_L3 hp (layout_Decode_J2 (layout_Decode_L4 kx p l) acc) ((c.zipIdx.map fun z => ((z.2 : Int), z.1)).reverse) [] (fun x hx => by cases hx) (by rw [em]; exact fun x hx => hc x (by simpa using hx)) (by simp; omega)
    rw [em, List.reverse_reverse, List.append_nil] at this
    rw [show val p [] = 0 from rfl] at this
    rw [this]
    unfold layout_Decode_J2
    have hv := val_sm hp hc hcl
    by_cases h255 : 255 < val p c
    · rw [if_pos h255, if_neg (fun hh => by have := hh c List.mem_cons_self; omega)]
    · rw [if_neg h255, lapp_ok (by simp; omega)]
      simp only [Option.bind_some]
      rw [wu8_id (by omega) (by omega), dec_L4 hp kx l _ (fun x hx => h x (List.mem_cons_of_mem _ hx)) (by simp; omega)]
      by_cases ha : ∀ c ∈ l, val p c ≤ 255
      · rw [if_pos ha, if_pos (fun x hx => by rcases List.mem_cons.1 hx with rfl | hx; omega; exact ha x hx)]; simp
      · rw [if_neg ha, if_neg (fun hh => ha fun x hx => hh x (List.mem_cons_of_mem _ hx))]

theorem ixf_L (f : Int → Option Bool) (g : Int → Bool) (hf : ∀ x, f x = some (g x)) : ∀ (l : List Int) (i : Nat), ∃ n : Int, slices_IndexFunc_Lintint_L1 f l i = some n ∧ (0 ≤ n ↔ l.any g = true)
  | [], i => ⟨-1, rfl, by simp⟩
  | x :: l, i => by
    obtain ⟨n, h1, h2⟩ := ixf_L f g hf l (i + 1)
    show ∃ n, slices_IndexFunc_Lintint_B1 f (slices_IndexFunc_Lintint_L1 f l (i + 1)) x i = _ ∧ _
    unfold slices_IndexFunc_Lintint_B1
    rw [hf, h1]
    simp only [Option.bind_some]
    cases hg : g x with
    | true => exact ⟨i, by rw [if_pos rfl], by simp [hg]⟩
    | false => exact ⟨n, by rw [if_neg (by simp)], by simp [hg, h2]⟩
theorem cont_eq (f : Int → Option Bool) (g : Int → Bool) (hf : ∀ x, f x = some (g x)) (l : List Int) : slices_ContainsFunc_Lintint l f = some (l.any g) := by
  unfold slices_ContainsFunc_Lintint slices_IndexFunc_Lintint
  obtain ⟨n, h1, h2⟩ := ixf_L f g hf l 0
  rw [h1]
  simp only [Option.bind_some]
  congr 1
  rw [Bool.eq_iff_iff, decide_eq_true_eq]; exact h2
theorem all_eq (p : Int) (l : List Int) : residue_Field_All p l = some (decide (elm p l)) := by
  unfold residue_Field_All
  rw [cont_eq (fun y0 => residue_Field_All_f1 y0 p) (fun x => !decide (0 ≤ x ∧ x < p)) (fun x => rfl)]
  simp only [Option.bind_some]
  congr 1
  rw [Bool.eq_iff_iff, decide_eq_true_eq]
  unfold elm
  simp
theorem in_L (p : Int) : ∀ l : List Int, ref03_In_L1 p l = some (decide (elm p l))
  | [] => by unfold elm; simp [ref03_In_L1]
  | x :: l => by
    show ref03_In_B1 p (ref03_In_L1 p l) x = _
    unfold ref03_In_B1
    rw [in_L p l]
    by_cases h : x < 0 ∨ p ≤ x
    · rw [if_pos h]; congr 1; symm; exact decide_eq_false (fun hh => by have := hh x List.mem_cons_self; omega)
    · rw [if_neg h]; congr 1; exact decide_eq_decide.2 ⟨fun hh y hy => by rcases List.mem_cons.1 hy with rfl | hy; omega; exact hh y hy, fun hh y hy => hh y (List.mem_cons_of_mem _ hy)⟩
theorem in_eq {p : Int} (hp : vF p = true) (l : List Int) : ref03_In p l = some (decide (elm p l)) := by
  unfold ref03_In
  rw [rof_eq, if_pos hp]
  simp only [Option.bind_some]
  rw [if_neg (show ¬ ((0 : Int) ≠ 0) by decide)]
  exact in_L p l

/-- Rows of a width, of elements. -/
def rOk (p : Int) (w : Nat) (rows : List (List Int)) : Prop := ∀ r ∈ rows, r.length = w ∧ elm p r
instance (p : Int) (w : Nat) (rows : List (List Int)) : Decidable (rOk p w rows) := by unfold rOk; infer_instance
theorem rOk_len {p : Int} {w : Nat} : ∀ {rows : List (List Int)}, rOk p w rows → rows.flatten.length = rows.length * w
  | [], _ => by simp
  | r :: rows, h => by
    have := rOk_len (rows := rows) (fun x hx => h x (List.mem_cons_of_mem _ hx))
    simp only [List.flatten_cons, List.length_append, List.length_cons, this, (h r List.mem_cons_self).1, Nat.add_mul]; omega
theorem rOk_elm {p : Int} {w : Nat} {rows : List (List Int)} (h : rOk p w rows) : elm p rows.flatten := fun x hx => by
  obtain ⟨r, hr, hxr⟩ := List.mem_flatten.1 hx
  exact (h r hr).2 x hxr

theorem dec_L6 {p : Int} {w : Nat} (z : Int) (kx : List Int → Int → Int → ByteArray → Int → Option (ByteArray × Int)) : ∀ (rows : List (List Int)) (acc : List Int), acc.length + rows.length * w ≤ 1000000 →
    layout_Decode_L6 kx (w : Int) p z rows acc = if rOk p w rows then kx (acc ++ rows.flatten) p 0 ByteArray.empty z else some noD
  | [], acc, _ => by rw [if_pos (show rOk p w [] from fun _ h => by cases h)]; simp [layout_Decode_L6]
  | r :: rows, acc, h => by
    show layout_Decode_B6 kx (w : Int) p z (layout_Decode_L6 kx (w : Int) p z rows) r acc = _
    unfold layout_Decode_B6
    simp only [List.length_cons, Nat.add_mul, Nat.one_mul] at h
    by_cases hr : (r.length : Int) ≠ (w : Int)
    · rw [if_pos hr]
      simp only [Option.bind_some, if_true]
      rw [if_neg (show ¬ rOk p w (r :: rows) from fun hh => by have := (hh r List.mem_cons_self).1; omega)]
    · rw [if_neg hr, all_eq]
      simp only [Option.bind_some]
      by_cases he : elm p r
      · rw [if_neg (nb_t he), lapp_ok (by omega)]
        simp only [Option.bind_some]
        rw [dec_L6 z kx rows _ (by simp; omega)]
        by_cases hh : rOk p w rows
        · rw [if_pos hh, if_pos (show rOk p w (r :: rows) from fun x hx => by rcases List.mem_cons.1 hx with rfl | hx; exact ⟨by omega, he⟩; exact hh x hx)]; simp
        · rw [if_neg hh, if_neg (show ¬ rOk p w (r :: rows) from fun h2 => hh fun x hx => h2 x (List.mem_cons_of_mem _ hx))]
      · rw [if_pos (nb_f he), if_neg (show ¬ rOk p w (r :: rows) from fun hh => he (hh r List.mem_cons_self).2)]

/-- The bytes of elements, and whether they are some. -/
def vals (p : Int) (n : Nat) (l : List Int) : List Int := (chk (dg p.toNat) n l).map (val p)
def good (p : Int) (n : Nat) (l : List Int) : Prop := (∀ v ∈ vals p n l, v ≤ 255) ∧ ∀ x ∈ l.drop (n * dg p.toNat), x = 0
instance (p : Int) (n : Nat) (l : List Int) : Decidable (good p n l) := by unfold good; infer_instance
/-- What rows mean, or the error. -/
def decI (p w n : Int) (rows : List (List Int)) : ByteArray × Int :=
  if vF p = false then (ByteArray.empty, 9) else if ¬ ((1 ≤ w ∧ w ≤ 64) ∧ 0 ≤ n ∧ n ≤ 1024) then (ByteArray.empty, 1) else if rows.length ≠ nd p.toNat w.toNat n.toNat then noD
  else if rOk p w.toNat rows ∧ good p n.toNat rows.flatten then (ofB (vals p n.toNat rows.flatten), 0) else noD
theorem dec_f {p w n : Int} {rows : List (List Int)} (h : vF p = false) : decI p w n rows = (ByteArray.empty, 9) := by unfold decI; rw [if_pos h]
theorem dec_w {p w n : Int} {rows : List (List Int)} (h : vF p = true) (h2 : ¬ ((1 ≤ w ∧ w ≤ 64) ∧ 0 ≤ n ∧ n ≤ 1024)) : decI p w n rows = (ByteArray.empty, 1) := by unfold decI; rw [if_neg (by simp [h]), if_pos h2]
theorem dec_n {p w n : Int} {rows : List (List Int)} (h : vF p = true) (h2 : (1 ≤ w ∧ w ≤ 64) ∧ 0 ≤ n ∧ n ≤ 1024) (h3 : rows.length ≠ nd p.toNat w.toNat n.toNat) : decI p w n rows = noD := by
  unfold decI; rw [if_neg (by simp [h]), if_neg (not_not_intro h2), if_pos h3]
theorem dec_o {p w n : Int} {rows : List (List Int)} (h : vF p = true) (h2 : (1 ≤ w ∧ w ≤ 64) ∧ 0 ≤ n ∧ n ≤ 1024) (h3 : rows.length = nd p.toNat w.toNat n.toNat) :
    decI p w n rows = if rOk p w.toNat rows ∧ good p n.toNat rows.flatten then (ofB (vals p n.toNat rows.flatten), 0) else noD := by
  unfold decI; rw [if_neg (by simp [h]), if_neg (not_not_intro h2), if_neg (not_not_intro h3)]

theorem chk_take {w n : Nat} (l : List Int) : chk w n (l.take (n * w)) = chk w n l := by
  unfold chk
  apply List.map_congr_left
  intro i hi
  have hi := List.mem_range.1 hi
  have h1 : (i + 1) * w ≤ n * w := Nat.mul_le_mul_right w (by omega)
  rw [Nat.add_mul, Nat.one_mul] at h1
  rw [List.drop_take, List.take_take, Nat.min_eq_left (by omega)]
theorem chk_mem {w n : Nat} {l c : List Int} (hc : c ∈ chk w n l) : c.length ≤ w ∧ ∀ x ∈ c, x ∈ l := by
  obtain ⟨i, _, rfl⟩ := List.mem_map.1 hc
  exact ⟨by simp only [List.length_take]; omega, fun x hx => List.mem_of_mem_drop (List.mem_of_mem_take hx)⟩

theorem decode_eq (p w n : Int) (rows : List (List Int)) : layout_Decode p w n rows = some (decI p w n rows) := by
  unfold layout_Decode
  rw [of_eq]
  simp only [Option.bind_some]
  by_cases hp : vF p = true
  · rw [if_pos hp]
    dsimp only
    rw [if_neg (by simp)]
    unfold layout_wide
    simp only [Option.bind_some]
    by_cases h2 : (1 ≤ w ∧ w ≤ 64) ∧ 0 ≤ n ∧ n ≤ 1024
    · rw [if_neg (show ¬ (((!decide (1 ≤ w ∧ w ≤ 64)) = true ∨ n < 0) ∨ 1024 < n) from fun h => by rcases h with (h | h) | h; exact nb_t h2.1 h; omega; omega)]
      have hd := dg_spec (p := p.toNat) (by have := vF_b hp; omega)
      have hneed := needed_eq hp (w := w.toNat) (n := n.toNat) (by omega) (by omega)
      rw [Int.toNat_of_nonneg (by omega), Int.toNat_of_nonneg (by omega)] at hneed
      rw [hneed]
      simp only [Option.bind_some]
      by_cases h3 : rows.length = nd p.toNat w.toNat n.toNat
      · rw [if_neg (by omega), dec_o hp h2 h3]
        have hm := nd_le (p := p.toNat) (w := w.toNat) (n := n.toNat) (by omega) (by omega) hd.2.1
        have hm2 := nd_mul (p := p.toNat) (w := w.toNat) (n := n.toNat) (by omega)
        have h6 := dec_L6 (p := p) (w := w.toNat) p (layout_Decode_J5 n) rows [] (by rw [h3]; simp; omega)
        rw [Int.toNat_of_nonneg (by omega)] at h6
        rw [h6]
        by_cases hr : rOk p w.toNat rows
        · rw [if_pos hr, List.nil_append]
          unfold layout_Decode_J5
          have hfl := rOk_len hr
          rw [h3] at hfl
          rw [digits_eq hp]
          simp only [Option.bind_some]
          have hnd : n.toNat * dg p.toNat ≤ 1024 * 8 := Nat.mul_le_mul (by omega) hd.2.1
          have e1 : n * ((dg p.toNat : Nat) : Int) = ((n.toNat * dg p.toNat : Nat) : Int) := by rw [Int.natCast_mul, Int.toNat_of_nonneg (by omega)]
          rw [e1, w64_id (by omega) (by omega), lsub_ok (by omega) (by omega) (by omega)]
          simp only [Option.bind_some]
          have e2 : ((rows.flatten.drop (0 : Int).toNat).take (((n.toNat * dg p.toNat : Nat) : Int) - 0).toNat) = rows.flatten.take (n.toNat * dg p.toNat) := by
            rw [show (0 : Int).toNat = 0 from rfl, List.drop_zero, Int.sub_zero, Int.toNat_natCast]
          rw [e2, chunk_eq (n := n.toNat) hd.1 (by omega) (by rw [List.length_take]; omega) (by rw [List.length_take]; omega), chk_take]
          simp only [Option.bind_some]
          rw [dec_L4 hp _ _ [] (fun c hc => ⟨fun x hx => rOk_elm hr x ((chk_mem hc).2 x hx), (chk_mem hc).1⟩) (by rw [chk_len]; simp; omega)]
          have hv : (∀ c ∈ chk (dg p.toNat) n.toNat rows.flatten, val p c ≤ 255) ↔ ∀ v ∈ vals p n.toNat rows.flatten, v ≤ 255 := by unfold vals; simp
          by_cases hc : ∀ c ∈ chk (dg p.toNat) n.toNat rows.flatten, val p c ≤ 255
          · rw [if_pos hc]
            unfold layout_Decode_J1
            rw [e1, w64_id (by omega) (by omega), lsub_ok (by omega) (by omega) (by omega)]
            simp only [Option.bind_some]
            rw [cont_eq layout_Decode_f1 (fun x => decide (x ≠ 0)) (fun x => rfl)]
            simp only [Option.bind_some]
            have e3 : ((rows.flatten.drop ((n.toNat * dg p.toNat : Nat) : Int).toNat).take ((rows.flatten.length : Int) - ((n.toNat * dg p.toNat : Nat) : Int)).toNat) = rows.flatten.drop (n.toNat * dg p.toNat) := by
              rw [Int.toNat_natCast]; apply List.take_of_length_le; rw [List.length_drop]; omega
            rw [e3]
            by_cases hz : ∀ x ∈ rows.flatten.drop (n.toNat * dg p.toNat), x = 0
            · rw [if_neg (by simp only [List.any_eq_true, decide_eq_true_eq]; rintro ⟨x, hx, hn⟩; exact hn (hz x hx)), if_pos ⟨hr, hv.1 hc, hz⟩]; simp [vals]
            · rw [if_pos (by simp only [List.any_eq_true, decide_eq_true_eq]; simpa using hz), if_neg (fun h => hz h.2.2)]
          · rw [if_neg hc, if_neg (fun h => hc (hv.2 h.2.1))]
        · rw [if_neg hr, if_neg (fun h => hr h.1)]
      · rw [if_pos (by omega), dec_n hp h2 h3]
    · rw [dec_w hp h2]
      by_cases hw : 1 ≤ w ∧ w ≤ 64
      · rw [if_pos (show ((!decide (1 ≤ w ∧ w ≤ 64)) = true ∨ n < 0) ∨ 1024 < n by rcases Int.lt_or_le n 0 with h | h; exact .inl (.inr h); exact .inr (by omega))]
      · rw [if_pos (.inl (.inl (nb_f hw)))]
  · have hp : vF p = false := by simpa using hp
    rw [dec_f hp, hp]; rfl
end Go.Proofs.Ythgmcgldmahgeaa
