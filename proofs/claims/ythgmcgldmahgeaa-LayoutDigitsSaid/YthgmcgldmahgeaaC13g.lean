/- Chapter 13, plain: the laws LayoutDoes, LayoutReads. -/
import Derived.Test.YthgmcgldmahgeaaC13f
namespace Go.Proofs.Ythgmcgldmahgeaa

theorem lidx_at {α : Type} {l q : List α} {x : α} {i : Nat} (h : l.drop i = x :: q) : lidx l (i : Int) = some x := drop_idx h
theorem same_L (l : List Int) : ∀ (q : List Int) (i : Nat), l.drop i = q → ref04_Same_L1 l q i = some true
  | [], _, _ => rfl
  | x :: q, i, h => by
    show ref04_Same_B1 l (ref04_Same_L1 l q (i + 1)) x i = _
    unfold ref04_Same_B1
    rw [lidx_at h]
    simp only [Option.bind_some]
    rw [if_neg (by simp), same_L l q (i + 1) (drop_succ h)]
theorem same_refl (l : List Int) : ref04_Same l l = some true := by
  unfold ref04_Same
  rw [if_neg (by simp), same_L l l 0 rfl]
theorem sameRows_L (l : List (List Int)) : ∀ (q : List (List Int)) (i : Nat), l.drop i = q → ref04_SameRows_L1 l q i = some true
  | [], _, _ => rfl
  | x :: q, i, h => by
    show ref04_SameRows_B1 l (ref04_SameRows_L1 l q (i + 1)) x i = _
    unfold ref04_SameRows_B1
    rw [lidx_at h]
    simp only [Option.bind_some]
    rw [same_refl]
    simp only [Option.bind_some]
    rw [if_neg (by simp), sameRows_L l q (i + 1) (drop_succ h)]
theorem sameRows_refl (l : List (List Int)) : ref04_SameRows l l = some true := by
  unfold ref04_SameRows
  rw [if_neg (by simp), sameRows_L l l 0 rfl]
theorem sameLay_L (l : List (Int × Int × Int)) : ∀ (q : List (Int × Int × Int)) (i : Nat), l.drop i = q → ref13_Same_L1 l q i = some true
  | [], _, _ => rfl
  | x :: q, i, h => by
    show ref13_Same_B1 l (ref13_Same_L1 l q (i + 1)) x i = _
    unfold ref13_Same_B1
    rw [lidx_at h]
    simp only [Option.bind_some]
    rw [if_neg (by simp), sameLay_L l q (i + 1) (drop_succ h)]
theorem sameLay_refl (l : Lay) : ref13_Same l l = some true := by
  unfold ref13_Same
  rw [if_neg (by simp), sameLay_L l.2 l.2 0 rfl]

-- LayoutDoes
theorem does_L1 (rc : Int → Int → Int → Int → Int → Option Bool) (w n p a b c e : Int) : ∀ l : List (List (List Int)), law13_LayoutDoes_L1 rc w n p a b c e l = rc p a b c e
  | [] => rfl
  | x :: l => by
    show law13_LayoutDoes_B1 rc w n p a b c e (law13_LayoutDoes_L1 rc w n p a b c e l) x = _
    unfold law13_LayoutDoes_B1
    rw [decode_eq, rdecode_eq]
    simp only [Option.bind_some]
    rw [if_neg (by simp), does_L1 rc w n p a b c e l]
theorem does_L2 (rc : Int → Int → Int → Int → Int → Option Bool) (x y z : List (List Int)) (hx : x.length ≤ 10000) (hz : z.length ≤ 10000) (w : Int) : ∀ (l : List Int) (p a b c e : Int), law13_LayoutDoes_L2 rc x y z w l p a b c e = rc p a b c e
  | [], _, _, _, _, _ => rfl
  | n :: l, p, a, b, c, e => by
    show law13_LayoutDoes_B2 rc x y z w (law13_LayoutDoes_L2 rc x y z w l) n p a b c e = _
    unfold law13_LayoutDoes_B2
    rw [lsub_ok (by omega) (by omega) (by omega)]
    simp only [Option.bind_some]
    rw [lsub_ok (by omega) (by omega) (by omega)]
    simp only [Option.bind_some]
    rw [does_L1, does_L2 rc x y z hx hz w l]
theorem does_L4 (kx : Int → Int → Int → Int → Int → Option Bool) (w p a b c e : Int) : ∀ l : List (List ByteArray), law13_LayoutDoes_L4 kx w p a b c e l = kx p a b c e
  | [] => rfl
  | x :: l => by
    show law13_LayoutDoes_B4 kx w p a b c e (law13_LayoutDoes_L4 kx w p a b c e l) x = _
    unfold law13_LayoutDoes_B4
    rw [encode_eq, rencode_eq]
    simp only [Option.bind_some]
    rw [if_neg (by simp), sameRows_refl]
    simp only [Option.bind_some]
    rw [if_neg (by simp), sameLay_refl]
    simp only [Option.bind_some]
    rw [if_neg (by simp), does_L4 kx w p a b c e l]
theorem does_L5 (rc : Int → Int → Int → Int → Option Bool) (x : List (List Int)) (n : Int) (r : List ByteArray) (y : List (List Int)) (r2 : List ByteArray) (z : List (List Int)) (hx : x.length ≤ 10000) (hz : z.length ≤ 10000) : ∀ (l : List Int) (p a b c e : Int), law13_LayoutDoes_L5 rc x n r y r2 z l p a b c e = rc a b c e
  | [], _, _, _, _, _ => rfl
  | w :: l, p, a, b, c, e => by
    show law13_LayoutDoes_B5 rc x n r y r2 z (law13_LayoutDoes_L5 rc x n r y r2 z l) w p a b c e = _
    unfold law13_LayoutDoes_B5
    rw [does_L4]
    unfold law13_LayoutDoes_J3
    rw [mod_ok (by omega) (by omega)]
    simp only [Option.bind_some]
    rw [does_L2 _ _ _ _ hx hz, does_L5 rc x n r y r2 z hx hz l]
theorem does_L6 (x : List (List Int)) (w n : Int) (r : List ByteArray) (y : List (List Int)) (r2 : List ByteArray) (z : List (List Int)) (hx : x.length ≤ 10000) (hz : z.length ≤ 10000) : ∀ (l : List Int) (a b c e : Int), law13_LayoutDoes_L6 x w n r y r2 z l a b c e = some true
  | [], _, _, _, _ => rfl
  | p :: l, a, b, c, e => by
    show law13_LayoutDoes_B6 x w n r y r2 z (law13_LayoutDoes_L6 x w n r y r2 z l) p a b c e = _
    unfold law13_LayoutDoes_B6
    rw [digitsI_eq, rdigitsI_eq]
    simp only [Option.bind_some]
    rw [if_neg (by simp), mod_ok (by omega) (by omega)]
    simp only [Option.bind_some]
    rw [does_L5 _ _ _ _ _ _ _ hx hz, does_L6 x w n r y r2 z hx hz l]
theorem does_L10 (kx : Int → Int → Option Bool) (p : Int) (h : ∀ n, kx n p = some true) : ∀ (l : List ByteArray) (n : Int), law13_LayoutDoes_L10 kx p l n = some true
  | [], n => h n
  | x :: l, n => by
    show law13_LayoutDoes_B10 kx p (law13_LayoutDoes_L10 kx p l) x n = _
    unfold law13_LayoutDoes_B10
    exact does_L10 kx p h l _
theorem small_t : ∀ (l : List (List Int)) (n : Int), ∃ b, law13_small_L1 l n = some b
  | [], n => ⟨_, rfl⟩
  | x :: l, n => by
    show ∃ b, law13_small_B1 (law13_small_L1 l) x n = some b
    unfold law13_small_B1
    exact small_t l _
theorem law_does (t : List Int) (p w n : Int) (r : List ByteArray) (rows : List (List Int)) : law13_LayoutDoes t p w n r rows = some true := by
  unfold law13_LayoutDoes
  rw [sane13]
  simp only [Option.bind_some]
  rw [if_neg (by simp)]
  refine does_L10 _ _ (fun m => ?_) r 0
  unfold law13_LayoutDoes_J9
  rw [few_eq]
  simp only [Option.bind_some]
  by_cases ht : (t.length : Int) ≤ 500
  · have hb : ∃ b, (if (((!decide ((t.length : Int) ≤ 500)) = true) ∨ (1500 < m)) then (some true) else (law13_small rows).bind fun u => some (!u)) = some b := by
      by_cases h : ((!decide ((t.length : Int) ≤ 500)) = true) ∨ (1500 < m)
      · exact ⟨_, if_pos h⟩
      · obtain ⟨b, hb⟩ := small_t rows 0
        refine ⟨!b, ?_⟩
        rw [if_neg h]
        unfold law13_small
        rw [hb]; rfl
    obtain ⟨b, hb⟩ := hb
    rw [hb]
    simp only [Option.bind_some]
    cases b with
    | true => rw [if_pos rfl]
    | false =>
      rw [if_neg (by simp)]
      rw [show make_New t = some (t, 0) from rfl]
      simp only [Option.bind_some]
      obtain ⟨q, rs, v, e, h1, hL, h2, h3, h4, h5⟩ := laid_ok (by omega) (new_dk (t := t))
      rw [h1]
      simp only [Option.bind_some]
      have hk : (rws q v rs).length ≤ 1024 := by rw [rows_len]; exact hL.k
      rw [lapp_ok (by simp only [List.length_nil]; omega)]
      simp only [Option.bind_some, List.nil_append]
      by_cases h0 : 0 < ((rws q v rs).length : Int)
      · rw [if_pos h0]
        obtain ⟨k, e1, g1, g2, g3, g4⟩ := next_ok (l := t) (by omega) h5 (n := ((rws q v rs).length : Int)) (by omega)
        rw [g1]
        simp only [Option.bind_some]
        rw [lidx_ok [] g2 (by omega)]
        simp only [Option.bind_some]
        have hrow : ((rws q v rs).getD k.toNat []).length = v := by
          rw [List.getD_eq_getElem?_getD, List.getElem?_eq_getElem (by omega)]
          exact (rws_ok hL _ (List.getElem_mem (by omega))).1
        have hw := hL.w1
        rw [lapp_ok (by rw [hrow]; simp; omega)]
        simp only [Option.bind_some, List.nil_append]
        obtain ⟨k2, e2, g5, g6, g7, g8⟩ := next_ok (l := t) (by omega) g4 (n := (((rws q v rs).getD k.toNat []).length : Int)) (by rw [hrow]; omega)
        rw [g5]
        simp only [Option.bind_some]
        rw [lidx_ok 0 g6 g7]
        simp only [Option.bind_some]
        obtain ⟨k3, e3, g9, g10, g11, g12⟩ := next_ok (l := t) (by omega) g8 (n := 3) (by omega)
        rw [g9]
        simp only [Option.bind_some]
        rw [lupd_ok g6 g7]
        simp only [Option.bind_some]
        unfold law13_LayoutDoes_J8
        rw [lidx_ok [] g2 (by omega)]
        simp only [Option.bind_some]
        rw [lupd_ok g2 (by omega)]
        simp only [Option.bind_some]
        unfold law13_LayoutDoes_J7
        exact does_L6 _ _ _ _ _ _ _ (by rw [List.length_set]; omega) (by omega) _ _ _ _ _
      · rw [if_neg h0]
        unfold law13_LayoutDoes_J7
        exact does_L6 _ _ _ _ _ _ _ (by omega) (by omega) _ _ _ _ _
  · rw [if_pos (.inl (nb_f ht))]
    simp only [Option.bind_some, if_true]

-- LayoutReads
theorem reads_L1 (rc : Int → Int → Int → Int → Int → Option Bool) (i w : Int) (pl : List (Int × Int × Int)) (a b c p e : Int) : ∀ l : List (List (List Int)), (∀ x ∈ l, x.length ≤ 9223372036854775807) → law13_LayoutReads_L1 rc i w pl a b c p e l = rc a b c p e
  | [], _ => rfl
  | x :: l, h => by
    show law13_LayoutReads_B1 rc i w pl a b c p e (law13_LayoutReads_L1 rc i w pl a b c p e l) x = _
    unfold law13_LayoutReads_B1
    rw [mod_ok (by omega) (by omega)]
    simp only [Option.bind_some]
    rw [record_eq p (w, pl) (h x List.mem_cons_self), rrecord_eq]
    simp only [Option.bind_some]
    rw [if_neg (by simp), reads_L1 rc i w pl a b c p e l (fun y hy => h y (List.mem_cons_of_mem _ hy))]
theorem reads_L3 (rc : Int → Int → Int → Int → Int → Int → Option Bool) {n : Int} (hn : -9223372036854775808 ≤ n ∧ n ≤ 9223372036854775807) (w : Int) (pl : List (Int × Int × Int)) (a b c d e : Int) : ∀ l : List Int, law13_LayoutReads_L3 rc n w pl a b c d e l = rc w a b c d e
  | [] => rfl
  | i :: l => by
    show law13_LayoutReads_B3 rc n w pl a b c d e (law13_LayoutReads_L3 rc n w pl a b c d e l) i = _
    unfold law13_LayoutReads_B3
    rw [(asked_eq (w, pl) hn i).1, (asked_eq (w, pl) hn i).2]
    simp only [Option.bind_some]
    rw [if_neg (by simp), same_refl]
    simp only [Option.bind_some]
    rw [if_neg (by simp), reads_L3 rc hn w pl a b c d e l]
theorem reads_L4 (kx : Int → Int → Int → Int → Int → Int → Option Bool) (i : Int) (pl : List (Int × Int × Int)) : ∀ (l : List Int) (w a b c d e : Int), (∀ n ∈ l, -9223372036854775808 ≤ n ∧ n ≤ 9223372036854775807) → law13_LayoutReads_L4 kx i pl l w a b c d e = kx w a b c d e
  | [], _, _, _, _, _, _, _ => rfl
  | n :: l, w, a, b, c, d, e, h => by
    show law13_LayoutReads_B4 kx i pl (law13_LayoutReads_L4 kx i pl l) n w a b c d e = _
    unfold law13_LayoutReads_B4
    have hn := h n List.mem_cons_self
    rw [check_eq (w, pl) hn, rcheck_eq]
    simp only [Option.bind_some]
    rw [if_neg (by simp), mod_ok (by omega) (by omega)]
    simp only [Option.bind_some]
    rw [reads_L3 _ hn, reads_L4 kx i pl l w a b c d e (fun y hy => h y (List.mem_cons_of_mem _ hy))]
theorem reads_L5 (x : List (List Int)) {n : Int} (i : Int) (y : List (List Int)) (hn : -9223372036854775808 ≤ n ∧ n ≤ 9223372036854775807) (hx : x.length ≤ 9223372036854775807) (hy : y.length ≤ 9223372036854775807) : ∀ (l : List Lay) (a b c d e : Int), (∀ q ∈ l, q.2.length ≤ 900000000) → law13_LayoutReads_L5 x n i y l a b c d e = some true
  | [], _, _, _, _, _, _ => rfl
  | q :: l, a, b, c, d, e, h => by
    show law13_LayoutReads_B5 x n i y (law13_LayoutReads_L5 x n i y l) q a b c d e = _
    unfold law13_LayoutReads_B5
    rw [most_eq q (h q List.mem_cons_self), rmost_eq]
    simp only [Option.bind_some]
    rw [if_neg (by simp), reads_L4 _ _ _ _ _ _ _ _ _ _ (fun m hm => by simp at hm; rcases hm with rfl | rfl | rfl; exact hn; omega; omega)]
    unfold law13_LayoutReads_J2
    rw [reads_L1 _ _ _ _ _ _ _ _ _ _ (fun z hz => by simp at hz; rcases hz with rfl | rfl; exact hx; exact hy), reads_L5 x i y hn hx hy l _ _ _ _ _ (fun z hz => h z (List.mem_cons_of_mem _ hz))]
theorem reads_J7 (x : List (List Int)) {n : Int} (i : Int) (y : List (List Int)) (hn : -9223372036854775808 ≤ n ∧ n ≤ 9223372036854775807) (hx : x.length ≤ 9223372036854775807) (hy : y.length ≤ 9223372036854775807) {t : List Int} (ht : t.length ≤ 1000) (w : Int) (pl : List (Int × Int × Int)) (q : Int) (e : List Int × Int) (he : Dk t e) (w2 : Int) (pl2 : List (Int × Int × Int)) (w3 : Int) (pl3 : List (Int × Int × Int)) (h1 : pl.length ≤ 1000) (h2 : pl2.length ≤ 1000) (h3 : pl3.length ≤ 1000) :
    law13_LayoutReads_J7 x n i y w pl q e.1 e.2 w2 pl2 w3 pl3 = some true := by
  have hJ : ∀ (b : List (Int × Int × Int)) (u : List Int) (v : Int), b.length ≤ 1000 → law13_LayoutReads_J6 x n i y w3 w pl q w2 pl2 b u v = some true := fun b u v hb => by
    unfold law13_LayoutReads_J6
    exact reads_L5 x i y hn hx hy _ _ _ _ _ _ (fun z hz => by simp at hz; rcases hz with rfl | rfl | rfl <;> dsimp only <;> omega)
  unfold law13_LayoutReads_J7
  by_cases h0 : 0 < (pl3.length : Int)
  · rw [if_pos h0]
    obtain ⟨k, e1, g1, g2, g3, g4⟩ := next_ok ht (show Dk t (e.1, e.2) from he) (n := (pl3.length : Int)) (by omega)
    rw [g1]
    simp only [Option.bind_some]
    obtain ⟨k2, e2, g5, g6, g7, g8⟩ := next_ok ht g4 (n := 3) (by omega)
    rw [g5]
    simp only [Option.bind_some]
    by_cases c1 : k2 = 0
    · rw [if_pos c1, lidx_ok (0, 0, 0) g2 g3]
      simp only [Option.bind_some]
      obtain ⟨k3, e3, g9, g10, g11, g12⟩ := next_ok ht g8 (n := 9) (by omega)
      rw [g9]
      simp only [Option.bind_some]
      rw [lupd_ok g2 g3]
      simp only [Option.bind_some]
      exact hJ _ _ _ (by rw [List.length_set]; exact h3)
    · rw [if_neg c1]
      by_cases c2 : k2 = 1
      · rw [if_pos c2, lidx_ok (0, 0, 0) g2 g3]
        simp only [Option.bind_some]
        obtain ⟨k3, e3, g9, g10, g11, g12⟩ := next_ok ht g8 (n := 3) (by omega)
        rw [g9]
        simp only [Option.bind_some]
        rw [lupd_ok g2 g3]
        simp only [Option.bind_some]
        exact hJ _ _ _ (by rw [List.length_set]; exact h3)
      · rw [if_neg c2, lidx_ok (0, 0, 0) g2 g3]
        simp only [Option.bind_some]
        rw [lupd_ok g2 g3]
        simp only [Option.bind_some]
        exact hJ _ _ _ (by rw [List.length_set]; exact h3)
  · rw [if_neg h0]
    exact hJ _ _ _ h3
theorem law_reads (t : List Int) (raw : Lay) {rows : List (List Int)} {n i : Int} (hr : rows.length ≤ 9223372036854775807) (hn : -9223372036854775808 ≤ n ∧ n ≤ 9223372036854775807) : law13_LayoutReads t raw rows n i = some true := by
  unfold law13_LayoutReads
  rw [sane13]
  simp only [Option.bind_some]
  rw [if_neg (by simp), few_eq]
  simp only [Option.bind_some]
  by_cases hc : ((!decide ((t.length : Int) ≤ 500)) = true) ∨ (300 < (raw.2.length : Int))
  · rw [if_pos hc]; simp only [Option.bind_some, if_true]
  · rw [if_neg hc]
    have ht : (t.length : Int) ≤ 500 := by
      by_cases h : (t.length : Int) ≤ 500
      · exact h
      · exact absurd (.inl (nb_f h)) hc
    have hp : ¬ (300 < (raw.2.length : Int)) := fun h => hc (.inr h)
    obtain ⟨b, hb⟩ := small_t rows 0
    unfold law13_small
    rw [hb]
    simp only [Option.bind_some]
    cases b with
    | false => rw [if_pos (by simp)]
    | true =>
      rw [if_neg (by simp)]
      rw [show make_New t = some (t, 0) from rfl]
      simp only [Option.bind_some]
      obtain ⟨q, rs, v, e, h1, hL, h2, h3, h4, h5⟩ := laid_ok (by omega) (new_dk (t := t))
      rw [h1]
      simp only [Option.bind_some]
      have hk : (rws q v rs).length ≤ 1024 := by rw [rows_len]; exact hL.k
      have hpl : (plc q v 0 rs).length ≤ 5 := by rw [plc_len]; exact h3
      rw [lapp_ok (by simp only [List.length_nil]; omega)]
      simp only [Option.bind_some, List.nil_append]
      exact reads_J7 rows i (rws q v rs) hn hr (by omega) (by omega) _ _ _ e h5 _ _ _ _ (by omega) (by omega) (by omega)
end Go.Proofs.Ythgmcgldmahgeaa
