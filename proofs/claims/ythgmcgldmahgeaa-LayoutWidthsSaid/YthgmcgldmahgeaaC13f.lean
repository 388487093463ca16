/- Chapter 13, plain: records come back; packs of records; the laws LayoutBack, LayoutAsked. -/
import Derived.Test.YthgmcgldmahgeaaC13e
namespace Go.Proofs.Ythgmcgldmahgeaa

theorem els_elm {p : Int} (hp : 2 ≤ p) : ∀ (k : Nat) (x : Int), elm p (digs p k x)
  | 0, _ => fun y hy => by cases hy
  | k + 1, x => fun y hy => by
    simp only [digs, List.mem_cons] at hy
    rcases hy with rfl | hy
    · exact ⟨Int.emod_nonneg _ (by omega), Int.emod_lt_of_pos _ (by omega)⟩
    · exact els_elm hp k _ y hy
theorem val_digs {p : Int} (hp : 2 ≤ p) : ∀ (k : Nat) (x : Int), 0 ≤ x → x < p ^ k → val p (digs p k x) = x
  | 0, x, h, h2 => by simp at h2; simp [digs, val]; omega
  | k + 1, x, h, h2 => by
    simp only [digs, val]
    have h3 : x / p < p ^ k := Int.ediv_lt_of_lt_mul (by omega) (by rw [← Int.pow_succ]; exact h2)
    rw [val_digs hp k (x / p) (Int.ediv_nonneg h (by omega)) h3]
    have := Int.mul_ediv_add_emod x p
    omega
theorem pow256 {p : Int} (hp : vF p = true) : 256 ≤ p ^ dg p.toNat := by
  have h2 := vF_b hp
  obtain ⟨h3, h4, h5, h6⟩ := dg_spec (p := p.toNat) (by omega)
  have e1 : p ^ dg p.toNat = ((p.toNat ^ dg p.toNat : Nat) : Int) := by rw [Int.natCast_pow, Int.toNat_of_nonneg (by omega)]
  omega

theorem chk_cons {w m : Nat} {c l : List Int} (hc : c.length = w) : chk w (m + 1) (c ++ l) = c :: chk w m l := by
  unfold chk
  rw [List.range_succ_eq_map, List.map_cons, List.map_map]
  congr 1
  · rw [Nat.zero_mul, List.drop_zero, List.take_left' hc]
  · apply List.map_congr_left
    intro i _
    show ((c ++ l).drop ((i + 1) * w)).take w = _
    rw [show (i + 1) * w = c.length + i * w by rw [hc, Nat.add_mul]; omega, List.drop_append, List.drop_of_length_le (Nat.le_add_right _ _), Nat.add_sub_cancel_left, List.nil_append]
theorem chk_flat {w : Nat} : ∀ (n : Nat) (l : List Int), l.length = n * w → (chk w n l).flatten = l
  | 0, l, h => by simp at h; subst h; simp [chk]
  | n + 1, l, h => by
    rw [Nat.add_mul, Nat.one_mul] at h
    have e : l = l.take w ++ l.drop w := (List.take_append_drop w l).symm
    rw [e, chk_cons (by rw [List.length_take]; omega), List.flatten_cons, chk_flat n _ (by rw [List.length_drop]; omega)]
theorem chk_els {p : Int} : ∀ (bs z : List Int), chk (dg p.toNat) bs.length (els p bs ++ z) = bs.map (digs p (dg p.toNat))
  | [], z => by simp [chk]
  | b :: bs, z => by
    have e : els p (b :: bs) ++ z = digs p (dg p.toNat) b ++ (els p bs ++ z) := by simp [els]
    rw [e, List.length_cons, chk_cons (digs_len _ _ _), chk_els bs z]; rfl
theorem ofB_toB (s : ByteArray) : ofB (toB s) = s := by
  unfold ofB toB
  have : (s.data.toList.map fun c => (c.toNat : Int)).map (fun n => UInt8.ofNat n.toNat) = s.data.toList := by
    rw [List.map_map]
    conv => rhs; rw [← List.map_id s.data.toList]
    apply List.map_congr_left
    intro c _
    simp
  rw [this]

theorem padz_elm {p : Int} (hp : 2 ≤ p) (n : Nat) (bs : List Int) : elm p (padz n 0 (els p bs)) := fun x hx => by
  unfold padz at hx
  rcases List.mem_append.1 hx with h | h
  · obtain ⟨b, _, h2⟩ := List.mem_flatMap.1 h
    exact els_elm hp _ _ x h2
  · have := (List.mem_replicate.1 h).2; omega
theorem rowsN_ok {p : Int} (hp : vF p = true) {w : Nat} (hw : 1 ≤ w ∧ w ≤ 64) (s : ByteArray) : rOk p w (rowsN p w s) ∧ (rowsN p w s).flatten = padz (nd p.toNat w s.size * w) 0 (els p (toB s)) := by
  have h2 := vF_b hp
  have hel : (els p (toB s)).length ≤ nd p.toNat w s.size * w := by rw [els_len, toB_len]; exact nd_mul hw.1
  have hpl := padz_len' (z := (0 : Int)) hel
  refine ⟨fun r hr => ?_, chk_flat _ _ hpl⟩
  obtain ⟨i, hi, rfl⟩ := List.mem_map.1 hr
  have hi := List.mem_range.1 hi
  have h1 : (i + 1) * w ≤ nd p.toNat w s.size * w := Nat.mul_le_mul_right w (by omega)
  rw [Nat.add_mul, Nat.one_mul] at h1
  exact ⟨by rw [List.length_take, List.length_drop, hpl]; omega, fun x hx => padz_elm (by omega) _ _ x (List.mem_of_mem_drop (List.mem_of_mem_take hx))⟩
/-- A record comes back from its rows. -/
theorem dec_rows {p : Int} (hp : vF p = true) {w : Nat} (hw : 1 ≤ w ∧ w ≤ 64) {s : ByteArray} (hs : s.size ≤ 1024) : decI p (w : Int) (s.size : Int) (rowsN p w s) = (s, 0) := by
  have h2 := vF_b hp
  obtain ⟨hr, hfl⟩ := rowsN_ok hp hw s
  rw [dec_o hp (by omega) (by rw [rowsN_len, Int.toNat_natCast, Int.toNat_natCast]), Int.toNat_natCast, Int.toNat_natCast, hfl]
  have hv : vals p s.size (padz (nd p.toNat w s.size * w) 0 (els p (toB s))) = toB s := by
    unfold vals padz
    have := chk_els (p := p) (toB s) (List.replicate (nd p.toNat w s.size * w - (els p (toB s)).length) 0)
    rw [toB_len] at this
    rw [this, List.map_map]
    conv => rhs; rw [← List.map_id (toB s)]
    apply List.map_congr_left
    intro b hb
    have := toB_byt s b hb
    have := pow256 hp
    exact val_digs (by omega) _ b (by omega) (by omega)
  have hg : good p s.size (padz (nd p.toNat w s.size * w) 0 (els p (toB s))) := by
    refine ⟨fun v hv2 => ?_, fun x hx => ?_⟩
    · rw [hv] at hv2; exact (toB_byt s v hv2).2
    · unfold padz at hx
      rw [← toB_len, ← els_len, List.drop_left] at hx
      exact (List.mem_replicate.1 hx).2
  rw [if_pos ⟨hr, hg⟩, hv, ofB_toB]

theorem nd_le2 {p w n : Nat} (hw : 1 ≤ w) (hd : dg p ≤ 8) : nd p w n ≤ 8 * n + 1 := by
  unfold nd
  have h1 : n * dg p ≤ n * 8 := Nat.mul_le_mul_left n hd
  have h2 : (n * dg p + w - 1) / w < 8 * n + 1 + 1 := by
    apply Nat.div_lt_of_lt_mul
    have h3 : 8 * n + 1 + 1 ≤ w * (8 * n + 1 + 1) := Nat.le_mul_of_pos_left _ hw
    have h4 : w * (8 * n + 1 + 1) = w * (8 * n) + w + w := by rw [Nat.mul_add, Nat.mul_add, Nat.mul_one]
    have h5 : 8 * n ≤ w * (8 * n) := Nat.le_mul_of_pos_left _ hw
    omega
  omega
theorem sumN_le {p : Int} {w : Nat} (hw : 1 ≤ w) (hd : dg p.toNat ≤ 8) {b : Nat} : ∀ r : List ByteArray, (∀ s ∈ r, s.size ≤ b) → sumN p w r ≤ r.length * (8 * b + 1)
  | [], _ => by simp [sumN]
  | s :: r, h => by
    have h1 := sumN_le hw hd r (fun x hx => h x (List.mem_cons_of_mem _ hx))
    have h2 := nd_le2 (n := s.size) hw hd
    have h3 := h s List.mem_cons_self
    simp only [sumN, List.length_cons, Nat.add_mul, Nat.one_mul]
    omega
theorem chN_plc {p : Int} {w : Nat} : ∀ (r : List ByteArray) (k : Nat), (∀ s ∈ r, s.size ≤ 1024 ∧ nd p.toNat w s.size ≤ 1024) → chN (plc p w k r) (k : Int) ((k + sumN p w r : Nat) : Int) = true
  | [], k, _ => by simp [plc, chN, sumN]
  | s :: r, k, h => by
    obtain ⟨h1, h2⟩ := h s List.mem_cons_self
    have h3 := nd_pos p.toNat w s.size
    have ih := chN_plc r (k + nd p.toNat w s.size) (fun x hx => h x (List.mem_cons_of_mem _ hx))
    simp only [plc, chN, sumN, Bool.and_eq_true, decide_eq_true_eq]
    refine ⟨by refine ⟨by trivial, ?_⟩; omega, ?_⟩
    rw [show (k : Int) + ((nd p.toNat w s.size : Nat) : Int) = ((k + nd p.toNat w s.size : Nat) : Int) by omega, show k + (nd p.toNat w s.size + sumN p w r) = k + nd p.toNat w s.size + sumN p w r by omega]
    exact ih
theorem plc_get {p : Int} {w : Nat} : ∀ (r : List ByteArray) (k i : Nat) (s : ByteArray), r[i]? = some s → ∃ f : Nat, (plc p w k r)[i]? = some (((k + f : Nat) : Int), ((nd p.toNat w s.size : Nat) : Int), (s.size : Int)) ∧ f + nd p.toNat w s.size ≤ sumN p w r ∧ ((r.flatMap (rowsN p w)).drop f).take (nd p.toNat w s.size) = rowsN p w s
  | [], _, _, _, h => by simp at h
  | s :: r, k, 0, t, h => by
    simp only [List.getElem?_cons_zero, Option.some.injEq] at h
    subst h
    exact ⟨0, by simp [plc], by simp only [sumN]; omega, by rw [List.drop_zero, List.flatMap_cons, List.take_left' (rowsN_len _ _ _)]⟩
  | s :: r, k, i + 1, t, h => by
    simp only [List.getElem?_cons_succ] at h
    obtain ⟨f, h1, h2, h3⟩ := plc_get (p := p) (w := w) r (k + nd p.toNat w s.size) i t h
    refine ⟨nd p.toNat w s.size + f, ?_, by simp only [sumN]; omega, ?_⟩
    · simp only [plc, List.getElem?_cons_succ]
      rw [h1]; congr 3; omega
    · rw [List.flatMap_cons, ← rowsN_len p w s, List.drop_append]
      simp only [Nat.add_sub_cancel_left, List.drop_of_length_le (Nat.le_add_right _ _), List.nil_append]
      exact h3
theorem rows_len {p : Int} {w : Nat} : ∀ r : List ByteArray, (r.flatMap (rowsN p w)).length = sumN p w r
  | [] => rfl
  | s :: r => by rw [List.flatMap_cons, List.length_append, rowsN_len, rows_len r]; rfl

/-- Records that are laid out. -/
structure LaidP (p : Int) (w : Nat) (r : List ByteArray) : Prop where
  f : vF p = true
  w1 : 1 ≤ w ∧ w ≤ 64
  n : r.length ≤ 256
  s : ∀ s ∈ r, s.size ≤ 1024
  k : sumN p w r ≤ 1024
abbrev rws (p : Int) (w : Nat) (r : List ByteArray) : List (List Int) := r.flatMap (rowsN p w)
abbrev lay (p : Int) (w : Nat) (r : List ByteArray) : Lay := ((w : Int), plc p w 0 r)
theorem nd_sum {p : Int} {w : Nat} : ∀ {r : List ByteArray} {b : Nat}, sumN p w r ≤ b → ∀ s ∈ r, nd p.toNat w s.size ≤ b
  | t :: r, b, h, s, hs => by
    simp only [sumN] at h
    rcases List.mem_cons.1 hs with rfl | hs
    · omega
    · exact nd_sum (b := b) (by omega) s hs
theorem LaidP.enc {p : Int} {w : Nat} {r : List ByteArray} (h : LaidP p w r) : encI p (w : Int) r = (rws p w r, lay p w r, 0) := by
  rw [enc_o h.f (by have := h.w1; omega) (by have := h.n; omega), Int.toNat_natCast, if_pos ⟨h.s, by have := h.k; omega⟩]
theorem LaidP.chk {p : Int} {w : Nat} {r : List ByteArray} (h : LaidP p w r) : chkI (lay p w r) ((rws p w r).length : Int) = 0 := by
  unfold chkI
  have := chN_plc (p := p) (w := w) r 0 (fun s hs => ⟨h.s s hs, nd_sum h.k s hs⟩)
  rw [Nat.zero_add] at this
  rw [if_pos ⟨⟨by have := h.w1; show (1 : Int) ≤ (w : Int) ∧ (w : Int) ≤ 64; omega, by rw [plc_len]; exact h.n⟩, by rw [rows_len]; exact this⟩]
/-- What holds of the i-th record. -/
theorem LaidP.get {p : Int} {w : Nat} {r : List ByteArray} (h : LaidP p w r) {i : Nat} {s : ByteArray} (hs : r[i]? = some s) :
    ∃ f : Nat, (plc p w 0 r)[i]? = some ((f : Int), ((nd p.toNat w s.size : Nat) : Int), (s.size : Int)) ∧ f + nd p.toNat w s.size ≤ (rws p w r).length ∧ ((rws p w r).drop f).take (nd p.toNat w s.size) = rowsN p w s ∧ recI p (lay p w r) (rws p w r) (i : Int) = (s, 0) := by
  obtain ⟨f, h1, h2, h3⟩ := plc_get (p := p) (w := w) r 0 i s hs
  rw [Nat.zero_add] at h1
  refine ⟨f, h1, by rw [rows_len]; exact h2, h3, ?_⟩
  have hi : i < r.length := (List.getElem?_eq_some_iff.1 hs).1
  have hg : (plc p w 0 r).getD (i : Int).toNat (0, 0, 0) = ((f : Int), ((nd p.toNat w s.size : Nat) : Int), (s.size : Int)) := by
    rw [Int.toNat_natCast, List.getD_eq_getElem?_getD, h1]; rfl
  unfold recI
  rw [if_neg (by rw [h.chk]; decide), if_neg (by rw [plc_len]; omega), hg]
  dsimp only
  rw [Int.toNat_natCast, Int.toNat_natCast, h3]
  exact dec_rows h.f h.w1 (h.s s (List.mem_of_getElem? hs))

-- packs
theorem fields_ok : ([2, 3, 5, 7, 11, 13, 17, 257, 65521] : List Int).all vF = true := by kernel_rfl
theorem field_ok {l : List Int} (hl : l.length ≤ 1000) {d : List Int × Int} (hd : Dk l d) : ∃ p e, make_Field d = some (p, e) ∧ vF p = true ∧ Dk l e := by
  obtain ⟨v, e, he, h1, h2, h3⟩ := next_ok hl hd (n := 9) (by omega)
  unfold make_Field
  rw [he]
  simp only [Option.bind_some]
  rw [lidx_ok 0 (by omega) (by simp; omega)]
  simp only [Option.bind_some]
  refine ⟨_, _, rfl, ?_, h3⟩
  have hlt : v.toNat < ([2, 3, 5, 7, 11, 13, 17, 257, 65521] : List Int).length := by simp; omega
  rw [List.getD_eq_getElem?_getD, List.getElem?_eq_getElem hlt]
  exact List.all_eq_true.1 fields_ok _ (List.getElem_mem hlt)
theorem text_L {l : List Int} (hl : l.length ≤ 1000) : ∀ (f : Nat) (acc : List Int) (c p : Int), 0 ≤ c → c ≤ 100 → c < f → acc.length + c ≤ 1000 → Dk l (l, p) →
    ∃ s e, make_Text_L2 make_Text_J1 f acc c l p = some (s, e) ∧ (s.size : Int) = acc.length + c ∧ Dk l e
  | 0, _, _, _, h1, _, h2, _, _ => by omega
  | f + 1, acc, c, p, h1, h2, h3, h4, h5 => by
    show ∃ s e, make_Text_B2 make_Text_J1 (make_Text_L2 make_Text_J1 f) acc c l p = _ ∧ _
    unfold make_Text_B2
    by_cases hc : 0 < c
    · rw [if_pos hc]
      obtain ⟨v, ⟨e1, e2⟩, he, _, _, h6⟩ := next_ok hl h5 (n := 256) (by omega)
      rw [he]
      simp only [Option.bind_some]
      rw [lapp_ok (by simp; omega)]
      simp only [Option.bind_some]
      obtain ⟨hq, h7⟩ := id h6
      dsimp only at hq h7
      subst hq
      rw [w64_id (x := c - 1) (by omega) (by omega)]
      obtain ⟨s, e, h8, h9, h10⟩ := text_L hl f (acc ++ [wu8 v]) (c - 1) e2 (by omega) (by omega) (by omega) (by simp; omega) ⟨rfl, h7⟩
      exact ⟨s, e, h8, by rw [h9]; simp; omega, h10⟩
    · rw [if_neg hc]
      exact ⟨_, _, rfl, by rw [ofB_size]; omega, h5⟩
theorem text_ok {l : List Int} (hl : l.length ≤ 1000) {d : List Int × Int} (hd : Dk l d) {n : Int} (hn : 0 ≤ n ∧ n ≤ 100) : ∃ s e, make_Text d n = some (s, e) ∧ (s.size : Int) ≤ n ∧ Dk l e := by
  unfold make_Text
  rw [w64_id (by omega) (by omega)]
  obtain ⟨v, ⟨e1, e2⟩, he, h1, h2, h3⟩ := next_ok hl hd (n := n + 1) (by omega)
  rw [he]
  simp only [Option.bind_some]
  obtain ⟨hq, h4⟩ := id h3
  dsimp only at hq h4
  subst hq
  obtain ⟨s, e, h5, h6, h7⟩ := text_L hl big [] v e2 (by omega) (by omega) (by simp only [big]; omega) (by simp; omega) ⟨rfl, h4⟩
  exact ⟨s, e, h5, by simp at h6; omega, h7⟩
theorem records_L {l : List Int} (hl : l.length ≤ 1000) : ∀ (f : Nat) (acc : List ByteArray) (c p : Int), 0 ≤ c → c ≤ 100 → c < f → acc.length + c ≤ 1000 → Dk l (l, p) → (∀ s ∈ acc, s.size ≤ 9) →
    ∃ r e, make_Records_L1 f acc c l p = some (r, e) ∧ (r.length : Int) = acc.length + c ∧ (∀ s ∈ r, s.size ≤ 9) ∧ Dk l e
  | 0, _, _, _, h1, _, h2, _, _, _ => by omega
  | f + 1, acc, c, p, h1, h2, h3, h4, h5, ha => by
    show ∃ r e, make_Records_B1 (make_Records_L1 f) acc c l p = _ ∧ _
    unfold make_Records_B1
    by_cases hc : 0 < c
    · rw [if_pos hc]
      obtain ⟨s, ⟨e1, e2⟩, he, hs, h6⟩ := text_ok hl h5 (n := 9) (by omega)
      rw [he]
      simp only [Option.bind_some]
      rw [lapp_ok (by simp; omega)]
      simp only [Option.bind_some]
      obtain ⟨hq, h7⟩ := id h6
      dsimp only at hq h7
      subst hq
      rw [w64_id (x := c - 1) (by omega) (by omega)]
      obtain ⟨r, e, h8, h9, h10, h11⟩ := records_L hl f (acc ++ [s]) (c - 1) e2 (by omega) (by omega) (by omega) (by simp; omega) ⟨rfl, h7⟩ (fun x hx => by
        rcases List.mem_append.1 hx with hx | hx
        · exact ha x hx
        · simp at hx; subst hx; omega)
      exact ⟨r, e, h8, by rw [h9]; simp; omega, h10, h11⟩
    · rw [if_neg hc]
      exact ⟨_, _, rfl, by omega, ha, h5⟩
theorem records_ok {l : List Int} (hl : l.length ≤ 1000) {d : List Int × Int} (hd : Dk l d) : ∃ r e, make_Records d = some (r, e) ∧ r.length ≤ 5 ∧ (∀ s ∈ r, s.size ≤ 9) ∧ Dk l e := by
  unfold make_Records
  obtain ⟨v, ⟨e1, e2⟩, he, h1, h2, h3⟩ := next_ok hl hd (n := 6) (by omega)
  rw [he]
  simp only [Option.bind_some]
  obtain ⟨hq, h4⟩ := id h3
  dsimp only at hq h4
  subst hq
  obtain ⟨r, e, h5, h6, h7, h8⟩ := records_L hl big [] v e2 (by omega) (by omega) (by simp only [big]; omega) (by simp; omega) ⟨rfl, h4⟩ (by simp)
  exact ⟨r, e, h5, by simp at h6; omega, h7, h8⟩
theorem few_laid {p : Int} (hp : vF p = true) {w : Nat} (hw : 1 ≤ w ∧ w ≤ 64) {r : List ByteArray} (hr : r.length ≤ 5) (hs : ∀ s ∈ r, s.size ≤ 9) : LaidP p w r := by
  have hd := (dg_spec (p := p.toNat) (by have := vF_b hp; omega)).2.1
  have := sumN_le (w := w) hw.1 hd r hs
  have h3 : r.length * (8 * 9 + 1) ≤ 5 * (8 * 9 + 1) := Nat.mul_le_mul_right _ hr
  exact ⟨hp, hw, by omega, fun s h => by have := hs s h; omega, by omega⟩
theorem laid_ok {l : List Int} (hl : l.length ≤ 1000) {d : List Int × Int} (hd : Dk l d) : ∃ p r w e, make_Laid d = some (p, r, rws p w r, lay p w r, e) ∧ LaidP p w r ∧ w ≤ 9 ∧ r.length ≤ 5 ∧ (∀ s ∈ r, s.size ≤ 9) ∧ Dk l e := by
  obtain ⟨p, e, h1, h2, h3⟩ := field_ok hl hd
  obtain ⟨r, e2, h4, h5, h6, h7⟩ := records_ok hl h3
  obtain ⟨v, e3, h8, h9, h10, h11⟩ := next_ok hl h7 (n := 9) (by omega)
  have hw : 1 ≤ (1 + v).toNat ∧ (1 + v).toNat ≤ 64 := by omega
  have hL := few_laid h2 hw h5 h6
  refine ⟨p, r, (1 + v).toNat, e3, ?_, hL, by omega, h5, h6, h11⟩
  unfold make_Laid
  rw [h1]
  simp only [Option.bind_some]
  rw [h4]
  simp only [Option.bind_some]
  rw [h8]
  simp only [Option.bind_some]
  have := hL.enc
  rw [Int.toNat_of_nonneg (by omega)] at this
  rw [w64_id (by omega) (by omega), rencode_eq, this]
  rfl
theorem few_eq (t : List Int) : make_Few t = some (decide ((t.length : Int) ≤ 500)) := rfl
theorem new_dk {t : List Int} : Dk t (t, 0) := ⟨rfl, by omega, by omega⟩

-- LayoutBack
theorem back_L {p : Int} {w : Nat} {r : List ByteArray} (h : LaidP p w r) : ∀ (q : List ByteArray) (i : Nat), r.drop i = q → law13_LayoutBack_L1 (w : Int) (rws p w r) (w : Int) (plc p w 0 r) p q i = some true
  | [], _, _ => rfl
  | s :: q, i, hq => by
    show law13_LayoutBack_B1 (w : Int) (rws p w r) (w : Int) (plc p w 0 r) p (law13_LayoutBack_L1 (w : Int) (rws p w r) (w : Int) (plc p w 0 r) p q (i + 1)) s i = _
    unfold law13_LayoutBack_B1
    have hs : r[i]? = some s := by have : (r.drop i)[0]? = some s := by rw [hq]; rfl
                                   simpa using this
    obtain ⟨f, h1, h2, h3, h4⟩ := h.get hs
    have hb : (rws p w r).length ≤ 1024 := by rw [rows_len]; exact h.k
    rw [lidx_of (by omega) (by rw [Int.toNat_natCast]; exact h1)]
    simp only [Option.bind_some]
    rw [record_eq p (lay p w r) (by omega), h4]
    simp only [Option.bind_some]
    rw [w64_id (by omega) (by omega), lsub_ok (by omega) (by omega) (by omega)]
    simp only [Option.bind_some]
    have e : ((rws p w r).drop (f : Int).toNat).take (((f : Int) + ((nd p.toNat w s.size : Nat) : Int)) - (f : Int)).toNat = rowsN p w s := by
      rw [Int.toNat_natCast, show (((f : Int) + ((nd p.toNat w s.size : Nat) : Int)) - (f : Int)).toNat = nd p.toNat w s.size by omega]; exact h3
    rw [e, decode_eq, dec_rows h.f h.w1 (h.s s (List.mem_of_getElem? hs))]
    simp only [Option.bind_some]
    rw [if_neg (by simp), back_L h q (i + 1) (drop_succ hq)]
theorem backw_L {p : Int} {w : Nat} (kx : Int → Int → Int → Option Bool) (a b c : Int) : ∀ (rows : List (List Int)), rOk p w rows → law13_LayoutBack_L3 kx (w : Int) a b c rows = kx a b c
  | [], _ => rfl
  | x :: rows, h => by
    show law13_LayoutBack_B3 kx (w : Int) a b c (law13_LayoutBack_L3 kx (w : Int) a b c rows) x = _
    unfold law13_LayoutBack_B3
    rw [if_neg (by have := (h x List.mem_cons_self).1; omega), backw_L kx a b c rows (fun y hy => h y (List.mem_cons_of_mem _ hy))]
theorem rws_ok {p : Int} {w : Nat} {r : List ByteArray} (h : LaidP p w r) : rOk p w (rws p w r) := fun x hx => by
  obtain ⟨s, _, hs⟩ := List.mem_flatMap.1 hx
  exact (rowsN_ok h.f h.w1 s).1 x hs
theorem law_back (t : List Int) {u : Int} (hu : 0 ≤ u ∧ u ≤ 255) : law13_LayoutBack t u = some true := by
  unfold law13_LayoutBack
  rw [sane13]
  simp only [Option.bind_some]
  rw [if_neg (by simp), few_eq]
  simp only [Option.bind_some]
  by_cases ht : (t.length : Int) ≤ 500
  · rw [if_neg (nb_t ht)]
    rw [show make_New t = some (t, 0) from rfl]
    simp only [Option.bind_some]
    obtain ⟨p, e, h1, h2, h3⟩ := field_ok (by omega) (new_dk (t := t))
    rw [h1]
    simp only [Option.bind_some]
    obtain ⟨r, e2, h4, h5, h6, h7⟩ := records_ok (by omega) h3
    rw [h4]
    simp only [Option.bind_some]
    have hw : w64 (1 + w64 (Int.tmod u 20)) = ((1 + (u % 20).toNat : Nat) : Int) := by
      rw [Int.tmod_eq_emod_of_nonneg hu.1, w64_id (x := u % 20) (by omega) (by omega), w64_id (by omega) (by omega)]; omega
    have hL := few_laid h2 (w := 1 + (u % 20).toNat) (by omega) h5 h6
    rw [hw, encode_eq, hL.enc]
    simp only [Option.bind_some]
    have hb : (rws p (1 + (u % 20).toNat) r).length ≤ 1024 := by rw [rows_len]; exact hL.k
    rw [if_neg (by rw [plc_len]; simp), check_eq (lay p (1 + (u % 20).toNat) r) (by omega), hL.chk]
    simp only [Option.bind_some]
    rw [if_neg (by simp), backw_L _ _ _ _ _ (rws_ok hL)]
    exact back_L hL r 0 rfl
  · rw [if_pos (nb_f ht)]

-- LayoutAsked
theorem ask_get {p : Int} {w : Nat} {r : List ByteArray} (h : LaidP p w r) {i : Nat} {s : ByteArray} (hs : r[i]? = some s) {f : Nat} (hf : (plc p w 0 r)[i]? = some ((f : Int), ((nd p.toNat w s.size : Nat) : Int), (s.size : Int))) :
    askI (lay p w r) ((rws p w r).length : Int) (i : Int) = ((List.range (mst (plc p w 0 r)).toNat).map fun k : Nat => (f : Int) + min (k : Int) (((nd p.toNat w s.size : Nat) : Int) - 1), 0) := by
  have hi : i < r.length := (List.getElem?_eq_some_iff.1 hs).1
  unfold askI
  rw [if_neg (by rw [h.chk]; decide), if_neg (by rw [plc_len]; omega)]
  have hg : (plc p w 0 r).getD (i : Int).toNat (0, 0, 0) = ((f : Int), ((nd p.toNat w s.size : Nat) : Int), (s.size : Int)) := by
    rw [Int.toNat_natCast, List.getD_eq_getElem?_getD, hf]; rfl
  rw [hg]
theorem asked3 {p : Int} {w : Nat} {r : List ByteArray} (kx : List (List Int) → Int → Int → Int → Int → Int → Int → Option Bool) (a b c : Int) (z : Int) {f n M : Nat} (hn : 1 ≤ n) (hfn : f + n ≤ (rws p w r).length) (hb : (rws p w r).length ≤ 1024) (hM : M ≤ 1024) : ∀ (m k : Nat) (acc : List (List Int)), k + m = M → acc = ((rws p w r).drop f).take (min k n) →
    law13_LayoutAsked_L3 kx (rws p w r) (f : Int) (n : Int) z a b c ((List.range m).map fun t => (f : Int) + min ((k + t : Nat) : Int) ((n : Int) - 1)) k acc = kx (((rws p w r).drop f).take (min M n)) (f : Int) (n : Int) z a b c
  | 0, k, acc, h, ha => by
    have : k = M := by omega
    subst this; subst ha; rfl
  | m + 1, k, acc, h, ha => by
    rw [range_shift (fun t => (f : Int) + min ((t : Nat) : Int) ((n : Int) - 1))]
    show law13_LayoutAsked_B3 kx (rws p w r) (f : Int) (n : Int) z a b c (law13_LayoutAsked_L3 kx (rws p w r) (f : Int) (n : Int) z a b c _ (k + 1)) _ k acc = _
    unfold law13_LayoutAsked_B3
    rw [w64_id (x := (f : Int) + (k : Int)) (by omega) (by omega), w64_id (x := (f : Int) + (n : Int)) (by omega) (by omega), w64_id (by omega) (by omega)]
    rw [if_neg (by omega)]
    by_cases hk : (k : Int) < (n : Int)
    · rw [if_pos hk]
      have e1 : (f : Int) + min ((k : Nat) : Int) ((n : Int) - 1) = ((f + k : Nat) : Int) := by omega
      rw [e1, lidx_nat [] (by omega)]
      simp only [Option.bind_some]
      have e2 : min k n = k := by omega
      have e3 : min (k + 1) n = k + 1 := by omega
      have hal : acc.length ≤ 1024 := by rw [ha, List.length_take]; omega
      rw [lapp_ok (by simp; omega)]
      simp only [Option.bind_some]
      refine asked3 kx a b c z hn hfn hb hM m (k + 1) _ (by omega) ?_
      rw [e3, ha, e2, List.take_add_one]
      congr 1
      rw [List.getElem?_drop, List.getD_eq_getElem?_getD, List.getElem?_eq_getElem (by omega)]; rfl
    · rw [if_neg hk]
      refine asked3 kx a b c z hn hfn hb hM m (k + 1) _ (by omega) ?_
      rw [ha]; congr 1; omega
theorem asked4 {p : Int} {w : Nat} {r : List ByteArray} (h : LaidP p w r) (kx : Int → Int → Int → Option Bool) (c : Int) : ∀ (q : List ByteArray) (i : Nat), r.drop i = q →
    law13_LayoutAsked_L4 kx (rws p w r) (mst (plc p w 0 r)) (plc p w 0 r) q i (w : Int) p c = kx (w : Int) p c
  | [], _, _ => rfl
  | s :: q, i, hq => by
    show law13_LayoutAsked_B4 kx (rws p w r) (mst (plc p w 0 r)) (plc p w 0 r) (law13_LayoutAsked_L4 kx (rws p w r) (mst (plc p w 0 r)) (plc p w 0 r) q (i + 1)) s i (w : Int) p c = _
    unfold law13_LayoutAsked_B4
    have hs : r[i]? = some s := by have : (r.drop i)[0]? = some s := by rw [hq]; rfl
                                   simpa using this
    obtain ⟨f, h1, h2, h3, h4⟩ := h.get hs
    have hb : (rws p w r).length ≤ 1024 := by rw [rows_len]; exact h.k
    have hc := chkI_ok h.chk
    have hm := mst_b (chN_mem _ _ _ hc.2)
    have hmm := mst_mem (List.mem_of_getElem? h1)
    dsimp only at hm hmm
    rw [lidx_of (by omega) (by rw [Int.toNat_natCast]; exact h1)]
    simp only [Option.bind_some]
    rw [(asked_eq (lay p w r) (n := ((rws p w r).length : Int)) (by omega) (i : Int)).1, ask_get h hs h1]
    simp only [Option.bind_some]
    rw [if_neg (by simp only [List.length_map, List.length_range]; omega)]
    have h5 := asked3 (p := p) (w := w) (r := r) (law13_LayoutAsked_J2 (law13_LayoutAsked_L4 kx (rws p w r) (mst (plc p w 0 r)) (plc p w 0 r) q (i + 1)) s) (w : Int) p c (s.size : Int) (f := f) (n := nd p.toNat w s.size) (M := (mst (plc p w 0 r)).toNat) (nd_pos _ _ _) h2 hb (by omega) (mst (plc p w 0 r)).toNat 0 [] (by omega) (by simp)
    simp only [Nat.zero_add] at h5
    rw [h5, show min (mst (plc p w 0 r)).toNat (nd p.toNat w s.size) = nd p.toNat w s.size by omega, h3]
    unfold law13_LayoutAsked_J2
    rw [decode_eq, dec_rows h.f h.w1 (h.s s (List.mem_of_getElem? hs))]
    simp only [Option.bind_some]
    rw [if_neg (by simp), asked4 h kx c q (i + 1) (drop_succ hq)]
theorem law_asked (t : List Int) : law13_LayoutAsked t = some true := by
  unfold law13_LayoutAsked
  rw [sane13]
  simp only [Option.bind_some]
  rw [if_neg (by simp), few_eq]
  simp only [Option.bind_some]
  by_cases ht : (t.length : Int) ≤ 500
  · rw [if_neg (nb_t ht)]
    rw [show make_New t = some (t, 0) from rfl]
    simp only [Option.bind_some]
    obtain ⟨p, r, w, e, h1, hL, h2, h3, h4, h5⟩ := laid_ok (by omega) (new_dk (t := t))
    rw [h1]
    simp only [Option.bind_some]
    rw [most_eq _ (by rw [plc_len]; omega)]
    simp only [Option.bind_some]
    rw [asked4 hL _ _ r 0 rfl]
    unfold law13_LayoutAsked_J1
    congr 1
    refine decide_eq_true ?_
    cases r with
    | nil => exact .inr rfl
    | cons s r => exact .inl (by simp only [List.length_cons]; omega)
  · rw [if_pos (nb_f ht)]
end Go.Proofs.Ythgmcgldmahgeaa
