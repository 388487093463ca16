/- Chapter 21, plain: levels, the law FenceLevels. -/
import Derived.Test.YtdchjmophffphaaC21d
namespace Go.Proofs.Ytdchjmophffphaa

/-- How many blocks. -/
def chN (L n : Nat) : Nat := (L + n - 1) / n
theorem chN_iff {L n k : Nat} (hn : 1 ≤ n) : k < chN L n ↔ k * n < L := by
  unfold chN
  rw [Nat.lt_iff_add_one_le, Nat.le_div_iff_mul_le (by omega), Nat.add_mul]
  omega
theorem chN_le {L n : Nat} (hn : 1 ≤ n) : chN L n ≤ L := by
  rcases Nat.lt_or_ge L (chN L n) with h | h
  · have := (chN_iff hn).1 h
    have := Nat.mul_le_mul_left L hn
    omega
  · exact h
theorem chN_int {L n : Nat} : ((chN L n : Nat) : Int) = ((L : Int) + n - 1) / n ∨ L + n = 0 := by
  rcases Nat.eq_zero_or_pos (L + n) with h | h
  · exact .inr h
  · left; unfold chN; rw [Int.natCast_ediv]; congr 1; omega
theorem chN_lt {L n : Nat} (hn : 2 ≤ n) (h : n < L) : 1 ≤ chN L n ∧ chN L n < L := by
  have h1 := ceil_lt (n := L) (b := n) (by omega) (by omega)
  rcases chN_int (L := L) (n := n) with h2 | h2 <;> omega
/-- The blocks. -/
def chunks (n : Nat) (l : List ByteArray) : List (List ByteArray) := (List.range (chN l.length n)).map fun k => (l.drop (k * n)).take n
/-- The first keys of the blocks. -/
def up (n : Nat) (l : List ByteArray) : List ByteArray := (List.range (chN l.length n)).map fun k => gd l (k * n)
theorem up_len (n : Nat) (l : List ByteArray) : (up n l).length = chN l.length n := by simp [up]
theorem up_gd {n : Nat} {l : List ByteArray} {k : Nat} (h : k < chN l.length n) : gd (up n l) k = gd l (k * n) := by
  show (up n l).getD k _ = _
  unfold up
  rw [List.getD_eq_getElem?_getD, List.getElem?_map, List.getElem?_range h]; rfl

theorem range_from {α : Type} (g : Nat → α) {c k : Nat} (h : k < c) : (List.range (c - k)).map (fun t => g (k + t)) = g k :: (List.range (c - (k + 1))).map fun t => g (k + 1 + t) := by
  rw [show c - k = (c - (k + 1)) + 1 by omega, List.range_succ_eq_map, List.map_cons, List.map_map]
  congr 1
  apply List.map_congr_left
  intro a _
  show g (k + (a + 1)) = g (k + 1 + a)
  congr 1; omega

theorem chunk_L {n : Nat} (hn : 1 ≤ n ∧ n ≤ 1000) {l : List ByteArray} (hl : l.length ≤ 1000000) : ∀ (f k : Nat), k ≤ chN l.length n → chN l.length n - k < f →
    slices_Chunk_Lstringstring_f1_L1 l (n : Int) f ((k * n : Nat) : Int) = some ((List.range (chN l.length n - k)).map fun t => (l.drop ((k + t) * n)).take n)
  | 0, k, _, h => by omega
  | f + 1, k, h1, h2 => by
    show slices_Chunk_Lstringstring_f1_B1 l (n : Int) (slices_Chunk_Lstringstring_f1_L1 l (n : Int) f) _ = _
    unfold slices_Chunk_Lstringstring_f1_B1
    have hi := chN_iff (L := l.length) (k := k) hn.1
    split
    · have hk : k < chN l.length n := hi.2 (by omega)
      rw [lsub_ok (by omega) (by omega) (by omega)]
      simp only [Option.bind_some]
      have e1 : ((l.drop ((k * n : Nat) : Int).toNat).take ((l.length : Int) - ((k * n : Nat) : Int)).toNat).length = l.length - k * n := by rw [Int.toNat_natCast]; simp; omega
      rw [e1]
      have e2 : ((k * n : Nat) : Int) + (n : Int) = (((k + 1) * n : Nat) : Int) := by rw [Nat.add_mul]; omega
      rw [w64_id (x := ((k * n : Nat) : Int) + min (n : Int) ((l.length - k * n : Nat) : Int)) (by omega) (by omega), w64_id (x := ((k * n : Nat) : Int) + (n : Int)) (by omega) (by omega), e2]
      unfold lsub3
      rw [if_pos (by omega), lsub_ok (by omega) (by omega) (by omega)]
      simp only [Option.bind_some]
      rw [chunk_L hn hl f (k + 1) (by omega) (by omega), range_from (fun t => (l.drop (t * n)).take n) hk]
      simp only [yc, Option.map_some]
      congr 2
      rw [Int.toNat_natCast]
      rcases Nat.le_total n (l.length - k * n) with h | h
      · rw [show ((k * n : Nat) : Int) + min (n : Int) ((l.length - k * n : Nat) : Int) - ((k * n : Nat) : Int) = (n : Int) by omega, Int.toNat_natCast]
      · rw [List.take_of_length_le (by simp; omega), List.take_of_length_le (by simp; omega)]
    · have hk : ¬ k < chN l.length n := fun h => by have := hi.1 h; omega
      rw [show chN l.length n - k = 0 by omega]; rfl
theorem chunk_eq {n : Nat} (hn : 1 ≤ n ∧ n ≤ 1000) {l : List ByteArray} (hl : l.length ≤ 1000000) : slices_Chunk_Lstringstring l (n : Int) = some (chunks n l) := by
  unfold slices_Chunk_Lstringstring slices_Chunk_Lstringstring_J1 slices_Chunk_Lstringstring_f1
  rw [if_neg (by omega)]
  have := chunk_L hn hl big 0 (by omega) (by have := chN_le (L := l.length) hn.1; simp only [big]; omega)
  rw [Nat.zero_mul] at this
  rw [show (0 : Int) = ((0 : Nat) : Int) from rfl, this]
  simp only [Option.bind_some, Nat.sub_zero, Nat.zero_add]
  rfl

theorem firsts_L (kx : List ByteArray → Option (List (List ByteArray))) : ∀ (cs : List (List ByteArray)) (acc : List ByteArray), (∀ c ∈ cs, c ≠ []) → acc.length + cs.length ≤ 1000000 →
    fence_levels_L2 kx cs acc = kx (acc ++ cs.map fun c => gd c 0)
  | [], acc, _, _ => by simp [fence_levels_L2]
  | c :: cs, acc, h, hl => by
    simp only [List.length_cons] at hl
    show fence_levels_B2 kx (fence_levels_L2 kx cs) c acc = _
    unfold fence_levels_B2
    have hc := List.length_pos_iff.2 (h c (List.mem_cons_self ..))
    rw [lidx_ok .empty (by omega) (by omega)]
    simp only [Option.bind_some]
    rw [lapp_ok (by simp; omega)]
    simp only [Option.bind_some]
    rw [firsts_L kx cs _ (fun c hc => h c (List.mem_cons_of_mem _ hc)) (by simp; omega)]
    simp

theorem chunks_up {n : Nat} (hn : 1 ≤ n) (l : List ByteArray) : (∀ c ∈ chunks n l, c ≠ []) ∧ (chunks n l).map (fun c => gd c 0) = up n l := by
  constructor
  · intro c hc
    obtain ⟨k, hk, rfl⟩ := List.mem_map.1 hc
    have := (chN_iff hn).1 (List.mem_range.1 hk)
    intro h
    have := congrArg List.length h
    simp at this; omega
  · unfold chunks up
    rw [List.map_map]
    apply List.map_congr_left
    intro k hk
    have := (chN_iff hn).1 (List.mem_range.1 hk)
    show gd ((l.drop (k * n)).take n) 0 = gd l (k * n)
    simp [gd, List.getD_eq_getElem?_getD, List.getElem?_take_of_lt hn]

/-- The levels above l. -/
def lvs (n : Nat) : Nat → List ByteArray → List (List ByteArray)
  | 0, _ => []
  | k + 1, l => if l.length ≤ n then [] else up n l :: lvs n k (up n l)
theorem lvs_len {n : Nat} (hn : 2 ≤ n) : ∀ (k : Nat) (l : List ByteArray), (lvs n k l).length + 1 = stp n k l.length
  | 0, l => rfl
  | k + 1, l => by
    simp only [lvs, stp]
    by_cases h : l.length ≤ n
    · rw [if_pos h, if_pos (by omega)]; rfl
    · rw [if_neg h, if_neg (by omega), List.length_cons, lvs_len hn k, up_len]
      rcases chN_int (L := l.length) (n := n) with h2 | h2
      · rw [h2]; omega
      · omega

theorem levels_L {n : Nat} (hn : 2 ≤ n ∧ n ≤ 8) : ∀ (f k : Nat) (l : List ByteArray) (acc : List (List ByteArray)), l.length ≤ k → l.length < f → acc.length + l.length ≤ 100000 →
    fence_levels_L3 (n : Int) f acc l = some (acc ++ lvs n k l)
  | 0, k, l, acc, h1, h2, h3 => by omega
  | f + 1, k, l, acc, h1, h2, h3 => by
    show fence_levels_B3 (n : Int) (fence_levels_L3 (n : Int) f) acc l = _
    unfold fence_levels_B3
    split
    · rename_i h
      cases k with
      | zero => omega
      | succ k =>
        have hc := chN_lt hn.1 (by omega : n < l.length)
        obtain ⟨c1, c2⟩ := chunks_up (n := n) (by omega) l
        rw [chunk_eq ⟨by omega, by omega⟩ (by omega)]
        simp only [Option.bind_some]
        rw [firsts_L _ _ _ c1 (by simp [chunks]; omega), c2, List.nil_append]
        unfold fence_levels_J1
        rw [lapp_ok (by simp; omega)]
        simp only [Option.bind_some]
        rw [levels_L hn f k (up n l) (acc ++ [up n l]) (by rw [up_len]; omega) (by rw [up_len]; omega) (by simp [up_len]; omega)]
        simp only [lvs]
        rw [if_neg (by omega)]
        simp
    · cases k with
      | zero => simp [lvs]
      | succ k => simp only [lvs]; rw [if_pos (by omega)]; simp
theorem levels_eq {n : Nat} (hn : 2 ≤ n ∧ n ≤ 8) {l : List ByteArray} (hl : l.length ≤ 256) : fence_levels ((n : Int), l) = some (l :: lvs n 256 l) := by
  unfold fence_levels slices_Clone_Lstringstring
  dsimp only
  rw [lapp_ok (by simp; omega)]
  simp only [Option.bind_some, List.nil_append]
  rw [levels_L hn big 256 l _ hl (by simp only [big]; omega) (by simp; omega)]
  rfl

/-- The tower of levels over l. -/
def tow (n : Nat) (l : List ByteArray) : List (List ByteArray) := l :: lvs n 256 l
abbrev gl (L : List (List ByteArray)) (i : Nat) : List ByteArray := L.getD i []
theorem tow_ok {n : Nat} (hn : 2 ≤ n) : ∀ (k : Nat) (l : List ByteArray), l.length ≤ k → (∀ i, i + 1 < (l :: lvs n k l).length → n < (gl (l :: lvs n k l) i).length ∧ gl (l :: lvs n k l) (i + 1) = up n (gl (l :: lvs n k l) i)) ∧ (gl (l :: lvs n k l) ((l :: lvs n k l).length - 1)).length ≤ n
  | 0, l, h => ⟨fun i hi => by simp [lvs] at hi, by simp [lvs, gl]; omega⟩
  | k + 1, l, h => by
    simp only [lvs]
    split
    · exact ⟨fun i hi => by simp at hi, by simpa [gl]⟩
    · rename_i h1
      have hc := chN_lt hn (by omega : n < l.length)
      obtain ⟨i1, i2⟩ := tow_ok hn k (up n l) (by rw [up_len]; omega)
      refine ⟨fun i hi => ?_, ?_⟩
      · cases i with
        | zero => exact ⟨by simp only [gl, List.getD_cons_zero]; omega, rfl⟩
        | succ i =>
          have := i1 i (by simpa using hi)
          simpa [gl] using this
      · simpa [gl] using i2
theorem asc_up {n : Nat} (hn : 1 ≤ n) {l : List ByteArray} (h : AscP l) : AscP (up n l) := by
  refine asc_of (fun i hi => ?_) (fun i hi => ?_)
  · rw [up_len] at hi
    rw [up_gd hi]
    exact (h _ ((chN_iff hn).1 hi)).1
  · rw [up_len] at hi
    rw [up_gd (by omega), up_gd hi]
    exact asc_lt h (by rw [Nat.add_mul]; omega) ((chN_iff hn).1 hi)
theorem tow_len {n : Nat} (hn : 2 ≤ n) (l : List ByteArray) : (tow n l).length = st n l.length := by
  unfold tow st; rw [List.length_cons, lvs_len hn]
theorem tow_asc {n : Nat} (hn : 2 ≤ n) {l : List ByteArray} (hl : 1 ≤ l.length ∧ l.length ≤ 256) (h : AscP l) : ∀ i, i < (tow n l).length → AscP (gl (tow n l) i) ∧ 1 ≤ (gl (tow n l) i).length ∧ (gl (tow n l) i).length ≤ 256
  | 0, _ => ⟨h, hl⟩
  | i + 1, hi => by
    obtain ⟨h1, h2, h3⟩ := tow_asc hn hl h i (by omega)
    obtain ⟨h4, h5⟩ := (tow_ok hn 256 l hl.2).1 i hi
    have hc := chN_lt hn h4
    unfold tow
    rw [h5]
    refine ⟨asc_up (by omega) h1, ?_⟩
    rw [up_len]
    unfold tow at h3
    omega

/-- Levels. -/
def levelsI (f : Int × List ByteArray) : List (List ByteArray) × Int := if FenP f then (tow f.1.toNat f.2, 0) else ([], 2)
theorem flevels_eq (f : Int × List ByteArray) : fence_Levels f = some (levelsI f) := by
  unfold fence_Levels levelsI
  rw [check_eq]
  simp only [Option.bind_some]
  by_cases hf : FenP f
  · rw [if_pos hf, if_neg (show ¬ ((0 : Int) ≠ 0) by decide), if_pos hf]
    have hb := hf.1
    have := levels_eq (n := f.1.toNat) (by omega) hb.2.2
    rw [show ((f.1.toNat : Nat) : Int) = f.1 by omega] at this
    rw [show f = (f.1, f.2) from rfl, this]; rfl
  · rw [if_neg hf, if_pos (show (2 : Int) ≠ 0 by decide), if_neg hf]

theorem samek_L {z : List ByteArray} : ∀ (xs : List ByteArray) (i : Nat), z.drop i = xs → ref21_SameKeys_L1 z xs i = some true
  | [], _, _ => rfl
  | x :: xs, i, h => by
    show ref21_SameKeys_B1 z (ref21_SameKeys_L1 z xs (i + 1)) x i = _
    unfold ref21_SameKeys_B1
    rw [drop_idx h, samek_L xs (i + 1) (drop_succ h)]
    simp
theorem samek_refl (l : List ByteArray) : ref21_SameKeys l l = some true := by
  unfold ref21_SameKeys
  rw [if_neg (by simp)]
  exact samek_L l 0 rfl

theorem flev_in {n : Nat} (hn : 2 ≤ n ∧ n ≤ 8) (rec : Int → Int → Int → Option Bool) (L : List (List ByteArray)) (hL : L.length ≤ 1000) {i : Nat} (h1 : 1 ≤ i) (h2 : i < L.length) (h3 : n < (gl L (i - 1)).length) (h4 : gl L i = up n (gl L (i - 1))) (h5 : (gl L (i - 1)).length ≤ 1000) (z : Int) :
    ∀ (xs : List ByteArray) (j : Nat), (gl L i).drop j = xs → law21_FenceLevels_L1 rec (i : Int) L (n : Int) z xs j = rec ((i + 1 : Nat) : Int) n z
  | [], j, _ => by
    show rec (w64 ((i : Int) + 1)) n z = _
    rw [w64_id (by omega) (by omega)]; rfl
  | x :: xs, j, h => by
    show law21_FenceLevels_B1 rec (i : Int) L (n : Int) z (law21_FenceLevels_L1 rec (i : Int) L (n : Int) z xs (j + 1)) x j = _
    unfold law21_FenceLevels_B1
    obtain ⟨hj, rfl⟩ := drop_gd h
    rw [flev_in hn rec L hL h1 h2 h3 h4 h5 z xs (j + 1) (drop_succ h)]
    rw [h4, up_len] at hj
    have hk := (chN_iff (by omega : 1 ≤ n)).1 hj
    rw [w64_id (by omega) (by omega), show ((i : Int) - 1) = ((i - 1 : Nat) : Int) by omega, lidx_nat [] (by omega)]
    simp only [Option.bind_some]
    rw [show (j : Int) * (n : Int) = ((j * n : Nat) : Int) by simp, w64_id (by omega) (by omega), lidx_nat .empty hk]
    simp only [Option.bind_some]
    rw [if_neg (by rw [h4, up_gd hj]; exact fun h => h rfl)]
theorem flev_L {n : Nat} (hn : 2 ≤ n ∧ n ≤ 8) (L : List (List ByteArray)) (hL : L.length ≤ 1000) (h3 : ∀ i, i + 1 < L.length → n < (gl L i).length ∧ gl L (i + 1) = up n (gl L i)) (h5 : ∀ i, i < L.length → (gl L i).length ≤ 1000) (z : Int) : ∀ (f i : Nat), 1 ≤ i → i ≤ L.length → L.length - i < f →
    law21_FenceLevels_L2 L f (i : Int) n z = some true
  | 0, i, _, _, h => by omega
  | f + 1, i, h1, h2, h4 => by
    show law21_FenceLevels_B2 L (law21_FenceLevels_L2 L f) (i : Int) n z = _
    unfold law21_FenceLevels_B2
    split
    · rename_i h
      obtain ⟨g1, g2⟩ := h3 (i - 1) (by omega)
      rw [show i - 1 + 1 = i by omega] at g2
      have g3 := h5 (i - 1) (by omega)
      have e0 : lidx L (w64 ((i : Int) - 1)) = some (gl L (i - 1)) := by rw [w64_id (by omega) (by omega), show ((i : Int) - 1) = ((i - 1 : Nat) : Int) by omega, lidx_nat [] (by omega)]
      have e1 : lidx L (i : Int) = some (gl L i) := lidx_nat [] (by omega)
      rw [e0, e1, nz_ok (by omega)]
      simp only [Option.bind_some]
      rw [if_neg (show ¬ (((gl L (i - 1)).length : Int) ≤ (n : Int)) by omega)]
      have e2 : decide (((gl L i).length : Int) ≠ w64 (Int.tdiv (w64 (w64 (((gl L (i - 1)).length : Int) + n) - 1)) n)) = false := by
        rw [w64_ceil (by omega) (by omega) (by omega) (by omega), g2, up_len]
        rcases chN_int (L := (gl L (i - 1)).length) (n := n) with q | q
        · exact decide_eq_false (fun h => h q)
        · omega
      rw [e2]
      simp only [Option.bind_some]
      rw [if_neg (by decide), flev_in hn _ L hL h1 (by omega) g1 g2 g3 z (gl L i) 0 rfl]
      exact flev_L hn L hL h3 h5 z f (i + 1) (by omega) (by omega) (by omega)
    · rfl

theorem law_levels {x0 : List Int} : law21_FenceLevels x0 = some true := by
  unfold law21_FenceLevels
  rw [sane21, few_eq]
  simp only [Option.bind_some]
  rw [if_neg (by simp)]
  by_cases hl : x0.length ≤ 500
  · rw [if_neg (nb_t hl)]
    show (some (x0, (0 : Int))).bind _ = _
    simp only [Option.bind_some]
    obtain ⟨⟨b, l⟩, e, hf, hF, _, _, _, hd⟩ := fence_ok (l := x0) (by omega) (d := (x0, 0)) ⟨rfl, by dsimp only; omega, by dsimp only; omega⟩
    rw [hf]
    have hb := hF.1
    dsimp only at hb
    simp only [Option.bind_some, flevels_eq, levelsI]
    rw [if_pos hF]
    dsimp only
    obtain ⟨n, rfl⟩ : ∃ n : Nat, b = n := ⟨b.toNat, by omega⟩
    rw [Int.toNat_natCast]
    have hn : 2 ≤ n ∧ n ≤ 8 := by omega
    obtain ⟨t1, t2⟩ := tow_ok hn.1 256 l hb.2.2
    have ta := tow_asc hn.1 hb.2 hF.2
    have tl : (tow n l).length ≤ 257 := by
      have := (st_le (b := n) (n := l.length) (by omega) (by omega) 256 (by omega)).2 (by
        have e : ∀ j : Nat, (2 : Int) ^ j ≤ (n : Int) ^ j := fun j => by
          induction j with
          | zero => simp
          | succ j ih =>
            rw [Int.pow_succ, Int.pow_succ]
            have p1 : 0 < (2 : Int) ^ j := Int.pow_pos (by omega)
            exact Int.mul_le_mul ih (by omega) (by omega) (by omega)
        have := e 256
        have : (256 : Int) ≤ 2 ^ 256 := by decide
        omega)
      rw [tow_len hn.1]; omega
    have tp : 1 ≤ (tow n l).length := by unfold tow; simp
    rw [if_neg (show ¬ ((0 : Int) ≠ 0 ∨ ((tow n l).length : Int) = 0) by omega), lidx_ok [] (by omega) (by omega)]
    simp only [Option.bind_some]
    rw [show (tow n l).getD (0 : Int).toNat [] = l from rfl, samek_refl]
    simp only [Option.bind_some]
    rw [if_neg (by decide), w64_id (by omega) (by omega), show (((tow n l).length : Int) - 1) = (((tow n l).length - 1 : Nat) : Int) by omega, lidx_nat [] (by omega)]
    simp only [Option.bind_some]
    rw [show decide ((n : Int) < (((tow n l).getD ((tow n l).length - 1) []).length : Int)) = false from decide_eq_false (by unfold tow; unfold gl at t2; omega)]
    rw [if_neg (by decide)]
    exact flev_L hn (tow n l) (by omega) t1 (fun i hi => by have := ta i hi; omega) _ big 1 (by omega) tp (by simp only [big]; omega)
  · rw [if_pos (nb_f hl)]
end Go.Proofs.Ytdchjmophffphaa
