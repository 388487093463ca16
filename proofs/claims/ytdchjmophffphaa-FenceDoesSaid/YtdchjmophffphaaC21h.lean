/- Chapter 21, plain: what the document says, the law FenceDoes. -/
import Derived.Test.YtdchjmophffphaaC21e
import Derived.Test.YtdchjmophffphaaC21g
namespace Go.Proofs.Ytdchjmophffphaa

theorem rup_L {n : Nat} (hn : 2 ≤ n ∧ n ≤ 8) (kx : List ByteArray → Int → Option ((List (List ByteArray)) × Int)) {l : List ByteArray} (hl : l.length ≤ 1000) : ∀ (f k : Nat) (acc : List ByteArray), k ≤ chN l.length n → chN l.length n - k < f → acc.length + (chN l.length n - k) ≤ 10000 →
    ref21_Levels_L2 kx l (n : Int) f acc ((k * n : Nat) : Int) = kx (acc ++ (List.range (chN l.length n - k)).map fun t => gd l ((k + t) * n)) n
  | 0, k, _, _, h, _ => by omega
  | f + 1, k, acc, h1, h2, h3 => by
    show ref21_Levels_B2 kx l (n : Int) (ref21_Levels_L2 kx l (n : Int) f) acc _ = _
    unfold ref21_Levels_B2
    have hi := chN_iff (L := l.length) (k := k) (n := n) (by omega)
    split
    · have hk : k < chN l.length n := hi.2 (by omega)
      rw [lidx_nat .empty (by omega)]
      simp only [Option.bind_some]
      rw [lapp_ok (by simp; omega)]
      simp only [Option.bind_some]
      have e2 : ((k * n : Nat) : Int) + (n : Int) = (((k + 1) * n : Nat) : Int) := by rw [Nat.add_mul]; omega
      rw [w64_id (by omega) (by omega), e2, rup_L hn kx hl f (k + 1) _ (by omega) (by omega) (by simp; omega), range_from (fun t => gd l (t * n)) hk]
      simp
    · have hk : ¬ k < chN l.length n := fun h => by have := hi.1 h; omega
      rw [show chN l.length n - k = 0 by omega]; simp
theorem rlevels_L {n : Nat} (hn : 2 ≤ n ∧ n ≤ 8) : ∀ (f k : Nat) (l : List ByteArray) (acc : List (List ByteArray)), l.length ≤ k → l.length < f → acc.length + l.length ≤ 1000 →
    ref21_Levels_L3 f l acc (n : Int) = some (acc ++ lvs n k l, 0)
  | 0, k, l, acc, h1, h2, h3 => by omega
  | f + 1, k, l, acc, h1, h2, h3 => by
    show ref21_Levels_B3 (ref21_Levels_L3 f) l acc (n : Int) = _
    unfold ref21_Levels_B3
    split
    · rename_i h
      cases k with
      | zero => omega
      | succ k =>
        have hc := chN_lt hn.1 (by omega : n < l.length)
        have := rup_L hn (ref21_Levels_J1 (ref21_Levels_L3 f) acc) (l := l) (by omega) big 0 [] (by omega) (by simp only [big]; omega) (by simp; omega)
        rw [Nat.zero_mul] at this
        rw [show (0 : Int) = ((0 : Nat) : Int) from rfl, this]
        unfold ref21_Levels_J1
        simp only [List.nil_append, Nat.sub_zero, Nat.zero_add]
        rw [show ((List.range (chN l.length n)).map fun t => gd l (t * n)) = up n l from rfl, lapp_ok (by simp; omega)]
        simp only [Option.bind_some]
        rw [rlevels_L hn f k (up n l) (acc ++ [up n l]) (by rw [up_len]; omega) (by rw [up_len]; omega) (by simp [up_len]; omega)]
        simp only [lvs]
        rw [if_neg (by omega)]
        simp
    · cases k with
      | zero => simp [lvs]
      | succ k => simp only [lvs]; rw [if_pos (by omega)]; simp
theorem rlevels_eq (f : Int × List ByteArray) : ref21_Levels f = some (levelsI f) := by
  unfold ref21_Levels levelsI
  rw [rcheck_eq]
  simp only [Option.bind_some]
  by_cases hf : FenP f
  · rw [if_pos hf, if_neg (show ¬ ((0 : Int) ≠ 0) by decide), if_pos hf]
    have hb := hf.1
    rw [lapp_ok (by simp; omega)]
    simp only [Option.bind_some, List.nil_append]
    have := rlevels_L (n := f.1.toNat) (by omega) big 256 f.2 [f.2] hb.2.2 (by simp only [big]; omega) (by simp; omega)
    rw [show ((f.1.toNat : Nat) : Int) = f.1 by omega] at this
    rw [this]; rfl
  · rw [if_neg hf, if_pos (show (2 : Int) ≠ 0 by decide), if_neg hf]

theorem rprobe_L {n : Nat} {L : List (List ByteArray)} (h : Twr n L) (w : ByteArray) (kx : List Int → Int → Int → Option ((List Int) × Int × Bool × Int)) : ∀ (f m : Nat) (acc : List Int), m ≤ L.length → acc.length + m ≤ 1000 → m < f →
    ref21_Probe_L2 kx w (n : Int) L f acc (pos L w m : Int) ((m : Int) - 1) = kx (acc ++ trl L w m) (pos L w 0 : Int) n
  | 0, m, _, _, _, h => by omega
  | f + 1, m, acc, h1, h2, h3 => by
    show ref21_Probe_B2 kx w (n : Int) L (ref21_Probe_L2 kx w (n : Int) L f) acc _ _ = _
    unfold ref21_Probe_B2
    cases m with
    | zero => rw [if_neg (by omega)]; simp [trl]
    | succ m =>
      obtain ⟨p1, p2, p3⟩ := pos_step h w (by omega : m < L.length)
      have ha := h.asc m (by omega)
      have hn8 := h.n8
      rw [if_pos (by omega), lapp_ok (by simp; omega), show (((m + 1 : Nat) : Int) - 1) = (m : Int) by omega, lidx_nat [] (by omega)]
      simp only [Option.bind_some]
      rw [blk_sub' (l := gl L m) hn8 (by omega) (by omega) (by omega)]
      simp only [Option.bind_some]
      rw [rlast_eq]
      simp only [Option.bind_some]
      have e1 : (pos L w (m + 1) : Int) * (n : Int) = ((pos L w (m + 1) * n : Nat) : Int) := by simp
      have e2 := pos_lt h w m
      rw [e1, w64_id (x := ((pos L w (m + 1) * n : Nat) : Int)) (by omega) (by omega), w64_id (x := ((pos L w (m + 1) * n : Nat) : Int) + _) (by omega) (by omega), show ((pos L w (m + 1) * n : Nat) : Int) + (lastN (blk n (gl L m) (pos L w (m + 1))) w (blk n (gl L m) (pos L w (m + 1))).length : Int) = (pos L w m : Int) by omega]
      rw [w64_id (by omega) (by omega), rprobe_L h w kx f m _ (by omega) (by simp; omega) (by omega)]
      simp [trl]
theorem rprobe_eq (f : Int × List ByteArray) (w : ByteArray) : ref21_Probe f w = some (probeI f w) := by
  unfold ref21_Probe
  rw [rlevels_eq, key_eq]
  simp only [Option.bind_some, levelsI]
  by_cases hf : FenP f
  · rw [if_pos hf, if_neg (fun h => h rfl)]
    by_cases hk : KeyP w
    · rw [if_neg (nb_t hk), probeI_3 hf hk]
      have hb := hf.1
      obtain ⟨b, l⟩ := f
      dsimp only at hb ⊢
      obtain ⟨n, rfl⟩ : ∃ n : Nat, b = n := ⟨b.toNat, by omega⟩
      rw [Int.toNat_natCast]
      have T := twr (n := n) (by omega) hb.2 hf.2
      have hL := T.len
      have hP := rprobe_L T w (ref21_Probe_J1 w l) big (tow n l).length [] (Nat.le_refl _) (by simp; omega) (by simp only [big]; omega)
      rw [pos_top, pos_0] at hP
      rw [w64_id (by omega) (by omega), show (0 : Int) = ((0 : Nat) : Int) from rfl, hP]
      unfold ref21_Probe_J1
      have := lastN_le l w _ hb.2.1
      rw [lidx_nat .empty (by omega)]
      rfl
    · rw [if_pos (nb_f hk), probeI_2 hf hk]
  · rw [if_neg hf, if_pos (show (2 : Int) ≠ 0 by decide), probeI_1 hf]

theorem rrange_L {b : Int} {l : List ByteArray} (hf : FenP (b, l)) (w : ByteArray) (k : Int) (hk : 1 ≤ k ∧ k ≤ 64) (kx : List Int → Int → Option ((List Int) × Int × Int)) : ∀ (f q : Nat), (q : Int) ≤ k → k - q < f →
    ref21_Range_L2 kx k (lastN l w l.length : Int) (((l.length : Int) - 1) / b) b f (rngL b l w q) (q : Int) = kx (rngL b l w k.toNat) b
  | 0, q, _, h => by omega
  | f + 1, q, h1, h2 => by
    show ref21_Range_B2 kx k _ _ b (ref21_Range_L2 kx k _ _ b f) _ _ = _
    unfold ref21_Range_B2
    have hl := hf.1
    dsimp only at hl
    split
    · rw [nz_ok (by omega)]
      simp only [Option.bind_some]
      rw [elem_eq (by omega) hl.2 (by omega), lapp_ok (by rw [rngL_len]; simp; omega)]
      simp only [Option.bind_some]
      rw [← rngL_succ, w64_id (by omega) (by omega)]
      exact rrange_L hf w k hk kx f (q + 1) (by omega) (by omega)
    · rw [show k.toNat = q by omega]
theorem rrange_eq (f : Int × List ByteArray) (w : ByteArray) (k : Int) : ref21_Range f w k = some (rangeI f w k) := by
  unfold ref21_Range
  generalize hB : big = B
  rw [rcheck_eq, key_eq]
  simp only [Option.bind_some]
  by_cases hf : FenP f
  · rw [if_pos hf, if_neg (show ¬ ((0 : Int) ≠ 0) by decide)]
    by_cases hk : KeyP w ∧ 1 ≤ k ∧ k ≤ 64
    · rw [if_neg (by rintro ((h | h) | h); · exact nb_t hk.1 h
                     · omega
                     · omega), rangeI_3 hf hk, rprobe_eq, nz_ok (by have := hf.1; omega)]
      have hp : (probeI f w).2.1 = (lastN f.2 w f.2.length : Int) := by rw [probeI_3 hf hk.1]
      generalize probeI f w = p at hp
      simp only [Option.bind_some, hp]
      have hb := hf.1
      rw [top_eq hf.1.1.1 hf.1.2]
      have := rrange_L (b := f.1) (l := f.2) hf w k hk.2 (ref21_Range_J1 w (lastN f.2 w f.2.length : Int) f.2) B 0 (by omega) (by rw [← hB]; simp only [big]; omega)
      rw [show rngL f.1 f.2 w 0 = [] from rfl, show ((0 : Nat) : Int) = 0 from rfl] at this
      rw [this]
      unfold ref21_Range_J1
      have hlt := lastN_le f.2 w _ hb.2.1
      rw [lidx_nat .empty (by omega)]
      simp only [Option.bind_some]
      unfold fstN
      split
      · rw [w64_id (by omega) (by omega)]; simp
      · simp
    · rw [rangeI_2 hf hk, if_pos (by
        by_cases h : KeyP w
        · rcases Int.lt_or_le k 1 with h3 | h3
          · exact .inl (.inr h3)
          · rcases Int.lt_or_le 64 k with h4 | h4
            · exact .inr h4
            · exact absurd ⟨h, h3, h4⟩ hk
        · exact .inl (.inl (nb_f h)))]
  · rw [if_neg hf, if_pos (show (2 : Int) ≠ 0 by decide), rangeI_1 hf]

theorem same_L {z : List Int} : ∀ (xs : List Int) (i : Nat), z.drop i = xs → ref04_Same_L1 z xs i = some true
  | [], _, _ => rfl
  | x :: xs, i, h => by
    show ref04_Same_B1 z (ref04_Same_L1 z xs (i + 1)) x i = _
    unfold ref04_Same_B1
    rw [drop_idx h, same_L xs (i + 1) (drop_succ h)]
    simp
theorem same_refl (l : List Int) : ref04_Same l l = some true := by
  unfold ref04_Same
  rw [if_neg (by simp)]
  exact same_L l 0 rfl

theorem does1 : ∀ xs, law21_FenceDoes_L1 xs = some true
  | [] => rfl
  | x :: xs => by
    show law21_FenceDoes_B1 (law21_FenceDoes_L1 xs) x = _
    unfold law21_FenceDoes_B1
    rw [steps_eq, rsteps_eq, does1 xs]
    simp
theorem does3 (rec : Int → Int → Int → Int → Option Bool) (w : ByteArray) {l : List ByteArray} (hl : l.length ≤ 1000000) (a b c d : Int) : ∀ xs, law21_FenceDoes_L3 rec w l a b c d xs = rec a b c d
  | [] => rfl
  | x :: xs => by
    show law21_FenceDoes_B3 rec w l a b c d (law21_FenceDoes_L3 rec w l a b c d xs) x = _
    unfold law21_FenceDoes_B3
    rw [fnext_eq _ _ _ (by omega), rnext_eq _ _ _ (by omega), does3 rec w hl a b c d xs]
    simp
theorem does4 (rec : Int → Int → Int → Int → Option Bool) (z1 z2 : Int) (w : ByteArray) : ∀ (xs : List (List ByteArray)) (a b c d : Int), (∀ l ∈ xs, l.length ≤ 1000000) → law21_FenceDoes_L4 rec z1 z2 w xs a b c d = rec a b c d
  | [], _, _, _, _, _ => rfl
  | x :: xs, a, b, c, d, h => by
    show law21_FenceDoes_B4 rec z1 z2 w (law21_FenceDoes_L4 rec z1 z2 w xs) x a b c d = _
    unfold law21_FenceDoes_B4
    rw [mod_ok (by omega) (by omega)]
    simp only [Option.bind_some]
    rw [does3 _ _ (h x (List.mem_cons_self ..))]
    exact does4 rec z1 z2 w xs a b c d (fun l hl => h l (List.mem_cons_of_mem _ hl))
theorem does6 (kx : Int → Int → Int → Int → Option Bool) (w : ByteArray) (a b : Int) (l : List ByteArray) (c d : Int) : ∀ xs, law21_FenceDoes_L6 kx w a b l c d xs = kx a b c d
  | [] => rfl
  | x :: xs => by
    show law21_FenceDoes_B6 kx w a b l c d (law21_FenceDoes_L6 kx w a b l c d xs) x = _
    unfold law21_FenceDoes_B6
    rw [range_eq, rrange_eq, does6 kx w a b l c d xs]
    simp [same_refl]
theorem does7 (rec : Int → List Int → Int → Int → Option Bool) (z1 z2 : Int) {l1 l2 : List ByteArray} (h1 : l1.length ≤ 1000000) (h2 : l2.length ≤ 1000000) (dk : List Int) (l : List ByteArray) : ∀ (xs : List ByteArray) (a b c d : Int), law21_FenceDoes_L7 rec z1 z2 l1 l2 dk l xs a b c d = rec c dk a d
  | [], _, _, _, _ => rfl
  | x :: xs, a, b, c, d => by
    show law21_FenceDoes_B7 rec z1 z2 l1 l2 dk l (law21_FenceDoes_L7 rec z1 z2 l1 l2 dk l xs) x a b c d = _
    unfold law21_FenceDoes_B7
    rw [fprobe_eq, rprobe_eq]
    simp only [Option.bind_some]
    rw [if_neg (by simp), same_refl, mod_ok (by omega) (by omega)]
    simp only [Option.bind_some]
    rw [if_neg (by simp), does6]
    unfold law21_FenceDoes_J5
    rw [does4 _ _ _ _ _ _ _ _ _ (fun l hl => by simp at hl; rcases hl with rfl | rfl <;> assumption)]
    exact does7 rec z1 z2 h1 h2 dk l xs a b c d
theorem does9 (kx : Int → Int → Int → Int → Option Bool) (L : List (List ByteArray)) (a b c d : Int) : ∀ (xs : List (List ByteArray)) (i : Nat), L.drop i = xs → law21_FenceDoes_L9 kx L a b c d xs i = kx a b c d
  | [], _, _ => rfl
  | x :: xs, i, h => by
    show law21_FenceDoes_B9 kx L a b c d (law21_FenceDoes_L9 kx L a b c d xs (i + 1)) x i = _
    unfold law21_FenceDoes_B9
    rw [drop_idx h]
    simp only [Option.bind_some]
    rw [samek_refl, does9 kx L a b c d xs (i + 1) (drop_succ h)]
    rfl
theorem does10 {dk : List Int} (hdk : dk.length ≤ 1000) (kx : Int → List Int → Int → Int → Option Bool) (hkx : ∀ a b c, kx a dk b c = some true) (w : ByteArray) (z1 z2 : Int) {l1 l2 : List ByteArray} (h1 : l1.length ≤ 1000000) (h2 : l2.length ≤ 1000000) : ∀ (xs : List (Int × List ByteArray)) (a p d : Int), Dk dk (dk, p) →
    law21_FenceDoes_L10 kx w z1 z2 l1 l2 xs a dk p d = some true
  | [], _, _, _, _ => hkx _ _ _
  | x :: xs, a, p, d, hd => by
    show law21_FenceDoes_B10 kx w z1 z2 l1 l2 (law21_FenceDoes_L10 kx w z1 z2 l1 l2 xs) x a dk p d = _
    unfold law21_FenceDoes_B10
    rw [flevels_eq, rlevels_eq, check_eq, rcheck_eq]
    simp only [Option.bind_some]
    rw [if_neg (by simp), does9 _ _ _ _ _ _ (levelsI x).1 0 rfl]
    unfold law21_FenceDoes_J8
    obtain ⟨s, ⟨e1, e2⟩, he, hw, hd2⟩ := word_ok hdk hd
    rw [he]
    simp only [Option.bind_some]
    obtain ⟨hq, hd3⟩ := id hd2
    dsimp only at hq hd3
    subst hq
    rw [does7 _ _ _ h1 h2]
    exact does10 hdk kx hkx w z1 z2 h1 h2 xs a e2 d hd2

theorem law_does {x0 : List Int} {x1 : Int × List ByteArray} {x2 : ByteArray} {x3 x4 x5 : Int} {x6 : List ByteArray} : law21_FenceDoes x0 x1 x2 x3 x4 x5 x6 = some true := by
  unfold law21_FenceDoes
  rw [sane21, few_eq]
  simp only [Option.bind_some]
  rw [if_neg (by simp)]
  split
  · rfl
  · rename_i hh
    have hl : x0.length ≤ 500 := by
      apply Classical.byContradiction
      intro h
      exact hh (.inl (.inl (.inl (nb_f h))))
    have h6 : (x6.length : Int) ≤ 60 := by
      rcases Int.lt_or_le 60 (x6.length : Int) with h | h
      · exact absurd (.inl (.inr h)) hh
      · exact h
    show (some (x0, (0 : Int))).bind _ = _
    simp only [Option.bind_some]
    obtain ⟨⟨b, l⟩, ⟨e1, e2⟩, hf, hF, _, h25, hwd, hd⟩ := fence_ok (l := x0) (by omega) (d := (x0, 0)) ⟨rfl, by dsimp only; omega, by dsimp only; omega⟩
    rw [hf]
    have hb := hF.1
    dsimp only at hb h25 hwd
    simp only [Option.bind_some]
    rw [lsub_ok (by omega) (by omega) (by omega)]
    simp only [Option.bind_some]
    obtain ⟨hq, hd3⟩ := id hd
    dsimp only at hq hd3
    subst hq
    exact does10 (by omega) _ (fun a c d => by
      unfold law21_FenceDoes_J2
      rw [mod_ok (by omega) (by omega), mod_ok (by omega) (by omega)]
      exact does1 _) x2 x3 x4 (by omega) (by simp; omega) _ _ _ _ hd
end Go.Proofs.Ytdchjmophffphaa
