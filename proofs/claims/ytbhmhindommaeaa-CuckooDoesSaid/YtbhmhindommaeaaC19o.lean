/- Chapter 19, plain: CuckooPlaces. -/
import Derived.Test.YtbhmhindommaeaaC19n
namespace Go.Proofs.Ytbhmhindommaeaa
set_option linter.unusedVariables false

theorem placesL_cons {l : List Int} {ls : List (List Int)} {fixed : List Bool} (hr : ∀ m ∈ l :: ls, ∀ b ∈ m, 0 ≤ b ∧ b < (fixed.length : Int)) :
    PlacesL (l :: ls) fixed ↔ ∃ b ∈ l, at' false fixed b = false ∧ PlacesL ls (fixed.set b.toNat true) := by
  constructor
  · rintro ⟨ps, h1, h2, h3⟩
    cases ps with
    | nil => cases h1
    | cons p qs =>
      simp only [List.map_cons, List.cons.injEq] at h1
      obtain ⟨h4, h5⟩ := h2 p List.mem_cons_self
      have hp := hr l List.mem_cons_self p.1 (h1.1 ▸ h4)
      refine ⟨p.1, h1.1 ▸ h4, h5, qs, h1.2, fun q hq => ?_, (List.nodup_cons.1 h3).2⟩
      obtain ⟨h6, h7⟩ := h2 q (List.mem_cons_of_mem _ hq)
      have hq2 : q.2 ∈ l :: ls := List.mem_cons_of_mem _ (h1.2 ▸ List.mem_map_of_mem hq)
      refine ⟨h6, ?_⟩
      rw [at_set false hp.1 hp.2 (hr _ hq2 _ h6).1, if_neg, h7]
      intro e
      exact (List.nodup_cons.1 h3).1 (List.mem_map.2 ⟨q, hq, e⟩)
  · rintro ⟨b, hb, hf, qs, h1, h2, h3⟩
    have hbb := hr l List.mem_cons_self b hb
    refine ⟨(b, l) :: qs, by simp [h1], fun p hp => ?_, ?_⟩
    · rcases List.mem_cons.1 hp with rfl | hp
      · exact ⟨hb, hf⟩
      · obtain ⟨h6, h7⟩ := h2 p hp
        have hq2 : p.2 ∈ l :: ls := List.mem_cons_of_mem _ (h1 ▸ List.mem_map_of_mem hp)
        rw [at_set false hbb.1 hbb.2 (hr _ hq2 _ h6).1] at h7
        refine ⟨h6, ?_⟩
        by_cases e : p.1 = b
        · rw [if_pos e] at h7; cases h7
        · rwa [if_neg e] at h7
    · simp only [List.map_cons, List.nodup_cons]
      refine ⟨fun hm => ?_, h3⟩
      obtain ⟨p, hp, e⟩ := List.mem_map.1 hm
      obtain ⟨h6, h7⟩ := h2 p hp
      have e : p.1 = b := e
      rw [e, at_set false hbb.1 hbb.2 hbb.1, if_pos rfl] at h7
      cases h7

theorem possible_L {h : Hsh} (rec : Hsh → List Int → List Bool → Option (Bool × List Bool)) (x : Int) (l : List Int) {used : List Bool} (hu : (used.length : Int) = h.1) (hl : l.length ≤ 1000)
    (ih : ∀ u : List Bool, (u.length : Int) = h.1 → ∃ r v, rec h l u = some (r, v) ∧ (r = true ↔ PlacesL (l.map (homeL h)) u) ∧ (r = false → v = u)) :
    ∀ bs : List Int, (∀ b ∈ bs, 0 ≤ b ∧ b < h.1) → ∃ r v, law19_possible_L1 rec (x :: l) h.1 h.2 bs used = some (r, v) ∧ (r = true ↔ ∃ b ∈ bs, at' false used b = false ∧ PlacesL (l.map (homeL h)) (used.set b.toNat true)) ∧ (r = false → v = used)
  | [], _ => ⟨false, used, rfl, by simp, fun _ => rfl⟩
  | b :: bs, hb => by
    obtain ⟨b0, bB⟩ := hb b List.mem_cons_self
    obtain ⟨r, v, e, hr, hv⟩ := possible_L (h := h) rec x l hu hl ih bs fun c hc => hb c (List.mem_cons_of_mem _ hc)
    rw [law19_possible_L1]
    unfold law19_possible_B1
    rw [at_idx false b0 (by omega)]
    simp only [Option.bind_some]
    by_cases hf : at' false used b = true
    · rw [if_pos hf, e]
      refine ⟨r, v, rfl, ?_, hv⟩
      rw [hr]
      constructor
      · rintro ⟨c, hc, h1, h2⟩; exact ⟨c, List.mem_cons_of_mem _ hc, h1, h2⟩
      · rintro ⟨c, hc, h1, h2⟩
        rcases List.mem_cons.1 hc with rfl | hc
        · rw [hf] at h1; cases h1
        · exact ⟨c, hc, h1, h2⟩
    · have hf' : at' false used b = false := by simpa using hf
      rw [if_neg hf, lupd_ok b0 (by omega)]
      simp only [Option.bind_some]
      rw [lsub_ok (by omega) (by simp only [List.length_cons]; omega) (by omega)]
      simp only [Option.bind_some]
      have hd : ((x :: l).drop (1 : Int).toNat).take (((x :: l).length : Int) - 1).toNat = l := by
        simp
      rw [hd]
      obtain ⟨r2, v2, e2, hr2, hv2⟩ := ih (used.set b.toNat true) (by simpa using hu)
      rw [show (h.1, h.2) = h from rfl, e2]
      simp only [Option.bind_some]
      cases r2 with
      | true =>
        rw [if_pos rfl]
        exact ⟨true, v2, rfl, ⟨fun _ => ⟨b, List.mem_cons_self, hf', hr2.1 rfl⟩, fun _ => rfl⟩, fun hq => by cases hq⟩
      | false =>
        rw [if_neg (by simp), hv2 rfl, at_idx false b0 (by simp; omega), lupd_ok b0 (by simp; omega)]
        simp only [Option.bind_some]
        rw [List.set_set, set_at false b0 (by omega) hf', e]
        refine ⟨r, v, rfl, ?_, hv⟩
        rw [hr]
        constructor
        · rintro ⟨c, hc, h1, h2⟩; exact ⟨c, List.mem_cons_of_mem _ hc, h1, h2⟩
        · rintro ⟨c, hc, h1, h2⟩
          rcases List.mem_cons.1 hc with rfl | hc
          · have := hr2.2 h2; cases this
          · exact ⟨c, hc, h1, h2⟩

theorem possible_ok {h : Hsh} (hk : HshOK h) : ∀ (l : List Int) (m : Nat) (used : List Bool), l.length < m → l.length ≤ 1000 → (∀ n ∈ l, ItemOK n) → (used.length : Int) = h.1 →
    ∃ r v, law19_possible_R m h l used = some (r, v) ∧ (r = true ↔ PlacesL (l.map (homeL h)) used) ∧ (r = false → v = used)
  | [], m, used, hm, hl, hi, hu => by
    obtain ⟨m, rfl⟩ : ∃ k, m = k + 1 := ⟨m - 1, by simp at hm; omega⟩
    refine ⟨true, used, ?_, ⟨fun _ => ⟨[], rfl, by simp, List.nodup_nil⟩, fun _ => rfl⟩, fun hq => by cases hq⟩
    rw [law19_possible_R]; unfold law19_possible_B2; rw [if_pos (by simp)]
  | x :: l, m, used, hm, hl, hi, hu => by
    obtain ⟨m, rfl⟩ : ∃ k, m = k + 1 := ⟨m - 1, by omega⟩
    simp only [List.length_cons] at hm hl
    rw [law19_possible_R]
    unfold law19_possible_B2
    rw [if_neg (by simp only [List.length_cons]; omega), at_idx 0 (by omega) (by simp only [List.length_cons]; omega)]
    simp only [Option.bind_some]
    have hx : at' 0 (x :: l) 0 = x := rfl
    rw [hx, rhomes_ok hk (hi x List.mem_cons_self)]
    simp only [Option.bind_some]
    obtain ⟨r, v, e, hr, hv⟩ := possible_L (h := h) (law19_possible_R m) x l hu (by omega) (fun u hu' => possible_ok hk l m u (by omega) (by omega) (fun n hn => hi n (List.mem_cons_of_mem _ hn)) hu') (homeL h x) (homeL_range hk x)
    refine ⟨r, v, e, ?_, hv⟩
    rw [hr, List.map_cons, placesL_cons]
    intro m hm b hb
    rcases List.mem_cons.1 hm with rfl | hm
    · rw [hu]; exact homeL_range hk x b hb
    · obtain ⟨y, _, rfl⟩ := List.mem_map.1 hm
      rw [hu]; exact homeL_range hk y b hb

theorem places_L1 {h : Hsh} (hk : HshOK h) {l : List Int} (hl : ∀ n ∈ l, ItemOK n) (hlen : l.length ≤ 1000) (rec : List Bool → Int → Int → Option Bool) {i : Nat} (hi : i < l.length) (z : Int) {bk : Bk} (hb : (bk.length : Int) = h.1) {b : Int} {post : List Int} {fixed : List Bool} (hf : (fixed.length : Int) = h.1)
    (b0 : 0 ≤ b) (bB : b < h.1) (ha : at' (-1) bk b = i) :
    ∀ pre : List Int, (∀ c ∈ pre, (0 ≤ c ∧ c < h.1) ∧ at' (-1) bk c ≠ i ∧ (at' false fixed c = true ∨ ¬ Placeable (l.map (homeL h)) (fixed.set c.toNat true) (i + 1))) →
      law19_CuckooPlaces_L1 rec (i : Int) l z h.1 h.2 bk (pre ++ b :: post) fixed = rec (fixed.set b.toNat true) z h.1
  | [], _ => by
    rw [List.nil_append, law19_CuckooPlaces_L1]
    unfold law19_CuckooPlaces_B1
    rw [at_idx (-1) b0 (by omega)]
    simp only [Option.bind_some]
    rw [if_pos ha, at_idx false b0 (by omega), lupd_ok b0 (by omega)]
    rfl
  | c :: pre, hp => by
    obtain ⟨⟨c0, cB⟩, hc, hor⟩ := hp c List.mem_cons_self
    have ih := places_L1 hk hl hlen rec hi z hb (post := post) hf b0 bB ha pre fun d hd => hp d (List.mem_cons_of_mem _ hd)
    rw [List.cons_append, law19_CuckooPlaces_L1]
    unfold law19_CuckooPlaces_B1
    rw [at_idx (-1) c0 (by omega)]
    simp only [Option.bind_some]
    rw [if_neg hc, at_idx false c0 (by omega)]
    simp only [Option.bind_some]
    by_cases hfc : at' false fixed c = true
    · rw [if_pos hfc]; exact ih
    · have hfc' : at' false fixed c = false := by simpa using hfc
      rw [if_neg hfc, lupd_ok c0 (by omega)]
      simp only [Option.bind_some]
      rw [w64_id (by omega) (by omega), lsub_ok (by omega) (by omega) (by omega)]
      simp only [Option.bind_some]
      have hd : (l.drop ((i : Int) + 1).toNat).take ((l.length : Int) - ((i : Int) + 1)).toNat = l.drop (i + 1) := by
        rw [show ((i : Int) + 1).toNat = i + 1 from by omega, List.take_of_length_le (by simp; omega)]
      rw [hd, lapp_ok (by simp; have := hk.2.1; omega), List.nil_append]
      simp only [Option.bind_some]
      obtain ⟨r, v, e, hr, hv⟩ := possible_ok hk (l.drop (i + 1)) big (fixed.set c.toNat true) (by simp only [big, List.length_drop]; omega) (by simp; omega) (fun n hn => hl n (List.mem_of_mem_drop hn)) (by simpa using hf)
      have hnp : ¬ Placeable (l.map (homeL h)) (fixed.set c.toNat true) (i + 1) := by
        rcases hor with h1 | h1
        · exact absurd h1 hfc
        · exact h1
      have hrf : r = false := by
        cases r with
        | false => rfl
        | true =>
          have h1 := hr.1 rfl
          rw [List.map_drop, ← placesL_of, placeable_drop (by simp; omega)] at h1
          exact absurd (by exact_mod_cast h1) hnp
      have e' : law19_possible (h.1, h.2) (l.drop (i + 1)) (fixed.set c.toNat true) = some (r, v) := e
      rw [e', hrf]
      simp only [Option.bind_some]
      rw [if_neg (by simp), at_idx false c0 (by simp; omega), lupd_ok c0 (by simp; omega)]
      simp only [Option.bind_some]
      rw [List.set_set, set_at false c0 (by omega) hfc']
      exact ih

theorem homes_ok' {h : Hsh} (hk : HshOK h) {n : Int} (hn : ItemOK n) : cuckoo_Homes h n = some (homeL h n, 0) := by
  unfold cuckoo_Homes
  rcases check_ok h with ⟨e, _⟩ | ⟨_, hc⟩
  · rw [e]
    simp only [Option.bind_some]
    have hi : cuckoo_item n = some true := by unfold cuckoo_item ItemOK at *; simp [hn]
    rw [if_neg (by simp), hi]
    simp only [Option.bind_some]
    rw [if_neg (by simp), homes_ok hk hn]; rfl
  · exact absurd hk hc

theorem places_L2 {h : Hsh} (hk : HshOK h) {l : List Int} (hl : ∀ n ∈ l, ItemOK n) (hlen : l.length ≤ 1000) {bk : Bk} (hA : Asg h.1 (l.map (homeL h)) bk) (z : Int) :
    ∀ (xs : List Int) (n : Nat) (fixed : List Bool), l.drop n = xs → (fixed.length : Int) = h.1 → Greedy (l.map (homeL h)) n (xs.map (homeL h)) fixed bk →
      law19_CuckooPlaces_L2 l h.2 bk xs n fixed z h.1 = some true
  | [], n, fixed, _, _, _ => rfl
  | x :: xs, n, fixed, hd, hf, ⟨pre, b, post, e1, f1, a1, n1, p1, g1⟩ => by
    have hn : n < l.length := by
      rcases Nat.lt_or_ge n l.length with h | h
      · exact h
      · rw [List.drop_eq_nil_of_le h] at hd; cases hd
    have hd' : l.drop (n + 1) = xs := by rw [← List.drop_drop, hd]; rfl
    have hxm : x ∈ l := List.mem_of_mem_drop (hd ▸ List.mem_cons_self)
    have hrg := homeL_range hk x
    have hb := hA.ok.1
    have hbm : b ∈ homeL h x := by rw [e1]; simp
    obtain ⟨b0, bB⟩ := hrg b hbm
    rw [law19_CuckooPlaces_L2]
    unfold law19_CuckooPlaces_B2
    rw [homes_ok' (h := (h.1, h.2)) hk (hl x hxm)]
    simp only [Option.bind_some]
    rw [if_neg (by simp), show homeL (h.1, h.2) x = homeL h x from rfl, e1]
    rw [places_L1 hk hl hlen _ hn z hb hf b0 bB a1 pre]
    · exact places_L2 hk hl hlen hA z xs (n + 1) _ hd' (by simpa using hf) (by exact_mod_cast g1)
    · intro c hc
      have hcr := hrg c (by rw [e1]; simp [hc])
      refine ⟨hcr, fun hcb => ?_, n1 c hc⟩
      by_cases hcb' : c = b
      · rcases n1 c hc with h1 | h1
        · rw [hcb', f1] at h1; cases h1
        · rw [hcb'] at h1; exact h1 p1
      · have h1 := at_count (l := bk) ⟨hcr.1, by omega⟩ ⟨b0, by omega⟩ hcb a1 hcb'
        have h2 := hA.le n (by omega)
        omega

theorem law_places (t : List Int) : law19_CuckooPlaces t = some true := by
  unfold law19_CuckooPlaces make_Few make_New
  rw [sane19]
  simp only [Option.bind_some, Bool.not_true, Bool.false_eq_true, if_false]
  by_cases hf : (t.length : Int) ≤ 500
  · rw [if_neg (by simp [hf])]
    have hl : t.length ≤ 1000 := by omega
    obtain ⟨h, e1, k1, hk, h8, d1⟩ := hashing_ok hl (d := (t, 0)) ⟨rfl, by omega, by omega⟩
    rw [k1]
    simp only [Option.bind_some]
    obtain ⟨l, e2, k2, d2, hlen, hr⟩ := items_ok hl d1 (B := h.1) ⟨hk.1, by omega⟩
    rw [k2]
    simp only [Option.bind_some]
    have hit : ∀ n ∈ l, ItemOK n := fun n hn => by have := hr n hn; unfold ItemOK; omega
    have h1 := hk.1
    have hm : lmk h.1 false = some (nofix h) := by unfold lmk nofix; rw [if_pos (by omega)]
    obtain ⟨r, v, ep, hp, _⟩ := possible_ok hk l big (nofix h) (by simp only [big]; omega) (by omega) hit (by unfold nofix; simp; omega)
    have ep' : law19_possible h l (nofix h) = some (r, v) := ep
    rw [← placesL_of] at hp
    rcases assign_ok h l (by omega) with ⟨a, _⟩ | ⟨_, ⟨n, hn, a⟩, _⟩ | ⟨_, _, a, _⟩ | ⟨_, _, _, a1, a2, _⟩ | ⟨_, _, _, a1, bk, fx, a2, _, a3, a4⟩
    · exact absurd hk a
    · exact absurd (hit n hn) a
    · omega
    · have hrf : r = false := by
        cases r with
        | false => rfl
        | true => exact absurd (hp.1 rfl) a1
      rw [a2]
      simp only [Option.bind_some]
      rw [hm]
      simp only [Option.bind_some]
      rw [ep', hrf]
      simp
    · have hrt : r = true := hp.2 a1
      rw [a2]
      simp only [Option.bind_some]
      rw [hm]
      simp only [Option.bind_some]
      rw [ep', hrt]
      simp only [Option.bind_some]
      rw [if_neg (by simp), if_neg (by simp)]
      have hA := asg_of (homesOK hk l) a3 a4
      rw [fits_yes hk hit (by omega) hA]
      simp only [Option.bind_some, Bool.not_true, Bool.false_eq_true, if_false]
      exact places_L2 hk hit (by omega) hA _ l 0 (nofix h) rfl (by unfold nofix; simp; omega) a4
  · rw [if_pos (by simp [hf])]
end Go.Proofs.Ytbhmhindommaeaa
