/- Plain texts, merged. -/
import Derived.Test.YtbhmhindommaeaaMk0

/- Chapter 19, plain: placing by augmenting paths (cuckoo.place). -/
namespace Go.Proofs.Ytbhmhindommaeaa
set_option linter.unusedVariables false

/-- What stands at a place. -/
def at' {α : Type} (d : α) (l : List α) (b : Int) : α := l.getD b.toNat d
theorem at_idx {α : Type} (d : α) {l : List α} {b : Int} (h0 : 0 ≤ b) (h1 : b < l.length) : lidx l b = some (at' d l b) := lidx_ok d h0 h1
theorem at_set {α : Type} (d : α) {l : List α} {b c : Int} {y : α} (h0 : 0 ≤ b) (h1 : b < l.length) (hc : 0 ≤ c) : at' d (l.set b.toNat y) c = if c = b then y else at' d l c := by
  unfold at'
  rw [List.getD_eq_getElem?_getD, List.getElem?_set]
  by_cases h : c = b
  · subst h; rw [if_pos rfl, if_pos rfl, if_pos (by omega)]; rfl
  · rw [if_neg (by omega), if_neg h, List.getD_eq_getElem?_getD]
theorem at_mem {α : Type} (d : α) {l : List α} {b : Int} (h0 : 0 ≤ b) (h1 : b < l.length) : at' d l b ∈ l := by
  unfold at'
  rw [List.getD_eq_getElem?_getD, List.getElem?_eq_getElem (by omega)]
  exact List.getElem_mem _
theorem at_of_mem {α : Type} (d : α) {l : List α} {x : α} (h : x ∈ l) : ∃ b : Int, 0 ≤ b ∧ b < l.length ∧ at' d l b = x := by
  obtain ⟨i, hi, rfl⟩ := List.getElem_of_mem h
  refine ⟨i, by omega, by omega, ?_⟩
  unfold at'
  rw [Int.toNat_natCast, List.getD_eq_getElem?_getD, List.getElem?_eq_getElem hi]; rfl
theorem count_setN {α : Type} [DecidableEq α] (d j y : α) : ∀ (l : List α) (n : Nat), n < l.length → (l.set n y).count j + (if l.getD n d = j then 1 else 0) = l.count j + (if y = j then 1 else 0)
  | [], n, h => by simp at h
  | x :: l, 0, h => by
    simp only [List.set_cons_zero, List.getD_cons_zero, List.count_cons, beq_iff_eq]
    omega
  | x :: l, n + 1, h => by
    have := count_setN d j y l n (by simpa using h)
    simp only [List.set_cons_succ, List.getD_cons_succ, List.count_cons]
    omega
theorem count_set' {α : Type} [DecidableEq α] (d : α) (j y : α) {l : List α} {b : Int} (h0 : 0 ≤ b) (h1 : b < l.length) : (l.set b.toNat y).count j + (if at' d l b = j then 1 else 0) = l.count j + (if y = j then 1 else 0) :=
  count_setN d j y l b.toNat (by omega)
theorem count_false_lt {l : List Bool} {b : Int} (h0 : 0 ≤ b) (h1 : b < l.length) (h : at' false l b = false) : (l.set b.toNat true).count false + 1 = l.count false := by
  have := count_set' false false true h0 h1
  rw [h] at this
  simpa using this
theorem count_le_of {s t : List Bool} (hl : s.length = t.length) (h : ∀ b : Int, 0 ≤ b → b < s.length → at' false s b = true → at' false t b = true) : t.count false ≤ s.count false := by
  induction s generalizing t with
  | nil => cases t with
    | nil => simp
    | cons _ _ => simp at hl
  | cons x s ih =>
    cases t with
    | nil => simp at hl
    | cons y t =>
      simp only [List.length_cons, Nat.add_right_cancel_iff] at hl
      have h1 := ih hl fun b h0 hb ht => by
        have := h (b + 1) (by omega) (by simp; omega)
        have e : (b + 1).toNat = b.toNat + 1 := by omega
        simp only [at', e, List.getD_cons_succ] at this
        exact this ht
      have h2 := h 0 (by omega) (by simp only [List.length_cons]; omega)
      simp only [at', Int.toNat_zero, List.getD_cons_zero] at h2
      simp only [List.count_cons]
      cases x <;> cases y
      · simp; omega
      · simp; omega
      · exact absurd (h2 rfl) (by simp)
      · simp; omega

/-- Homes in B buckets. -/
def HomesOK (B : Int) (homes : List (List Int)) : Prop := ∀ l ∈ homes, ∀ b ∈ l, 0 ≤ b ∧ b < B
/-- Buckets that hold items, or -1. -/
def BkOK (B : Int) (homes : List (List Int)) (bk : List Int) : Prop := (bk.length : Int) = B ∧ ∀ v ∈ bk, -1 ≤ v ∧ v < homes.length

abbrev Bk := List Int
/-- What a search that succeeds leaves. -/
structure Won (B : Int) (homes : List (List Int)) (fixed seen : List Bool) (i : Int) (bk bk' : Bk) : Prop where
  ok : BkOK B homes bk'
  still : ∀ b, 0 ≤ b → b < B → (at' false seen b = true ∨ at' false fixed b = true) → at' (-1) bk' b = at' (-1) bk b
  kept : ∀ b, 0 ≤ b → b < B → 0 ≤ at' (-1) bk b → 0 ≤ at' (-1) bk' b
  edge : ∀ b, 0 ≤ b → b < B → at' (-1) bk' b = at' (-1) bk b ∨ (0 ≤ at' (-1) bk' b ∧ b ∈ at' [] homes (at' (-1) bk' b))
  count : ∀ j, 0 ≤ j → bk'.count j = bk.count j + if i = j then 1 else 0
/-- What a search that fails has seen. -/
structure Lost (B : Int) (homes : List (List Int)) (fixed seen seen' : List Bool) (hs : List Int) (bk : Bk) : Prop where
  all : ∀ b ∈ hs, at' false fixed b = true ∨ at' false seen' b = true
  closed : ∀ b, 0 ≤ b → b < B → at' false seen' b = true → at' false seen b = false → 0 ≤ at' (-1) bk b ∧ at' false fixed b = false ∧ ∀ c ∈ at' [] homes (at' (-1) bk b), at' false fixed c = true ∨ at' false seen' c = true

def SeenLe (B : Int) (s t : List Bool) : Prop := ∀ b, 0 ≤ b → b < B → at' false s b = true → at' false t b = true

theorem place_loop (B : Int) (homes : List (List Int)) (fixed : List Bool) (hh : HomesOK B homes) (hf : (fixed.length : Int) = B) (i : Int) (hi : 0 ≤ i ∧ i < homes.length) (m : Nat)
    (ih : ∀ (i : Int) (seen : List Bool) (bk : Bk), 0 ≤ i → i < homes.length → (seen.length : Int) = B → BkOK B homes bk → seen.count false < m → ∃ r bk' seen', cuckoo_placing_place_R m (homes, bk, fixed) i seen = some (r, bk', seen') ∧ (seen'.length : Int) = B ∧ SeenLe B seen seen' ∧
      (r = true → Won B homes fixed seen i bk bk') ∧ (r = false → bk' = bk ∧ Lost B homes fixed seen seen' (at' [] homes i) bk)) :
    ∀ (hs : List Int) (seen : List Bool) (bk : Bk), (∀ b ∈ hs, b ∈ at' [] homes i) → (seen.length : Int) = B → BkOK B homes bk → seen.count false < m + 1 →
      ∃ r bk' seen', cuckoo_placing_place_L1 (cuckoo_placing_place_R m) i homes fixed hs seen bk = some (r, bk', seen') ∧ (seen'.length : Int) = B ∧ SeenLe B seen seen' ∧
        (r = true → Won B homes fixed seen i bk bk') ∧ (r = false → bk' = bk ∧ Lost B homes fixed seen seen' hs bk)
  | [], seen, bk, _, hs, hb, _ => ⟨false, bk, seen, rfl, hs, fun _ _ _ h => h, by simp, fun _ => ⟨rfl, by simp, fun b _ _ h1 h2 => by rw [h1] at h2; cases h2⟩⟩
  | b :: hs, seen, bk, hm, hs', hb, hc => by
    have hbi : b ∈ at' [] homes i := hm b List.mem_cons_self
    obtain ⟨b0, bB⟩ := hh _ (at_mem [] hi.1 hi.2) b hbi
    have ih2 := fun seen bk => place_loop B homes fixed hh hf i hi m ih hs seen bk (fun c h => hm c (List.mem_cons_of_mem _ h))
    rw [cuckoo_placing_place_L1]
    unfold cuckoo_placing_place_B1
    rw [at_idx false b0 (by omega), at_idx false b0 (by omega)]
    simp only [Option.bind_some]
    have hskip : (at' false seen b = true ∨ at' false fixed b = true) → ∃ r bk' seen', cuckoo_placing_place_L1 (cuckoo_placing_place_R m) i homes fixed hs seen bk = some (r, bk', seen') ∧ (seen'.length : Int) = B ∧ SeenLe B seen seen' ∧
        (r = true → Won B homes fixed seen i bk bk') ∧ (r = false → bk' = bk ∧ Lost B homes fixed seen seen' (b :: hs) bk) := fun hsf => by
      obtain ⟨r, bk', seen', e, h1, h2, h3, h4⟩ := ih2 seen bk hs' hb hc
      refine ⟨r, bk', seen', e, h1, h2, h3, fun hr => ⟨(h4 hr).1, fun c hc' => ?_, (h4 hr).2.closed⟩⟩
      rcases List.mem_cons.1 hc' with rfl | hc'
      · rcases hsf with h | h
        · exact .inr (h2 _ b0 bB h)
        · exact .inl h
      · exact (h4 hr).2.all c hc'
    by_cases h1 : at' false seen b = true
    · rw [if_pos h1]; simp only [Option.bind_some, if_true]; exact hskip (.inl h1)
    · rw [if_neg h1]
      simp only [Option.bind_some]
      by_cases h2 : at' false fixed b = true
      · rw [if_pos h2]; exact hskip (.inr h2)
      · rw [if_neg h2, at_idx (-1) b0 (by rw [hb.1]; exact bB)]
        simp only [Option.bind_some]
        have h1' : at' false seen b = false := by simpa using h1
        have h2' : at' false fixed b = false := by simpa using h2
        have hbl : b < bk.length := by rw [hb.1]; exact bB
        by_cases h3 : at' (-1) bk b < 0
        · rw [if_pos h3, lupd_ok b0 hbl]
          simp only [Option.bind_some]
          refine ⟨true, _, seen, rfl, hs', fun _ _ _ h => h, fun _ => ⟨⟨by simpa using hb.1, fun v hv => ?_⟩, fun c c0 cB hc' => ?_, fun c c0 cB hc' => ?_, fun c c0 cB => ?_, fun j hj => ?_⟩, by simp⟩
          · rcases List.mem_or_eq_of_mem_set hv with h | rfl
            · exact hb.2 v h
            · omega
          · rw [at_set (-1) b0 hbl c0]
            split
            · rename_i e; subst e; rcases hc' with h | h
              · rw [h1'] at h; cases h
              · rw [h2'] at h; cases h
            · rfl
          · rw [at_set (-1) b0 hbl c0]; split
            · exact hi.1
            · exact hc'
          · rw [at_set (-1) b0 hbl c0]; split
            · rename_i e; subst e; exact .inr ⟨hi.1, hbi⟩
            · exact .inl rfl
          · have := count_set' (-1) j i b0 hbl
            rw [if_neg (by omega : ¬ at' (-1) bk b = j)] at this
            simpa using this
        · rw [if_neg h3, lupd_ok b0 (by omega)]
          simp only [Option.bind_some]
          have hlt : b < seen.length := by omega
          have ho := hb.2 _ (at_mem (-1) b0 hbl)
          obtain ⟨r, bk1, seen1, e1, l1, m1, w1, f1⟩ := ih (at' (-1) bk b) (seen.set b.toNat true) bk (by omega) ho.2 (by simpa using hs') hb (by have := count_false_lt b0 hlt h1'; omega)
          rw [e1]
          simp only [Option.bind_some]
          have hsb : at' false (seen.set b.toNat true) b = true := by rw [at_set false b0 hlt b0, if_pos rfl]
          have hle : SeenLe B seen (seen.set b.toNat true) := fun c c0 cB h => by rw [at_set false b0 hlt c0]; split; rfl; exact h
          cases r with
          | true =>
            have hw := w1 rfl
            have hb1 : b < bk1.length := by rw [hw.ok.1]; exact bB
            rw [if_pos rfl, at_idx (-1) b0 hb1]
            simp only [Option.bind_some]
            rw [lupd_ok b0 hb1]
            simp only [Option.bind_some]
            have hst : at' (-1) bk1 b = at' (-1) bk b := hw.still b b0 bB (.inl hsb)
            refine ⟨true, _, seen1, rfl, l1, fun c c0 cB h => m1 c c0 cB (hle c c0 cB h), fun _ => ⟨⟨by simpa using hw.ok.1, fun v hv => ?_⟩, fun c c0 cB hc' => ?_, fun c c0 cB hc' => ?_, fun c c0 cB => ?_, fun j hj => ?_⟩, by simp⟩
            · rcases List.mem_or_eq_of_mem_set hv with h | rfl
              · exact hw.ok.2 v h
              · omega
            · rw [at_set (-1) b0 hb1 c0]
              split
              · rename_i e; subst e; rcases hc' with h | h
                · rw [h1'] at h; cases h
                · rw [h2'] at h; cases h
              · exact hw.still c c0 cB (hc'.imp (hle c c0 cB) id)
            · rw [at_set (-1) b0 hb1 c0]; split
              · exact hi.1
              · exact hw.kept c c0 cB hc'
            · rw [at_set (-1) b0 hb1 c0]; split
              · rename_i e; subst e; exact .inr ⟨hi.1, hbi⟩
              · exact hw.edge c c0 cB
            · have h5 := count_set' (-1) j i b0 hb1
              have h6 := hw.count j hj
              rw [hst] at h5
              omega
          | false =>
            rw [if_neg (by simp)]
            obtain ⟨rfl, hlost⟩ := f1 rfl
            have hcle := count_le_of (s := seen.set b.toNat true) (t := seen1) (by rw [List.length_set]; omega) (fun c c0 cl h => m1 c c0 (by simp at cl; omega) h)
            have hcl := count_false_lt b0 hlt h1'
            obtain ⟨r, bk2, seen2, e2, l2, m2, w2, f2⟩ := ih2 seen1 bk1 l1 hb (by omega)
            refine ⟨r, bk2, seen2, e2, l2, fun c c0 cB h => m2 c c0 cB (m1 c c0 cB (hle c c0 cB h)), fun hr => ?_, fun hr => ?_⟩
            · have hw := w2 hr
              exact ⟨hw.ok, fun c c0 cB hc' => hw.still c c0 cB (hc'.imp (fun h => m1 c c0 cB (hle c c0 cB h)) id), hw.kept, hw.edge, hw.count⟩
            · obtain ⟨rfl, hl2⟩ := f2 hr
              refine ⟨rfl, fun c hc' => ?_, fun c c0 cB hs2 hs0 => ?_⟩
              · rcases List.mem_cons.1 hc' with rfl | hc'
                · exact .inr (m2 _ b0 bB (m1 _ b0 bB hsb))
                · exact hl2.all c hc'
              · have hup : ∀ x ∈ at' [] homes (at' (-1) bk2 c), 0 ≤ at' (-1) bk2 c → (at' false fixed x = true ∨ at' false seen1 x = true) → at' false fixed x = true ∨ at' false seen2 x = true := fun x hx h0 h => by
                  have hv := hb.2 _ (at_mem (-1) c0 (by rw [hb.1]; exact cB))
                  obtain ⟨x0, xB⟩ := hh _ (at_mem [] h0 hv.2) x hx
                  exact h.imp id (m2 x x0 xB)
                by_cases hs1 : at' false seen1 c = true
                · by_cases hcb : c = b
                  · subst hcb
                    refine ⟨by omega, h2', fun x hx => hup x hx (by omega) (hlost.all x hx)⟩
                  · have hs3 : at' false (seen.set b.toNat true) c = false := by rw [at_set false b0 hlt c0, if_neg hcb]; exact hs0
                    obtain ⟨g1, g2, g3⟩ := hlost.closed c c0 cB hs1 hs3
                    exact ⟨g1, g2, fun x hx => hup x hx g1 (g3 x hx)⟩
                · exact hl2.closed c c0 cB hs2 (by simpa using hs1)

theorem place_ok (B : Int) (homes : List (List Int)) (fixed : List Bool) (hh : HomesOK B homes) (hf : (fixed.length : Int) = B) : ∀ (m : Nat) (i : Int) (seen : List Bool) (bk : Bk), 0 ≤ i → i < homes.length → (seen.length : Int) = B → BkOK B homes bk → seen.count false < m →
    ∃ r bk' seen', cuckoo_placing_place_R m (homes, bk, fixed) i seen = some (r, bk', seen') ∧ (seen'.length : Int) = B ∧ SeenLe B seen seen' ∧ (r = true → Won B homes fixed seen i bk bk') ∧ (r = false → bk' = bk ∧ Lost B homes fixed seen seen' (at' [] homes i) bk)
  | 0, i, seen, bk, _, _, _, _, h => by omega
  | m + 1, i, seen, bk, h0, h1, hs, hb, hc => by
    rw [cuckoo_placing_place_R]
    unfold cuckoo_placing_place_B2
    rw [at_idx [] h0 h1]
    simp only [Option.bind_some]
    exact place_loop B homes fixed hh hf i ⟨h0, h1⟩ m (place_ok B homes fixed hh hf m) _ seen bk (fun _ h => h) hs hb hc
end Go.Proofs.Ytbhmhindommaeaa

/- Chapter 19, plain: all items are placed exactly if they can be (cuckoo.all, cuckoo.rest). -/
namespace Go.Proofs.Ytbhmhindommaeaa
set_option linter.unusedVariables false

theorem pig : ∀ {l m : List Int}, l.Nodup → (∀ x ∈ l, x ∈ m) → l.length ≤ m.length
  | [], m, _, _ => by simp
  | x :: l, m, hn, hs => by
    obtain ⟨h1, h2⟩ := List.nodup_cons.1 hn
    have hx := hs x List.mem_cons_self
    have h3 := pig (l := l) (m := m.erase x) h2 fun y hy => by
      have hne : y ≠ x := fun e => h1 (e ▸ hy)
      exact (List.mem_erase_of_ne hne).2 (hs y (List.mem_cons_of_mem _ hy))
    have h4 := List.length_erase_of_mem hx
    have h5 : 0 < m.length := List.length_pos_of_mem hx
    simp only [List.length_cons]; omega

theorem nodup_map {α β : Type} {f : α → β} : ∀ {l : List α}, l.Nodup → (∀ x ∈ l, ∀ y ∈ l, f x = f y → x = y) → (l.map f).Nodup
  | [], _, _ => by simp
  | x :: l, hn, hi => by
    obtain ⟨h1, h2⟩ := List.nodup_cons.1 hn
    rw [List.map_cons, List.nodup_cons]
    refine ⟨fun hm => ?_, nodup_map h2 fun a ha b hb => hi a (List.mem_cons_of_mem _ ha) b (List.mem_cons_of_mem _ hb)⟩
    obtain ⟨y, hy, e⟩ := List.mem_map.1 hm
    have := hi y (List.mem_cons_of_mem _ hy) x List.mem_cons_self e
    exact h1 (this ▸ hy)

theorem at_count {l : List Int} {b c j : Int} (hb : 0 ≤ b ∧ b < l.length) (hc : 0 ≤ c ∧ c < l.length) (h1 : at' (-1) l b = j) (h2 : at' (-1) l c = j) (hne : b ≠ c) : 2 ≤ l.count j := by
  have h3 := count_set' (-1) j (j + 1) hb.1 hb.2
  rw [if_pos h1, if_neg (by omega)] at h3
  have h4 : at' (-1) (l.set b.toNat (j + 1)) c = j := by rw [at_set (-1) hb.1 hb.2 hc.1, if_neg (fun e => hne e.symm)]; exact h2
  have h5 := at_mem (-1) (l := l.set b.toNat (j + 1)) hc.1 (by simpa using hc.2)
  rw [h4] at h5
  have := List.count_pos_iff.2 h5
  omega
theorem at_count1 {l : List Int} {b j : Int} (hb : 0 ≤ b ∧ b < l.length) (h1 : at' (-1) l b = j) : 1 ≤ l.count j := List.count_pos_iff.2 (h1 ▸ at_mem (-1) hb.1 hb.2)

/-- f places the items from a on in buckets that are not fixed. -/
def Places (homes : List (List Int)) (fixed : List Bool) (a : Int) (f : Int → Int) : Prop :=
  (∀ j, a ≤ j → j < homes.length → f j ∈ at' [] homes j ∧ at' false fixed (f j) = false) ∧ ∀ j k, a ≤ j → j < homes.length → a ≤ k → k < homes.length → f j = f k → j = k
def Placeable (homes : List (List Int)) (fixed : List Bool) (a : Int) : Prop := ∃ f, Places homes fixed a f

/-- The items from a to i stand in buckets; none from i on. -/
structure Stand (B : Int) (homes : List (List Int)) (fixed : List Bool) (a i : Int) (bk : Bk) : Prop where
  ok : BkOK B homes bk
  le : ∀ j, 0 ≤ j → bk.count j ≤ 1
  one : ∀ j, a ≤ j → j < i → bk.count j = 1
  none : ∀ j, i ≤ j → bk.count j = 0
  free : ∀ b, 0 ≤ b → b < B → at' false fixed b = false → 0 ≤ at' (-1) bk b → a ≤ at' (-1) bk b ∧ b ∈ at' [] homes (at' (-1) bk b)
  fix : ∀ b, 0 ≤ b → b < B → at' false fixed b = true → at' (-1) bk b < a

theorem Stand.places {B : Int} {homes : List (List Int)} {fixed : List Bool} {a : Int} {bk : Bk} (ha : 0 ≤ a) (h : Stand B homes fixed a homes.length bk) : Placeable homes fixed a := by
  classical
  have hex : ∀ j, a ≤ j → j < homes.length → ∃ b, 0 ≤ b ∧ b < B ∧ at' (-1) bk b = j := fun j h1 h2 => by
    have hm : j ∈ bk := List.count_pos_iff.1 (by rw [h.one j h1 h2]; omega)
    obtain ⟨b, h3, h4, h5⟩ := at_of_mem (-1) hm
    exact ⟨b, h3, by rw [← h.ok.1]; exact h4, h5⟩
  refine ⟨fun j => if hj : ∃ b, 0 ≤ b ∧ b < B ∧ at' (-1) bk b = j then hj.choose else 0, fun j h1 h2 => ?_, fun j k h1 h2 h3 h4 e => ?_⟩
  · have hj := hex j h1 h2
    have := hj.choose_spec
    simp only [dif_pos hj]
    obtain ⟨b0, bB, hb⟩ := this
    by_cases hfx : at' false fixed hj.choose = true
    · have := h.fix _ b0 bB hfx; omega
    · have hfx' : at' false fixed hj.choose = false := by simpa using hfx
      refine ⟨?_, hfx'⟩
      have := (h.free _ b0 bB hfx' (by omega)).2
      rwa [hb] at this
  · have hj := hex j h1 h2
    have hk := hex k h3 h4
    simp only [dif_pos hj, dif_pos hk] at e
    rw [← hj.choose_spec.2.2, ← hk.choose_spec.2.2, e]

/-- What a search that fails has seen shows that there is no way. -/
theorem no_way {B : Int} {homes : List (List Int)} {fixed seen seen' : List Bool} {a i : Int} {bk : Bk} (hh : HomesOK B homes) (hs : Stand B homes fixed a i bk) (ha : 0 ≤ a ∧ a ≤ i) (hi : i < homes.length) (h0 : ∀ b, 0 ≤ b → b < B → at' false seen b = false)
    (hl : Lost B homes fixed seen seen' (at' [] homes i) bk) : ¬ Placeable homes fixed a := by
  rintro ⟨f, hf1, hf2⟩
  let R : List Int := ((List.range B.toNat).map fun (b : Nat) => (b : Int)).filter fun b => at' false seen' b
  have hR : ∀ b, b ∈ R ↔ (0 ≤ b ∧ b < B) ∧ at' false seen' b = true := fun b => by
    simp only [R, List.mem_filter, List.mem_map, List.mem_range]
    constructor
    · rintro ⟨⟨n, hn, rfl⟩, h⟩; exact ⟨⟨by omega, by omega⟩, h⟩
    · rintro ⟨⟨h1, h2⟩, h⟩; exact ⟨⟨b.toNat, by omega, by omega⟩, h⟩
  have hRn : R.Nodup := List.Pairwise.filter _ (nodup_map List.nodup_range fun x _ y _ e => by omega)
  have hcl : ∀ b ∈ R, 0 ≤ at' (-1) bk b ∧ at' false fixed b = false ∧ ∀ c ∈ at' [] homes (at' (-1) bk b), at' false fixed c = true ∨ at' false seen' c = true := fun b hb => by
    obtain ⟨⟨b0, bB⟩, h⟩ := (hR b).1 hb
    exact hl.closed b b0 bB h (h0 b b0 bB)
  have hin : ∀ b ∈ R, a ≤ at' (-1) bk b ∧ at' (-1) bk b < i := fun b hb => by
    obtain ⟨⟨b0, bB⟩, h⟩ := (hR b).1 hb
    obtain ⟨g1, g2, _⟩ := hcl b hb
    refine ⟨(hs.free b b0 bB g2 g1).1, ?_⟩
    rcases Int.lt_or_le (at' (-1) bk b) i with h | h
    · exact h
    · have h1 := hs.none _ h
      have h2 := at_count1 (l := bk) ⟨b0, by rw [hs.ok.1]; exact bB⟩ rfl
      omega
  -- the items that are in the way, and the new one
  have hXn : (i :: R.map fun b => at' (-1) bk b).Nodup := by
    refine List.nodup_cons.2 ⟨fun hm => ?_, nodup_map hRn fun x hx y hy e => ?_⟩
    · obtain ⟨b, hb, e⟩ := List.mem_map.1 hm
      have := (hin b hb).2; omega
    · rcases Decidable.em (x = y) with h | h
      · exact h
      · obtain ⟨⟨x0, xB⟩, _⟩ := (hR x).1 hx
        obtain ⟨⟨y0, yB⟩, _⟩ := (hR y).1 hy
        have h1 := at_count (l := bk) ⟨x0, by rw [hs.ok.1]; exact xB⟩ ⟨y0, by rw [hs.ok.1]; exact yB⟩ rfl e.symm h
        have h2 := hs.one _ (hin x hx).1 (hin x hx).2
        omega
  have hXr : ∀ x ∈ (i :: R.map fun b => at' (-1) bk b), (a ≤ x ∧ x < homes.length) ∧ f x ∈ R := fun x hx => by
    rcases List.mem_cons.1 hx with rfl | hx
    · obtain ⟨h1, h2⟩ := hf1 x ha.2 hi
      refine ⟨⟨ha.2, hi⟩, (hR _).2 ⟨hh _ (at_mem [] (by omega) hi) _ h1, ?_⟩⟩
      rcases hl.all _ h1 with h | h
      · rw [h2] at h; cases h
      · exact h
    · obtain ⟨b, hb, rfl⟩ := List.mem_map.1 hx
      have hr := hin b hb
      obtain ⟨h1, h2⟩ := hf1 _ hr.1 (by omega)
      refine ⟨⟨hr.1, by omega⟩, (hR _).2 ⟨hh _ (at_mem [] (by omega) (by omega)) _ h1, ?_⟩⟩
      rcases (hcl b hb).2.2 _ h1 with h | h
      · rw [h2] at h; cases h
      · exact h
  have h1 := pig (nodup_map (f := f) hXn fun x hx y hy e => hf2 x y (hXr x hx).1.1 (hXr x hx).1.2 (hXr y hy).1.1 (hXr y hy).1.2 e) (m := R) (fun y hy => by
    obtain ⟨x, hx, rfl⟩ := List.mem_map.1 hy
    exact (hXr x hx).2)
  simp at h1
  omega

theorem Stand.won {B : Int} {homes : List (List Int)} {fixed seen : List Bool} {a i : Int} {bk bk' : Bk} (hs : Stand B homes fixed a i bk) (ha : 0 ≤ a ∧ a ≤ i) (hw : Won B homes fixed seen i bk bk') : Stand B homes fixed a (i + 1) bk' where
  ok := hw.ok
  le j h := by
    rw [hw.count j h]
    by_cases he : i = j
    · rw [if_pos he, hs.none j (by omega)]; omega
    · rw [if_neg he]; exact hs.le j h
  one j h1 h2 := by
    rw [hw.count j (by omega)]
    by_cases h : i = j
    · rw [if_pos h, hs.none j (by omega)]
    · rw [if_neg h, hs.one j h1 (by omega)]
  none j h := by rw [hw.count j (by omega), if_neg (by omega), hs.none j (by omega)]
  free b b0 bB hf hb := by
    rcases hw.edge b b0 bB with h | ⟨_, h⟩
    · rw [h] at hb ⊢; exact hs.free b b0 bB hf hb
    · refine ⟨?_, h⟩
      -- it is i, or stood somewhere
      rcases Int.lt_or_le (at' (-1) bk' b) a with hlt | hge
      · exfalso
        have hne : i ≠ at' (-1) bk' b := by omega
        have h1 := hw.count _ hb
        rw [if_neg hne] at h1
        have h2 := at_count1 (l := bk') ⟨b0, by rw [hw.ok.1]; exact bB⟩ rfl
        have hm : at' (-1) bk' b ∈ bk := List.count_pos_iff.1 (by omega)
        obtain ⟨c, c0, cB, hc⟩ := at_of_mem (-1) hm
        have cB' : c < B := by rw [← hs.ok.1]; exact cB
        by_cases hfc : at' false fixed c = true
        · -- c is fixed, and holds it still; so do two buckets
          have h3 := hw.still c c0 cB' (.inr hfc)
          have hbc : b ≠ c := fun e => by subst e; rw [hf] at hfc; cases hfc
          have h4 := at_count (l := bk') ⟨b0, by rw [hw.ok.1]; exact bB⟩ ⟨c0, by rw [hw.ok.1]; exact cB'⟩ rfl (by rw [h3, hc]) hbc
          have h5 := hs.le _ hb
          omega
        · have := (hs.free c c0 cB' (by simpa using hfc) (by rw [hc]; exact hb)).1
          rw [hc] at this; omega
      · exact hge
  fix b b0 bB hf := by rw [hw.still b b0 bB (.inr hf)]; exact hs.fix b b0 bB hf

theorem all_L (B : Int) (homes : List (List Int)) (fixed : List Bool) (hh : HomesOK B homes) (hf : (fixed.length : Int) = B) (hB : B ≤ 1000) (hn : (homes.length : Int) ≤ 100000) (a : Int) (ha : 0 ≤ a) :
    ∀ (m : Nat) (i : Int) (bk : Bk), a ≤ i → i ≤ homes.length → (homes.length : Int) - i < m → Stand B homes fixed a i bk →
      ∃ r bk', cuckoo_placing_all_L1 homes fixed m i bk = some (r, bk') ∧ (r = true → Stand B homes fixed a homes.length bk' ∧ ∀ b, 0 ≤ b → b < B → at' false fixed b = true → at' (-1) bk' b = at' (-1) bk b) ∧ (r = true ↔ Placeable homes fixed a)
  | 0, i, bk, _, h2, h3, _ => by omega
  | m + 1, i, bk, h1, h2, h3, hs => by
    rw [cuckoo_placing_all_L1]
    unfold cuckoo_placing_all_B1
    by_cases hi : i < homes.length
    · rw [if_pos hi]
      have hbl := hs.ok.1
      have hmk : lmk (bk.length : Int) false = some (List.replicate bk.length false) := by
        unfold lmk; rw [if_pos (by omega), Int.toNat_natCast]
      rw [hmk]
      simp only [Option.bind_some]
      have h0 : ∀ b, 0 ≤ b → b < B → at' false (List.replicate bk.length false) b = false := fun b b0 bB => by
        unfold at'
        rw [List.getD_eq_getElem?_getD, List.getElem?_replicate]; split <;> rfl
      obtain ⟨r, bk1, seen1, e, l1, m1, w1, f1⟩ := place_ok B homes fixed hh hf big i (List.replicate bk.length false) bk (by omega) hi (by simpa using hbl) hs.ok (by
        have := List.count_le_length (a := false) (l := List.replicate bk.length false)
        rw [List.length_replicate] at this
        simp only [big]; omega)
      unfold cuckoo_placing_place
      rw [e]
      simp only [Option.bind_some]
      cases r with
      | true =>
        simp only [Bool.not_true, Bool.false_eq_true, if_false]
        rw [w64_id (by omega) (by omega)]
        have hw := w1 rfl
        obtain ⟨r, bk2, e2, g1, g2⟩ := all_L B homes fixed hh hf hB hn a ha m (i + 1) bk1 (by omega) (by omega) (by omega) (hs.won ⟨ha, h1⟩ hw)
        exact ⟨r, bk2, e2, fun hr => ⟨(g1 hr).1, fun b b0 bB hb => by rw [(g1 hr).2 b b0 bB hb, hw.still b b0 bB (.inr hb)]⟩, g2⟩
      | false =>
        simp only [Bool.not_false, if_true]
        obtain ⟨rfl, hl⟩ := f1 rfl
        exact ⟨false, bk1, rfl, by simp, by simp [no_way hh hs ⟨ha, h1⟩ hi h0 hl]⟩
    · rw [if_neg hi]
      have : i = homes.length := by omega
      subst this
      exact ⟨true, bk, rfl, fun _ => ⟨hs, fun _ _ _ _ => rfl⟩, by simp [hs.places ha]⟩

theorem all_ok {B : Int} {homes : List (List Int)} {fixed : List Bool} (hh : HomesOK B homes) (hf : (fixed.length : Int) = B) (hB : B ≤ 1000) (hn : (homes.length : Int) ≤ 100000) {a : Int} (ha : 0 ≤ a ∧ a ≤ homes.length) {bk : Bk} (hs : Stand B homes fixed a a bk) :
    ∃ r bk', cuckoo_placing_all (homes, bk, fixed) a = some (r, bk') ∧ (r = true → Stand B homes fixed a homes.length bk' ∧ ∀ b, 0 ≤ b → b < B → at' false fixed b = true → at' (-1) bk' b = at' (-1) bk b) ∧ (r = true ↔ Placeable homes fixed a) := by
  unfold cuckoo_placing_all
  exact all_L B homes fixed hh hf hB hn a ha.1 big a bk (Int.le_refl _) ha.2 (by simp only [big]; omega) hs
end Go.Proofs.Ytbhmhindommaeaa

/- Chapter 19, plain: the first assignment (cuckoo.rest, cuckoo.first). -/
namespace Go.Proofs.Ytbhmhindommaeaa
set_option linter.unusedVariables false

/-- The buckets that are fixed hold items below i, the others none. -/
structure Fst (B : Int) (homes : List (List Int)) (fixed : List Bool) (i : Int) (bk : Bk) : Prop where
  ok : BkOK B homes bk
  len : (fixed.length : Int) = B
  le : ∀ j, 0 ≤ j → bk.count j ≤ 1
  fix : ∀ b, 0 ≤ b → b < B → (at' false fixed b = true ↔ 0 ≤ at' (-1) bk b)
  lt : ∀ b, 0 ≤ b → b < B → at' (-1) bk b < i

theorem Fst.stand {B : Int} {homes : List (List Int)} {fixed : List Bool} {i : Int} {bk : Bk} (h : Fst B homes fixed i bk) : Stand B homes fixed i i bk where
  ok := h.ok
  le := h.le
  one j h1 h2 := by omega
  none j hj := by
    rcases Nat.eq_zero_or_pos (bk.count j) with h0 | h0
    · exact h0
    · obtain ⟨b, b0, bB, e⟩ := at_of_mem (-1) (List.count_pos_iff.1 h0)
      have := h.lt b b0 (by rw [← h.ok.1]; exact bB)
      omega
  free b b0 bB hf hb := by have := (h.fix b b0 bB).2 hb; rw [hf] at this; cases this
  fix b b0 bB _ := h.lt b b0 bB

theorem set_at {α : Type} (d : α) {l : List α} {b : Int} {y : α} (h0 : 0 ≤ b) (h1 : b < l.length) (h : at' d l b = y) : l.set b.toNat y = l := by
  have hlt : b.toNat < l.length := by omega
  have : l[b.toNat] = y := by
    rw [← h]; unfold at'; rw [List.getD_eq_getElem?_getD, List.getElem?_eq_getElem hlt]; rfl
  rw [← this]; exact List.set_getElem_self hlt

theorem rest_loop {B : Int} {homes : List (List Int)} {fixed : List Bool} {i : Int} {bk : Bk} (h : Fst B homes fixed i bk) (kx : List Int → Option Bool) : ∀ (xs : List Int) (n : Nat), bk.drop n = xs → cuckoo_placing_rest_L2 kx fixed xs n bk = kx bk
  | [], n, _ => rfl
  | x :: xs, n, hd => by
    have hn : n < bk.length := by
      rcases Nat.lt_or_ge n bk.length with h | h
      · exact h
      · rw [List.drop_eq_nil_of_le h] at hd; cases hd
    have hd' : bk.drop (n + 1) = xs := by rw [← List.drop_drop, hd]; rfl
    have hb := h.ok.1
    have hl := h.len
    rw [cuckoo_placing_rest_L2]
    unfold cuckoo_placing_rest_B2
    rw [at_idx false (by omega) (by omega)]
    simp only [Option.bind_some]
    by_cases hf : at' false fixed (n : Int) = true
    · rw [hf]; simp only [Bool.not_true, Bool.false_eq_true, if_false]
      exact rest_loop h kx xs (n + 1) hd'
    · have hf' : at' false fixed (n : Int) = false := by simpa using hf
      rw [hf']; simp only [Bool.not_false, if_true]
      have hneg : at' (-1) bk (n : Int) = -1 := by
        have h1 : ¬ 0 ≤ at' (-1) bk (n : Int) := fun hh => hf ((h.fix n (by omega) (by omega)).2 hh)
        have h2 := (h.ok.2 _ (at_mem (-1) (l := bk) (b := (n : Int)) (by omega) (by omega))).1
        omega
      rw [at_idx (-1) (by omega) (by omega), lupd_ok (by omega) (by omega)]
      simp only [Option.bind_some]
      rw [set_at (-1) (by omega) (by omega) hneg]
      exact rest_loop h kx xs (n + 1) hd'

theorem rest_ok {B : Int} {homes : List (List Int)} {fixed : List Bool} {i : Int} {bk : Bk} (hh : HomesOK B homes) (hB : B ≤ 1000) (hn : (homes.length : Int) ≤ 100000) (hi : 0 ≤ i ∧ i ≤ homes.length) (h : Fst B homes fixed i bk) :
    ∃ r, cuckoo_placing_rest (homes, bk, fixed) i = some r ∧ (r = true ↔ Placeable homes fixed i) := by
  obtain ⟨r, bk', e, _, h2⟩ := all_ok hh h.len hB hn hi h.stand
  refine ⟨r, ?_, h2⟩
  have hb := h.ok.1
  unfold cuckoo_placing_rest slices_Clone_Lintint
  rw [lapp_ok (by simp; omega)]
  simp only [Option.bind_some, List.nil_append]
  rw [rest_loop h _ bk 0 rfl]
  unfold cuckoo_placing_rest_J1
  rw [e]; rfl

theorem Fst.take {B : Int} {homes : List (List Int)} {fixed : List Bool} {i b : Int} {bk : Bk} (h : Fst B homes fixed i bk) (hi : 0 ≤ i ∧ i < homes.length) (hb : 0 ≤ b ∧ b < B) (hf : at' false fixed b = false) : Fst B homes (fixed.set b.toNat true) (i + 1) (bk.set b.toNat i) := by
  have hbl : b < bk.length := by rw [h.ok.1]; exact hb.2
  have hfl : b < fixed.length := by rw [h.len]; exact hb.2
  have hneg : ¬ 0 ≤ at' (-1) bk b := fun hh => by have := (h.fix b hb.1 hb.2).2 hh; rw [hf] at this; cases this
  refine ⟨⟨by simpa using h.ok.1, fun v hv => ?_⟩, by simpa using h.len, fun j hj => ?_, fun c c0 cB => ?_, fun c c0 cB => ?_⟩
  · rcases List.mem_or_eq_of_mem_set hv with h1 | rfl
    · exact h.ok.2 v h1
    · omega
  · have h1 := count_set' (-1) j i hb.1 hbl
    rw [if_neg (by omega : ¬ at' (-1) bk b = j)] at h1
    by_cases he : i = j
    · rw [if_pos he] at h1
      have := h.stand.none j (by omega)
      omega
    · rw [if_neg he] at h1; have := h.le j hj; omega
  · rw [at_set false hb.1 hfl c0, at_set (-1) hb.1 hbl c0]
    by_cases he : c = b
    · rw [if_pos he, if_pos he]; simp; exact hi.1
    · rw [if_neg he, if_neg he]; exact h.fix c c0 cB
  · rw [at_set (-1) hb.1 hbl c0]; split
    · omega
    · have := h.lt c c0 cB; omega

theorem Fst.more {B : Int} {homes : List (List Int)} {fixed : List Bool} {i : Int} {bk : Bk} (h : Fst B homes fixed i bk) : Fst B homes fixed (i + 1) bk :=
  ⟨h.ok, h.len, h.le, h.fix, fun b b0 bB => by have := h.lt b b0 bB; omega⟩

/-- If the first item has no home that leaves a way, there is none. -/
theorem Placeable.step {homes : List (List Int)} {fixed : List Bool} {i : Int} {B : Int} (hh : HomesOK B homes) (hf : (fixed.length : Int) = B) (hi : 0 ≤ i ∧ i < homes.length) :
    Placeable homes fixed i ↔ ∃ b ∈ at' [] homes i, at' false fixed b = false ∧ Placeable homes (fixed.set b.toNat true) (i + 1) := by
  constructor
  · rintro ⟨f, h1, h2⟩
    obtain ⟨hm, hfr⟩ := h1 i (Int.le_refl _) hi.2
    obtain ⟨b0, bB⟩ := hh _ (at_mem [] hi.1 hi.2) _ hm
    refine ⟨f i, hm, hfr, f, fun j hj hn => ?_, fun j k hj hn hk hkn e => h2 j k (by omega) hn (by omega) hkn e⟩
    obtain ⟨hm2, hfr2⟩ := h1 j (by omega) hn
    obtain ⟨c0, cB⟩ := hh _ (at_mem [] (by omega) hn) _ hm2
    refine ⟨hm2, ?_⟩
    rw [at_set false b0 (by omega) c0, if_neg]
    · exact hfr2
    · intro e; have := h2 j i (by omega) hn (Int.le_refl _) hi.2 e; omega
  · rintro ⟨b, hm, hfr, f, h1, h2⟩
    obtain ⟨b0, bB⟩ := hh _ (at_mem [] hi.1 hi.2) _ hm
    have hne : ∀ j, i + 1 ≤ j → j < homes.length → f j ≠ b := fun j hj hn e => by
      obtain ⟨hm2, hfr2⟩ := h1 j hj hn
      rw [e, at_set false b0 (by omega) b0, if_pos rfl] at hfr2; cases hfr2
    refine ⟨fun j => if j = i then b else f j, fun j hj hn => ?_, fun j k hj hn hk hkn e => ?_⟩
    · by_cases he : j = i
      · subst he; simp only [if_true]; exact ⟨hm, hfr⟩
      · simp only [if_neg he]
        obtain ⟨hm2, hfr2⟩ := h1 j (by omega) hn
        obtain ⟨c0, cB⟩ := hh _ (at_mem [] (by omega) hn) _ hm2
        rw [at_set false b0 (by omega) c0, if_neg (hne j (by omega) hn)] at hfr2
        exact ⟨hm2, hfr2⟩
    · by_cases he : j = i <;> by_cases hek : k = i
      · omega
      · simp only [he, if_true, if_neg hek] at e; exact absurd e.symm (hne k (by omega) hkn)
      · simp only [hek, if_true, if_neg he] at e; exact absurd e (hne j (by omega) hn)
      · simp only [if_neg he, if_neg hek] at e; exact h2 j k (by omega) hn (by omega) hkn e

/-- bk gives the items from i on (their homes: hs) the first homes that leave a way. -/
def Greedy (homes : List (List Int)) : Int → List (List Int) → List Bool → Bk → Prop
  | _, [], _, _ => True
  | i, h :: hs, fixed, bk => ∃ pre b post, h = pre ++ b :: post ∧ at' false fixed b = false ∧ at' (-1) bk b = i ∧ (∀ c ∈ pre, at' false fixed c = true ∨ ¬ Placeable homes (fixed.set c.toNat true) (i + 1)) ∧
    Placeable homes (fixed.set b.toNat true) (i + 1) ∧ Greedy homes (i + 1) hs (fixed.set b.toNat true) bk

theorem first_L1 {B : Int} {homes : List (List Int)} (hh : HomesOK B homes) (hB : B ≤ 1000) (hn : (homes.length : Int) ≤ 100000) (i : Int) (hi : 0 ≤ i ∧ i < homes.length) (rec : List Int → List Bool → Option (Bool × List Int × List Bool)) {fixed : List Bool} {bk : Bk} (h : Fst B homes fixed i bk) :
    ∀ hs : List Int, (∀ b ∈ hs, 0 ≤ b ∧ b < B) →
      (cuckoo_placing_first_L1 rec i homes hs bk fixed = some (false, bk, fixed) ∧ ∀ c ∈ hs, at' false fixed c = true ∨ ¬ Placeable homes (fixed.set c.toNat true) (i + 1)) ∨
      ∃ pre b post, hs = pre ++ b :: post ∧ at' false fixed b = false ∧ (∀ c ∈ pre, at' false fixed c = true ∨ ¬ Placeable homes (fixed.set c.toNat true) (i + 1)) ∧ Placeable homes (fixed.set b.toNat true) (i + 1) ∧
        cuckoo_placing_first_L1 rec i homes hs bk fixed = rec (bk.set b.toNat i) (fixed.set b.toNat true)
  | [], _ => .inl ⟨rfl, by simp⟩
  | b :: hs, hr => by
    obtain ⟨b0, bB⟩ := hr b List.mem_cons_self
    have hbl : b < bk.length := by rw [h.ok.1]; exact bB
    have hfl : b < fixed.length := by rw [h.len]; exact bB
    have ih := first_L1 hh hB hn i hi rec h hs fun c hc => hr c (List.mem_cons_of_mem _ hc)
    have hskip : (at' false fixed b = true ∨ ¬ Placeable homes (fixed.set b.toNat true) (i + 1)) → cuckoo_placing_first_L1 rec i homes (b :: hs) bk fixed = cuckoo_placing_first_L1 rec i homes hs bk fixed →
        (cuckoo_placing_first_L1 rec i homes (b :: hs) bk fixed = some (false, bk, fixed) ∧ ∀ c ∈ b :: hs, at' false fixed c = true ∨ ¬ Placeable homes (fixed.set c.toNat true) (i + 1)) ∨
      ∃ pre b' post, b :: hs = pre ++ b' :: post ∧ at' false fixed b' = false ∧ (∀ c ∈ pre, at' false fixed c = true ∨ ¬ Placeable homes (fixed.set c.toNat true) (i + 1)) ∧ Placeable homes (fixed.set b'.toNat true) (i + 1) ∧
        cuckoo_placing_first_L1 rec i homes (b :: hs) bk fixed = rec (bk.set b'.toNat i) (fixed.set b'.toNat true) := fun hno e => by
      rw [e]
      rcases ih with ⟨h1, h2⟩ | ⟨pre, b', post, h1, h2, h3, h4, h5⟩
      · exact .inl ⟨h1, fun c hc => by rcases List.mem_cons.1 hc with rfl | hc; exact hno; exact h2 c hc⟩
      · exact .inr ⟨b :: pre, b', post, by rw [h1]; rfl, h2, fun c hc => by rcases List.mem_cons.1 hc with rfl | hc; exact hno; exact h3 c hc, h4, h5⟩
    by_cases hf : at' false fixed b = true
    · refine hskip (.inl hf) ?_
      rw [cuckoo_placing_first_L1]
      unfold cuckoo_placing_first_B1
      rw [at_idx false b0 hfl, hf]; simp only [Option.bind_some, if_true]
    · have hf' : at' false fixed b = false := by simpa using hf
      have hneg : at' (-1) bk b = -1 := by
        have h1 : ¬ 0 ≤ at' (-1) bk b := fun hh => hf ((h.fix b b0 bB).2 hh)
        have h2 := (h.ok.2 _ (at_mem (-1) b0 hbl)).1
        omega
      obtain ⟨r, e, hr2⟩ := rest_ok hh hB hn (i := i + 1) (by omega) (h.take hi ⟨b0, bB⟩ hf')
      have heq : cuckoo_placing_first_L1 rec i homes (b :: hs) bk fixed = if r = true then rec (bk.set b.toNat i) (fixed.set b.toNat true) else cuckoo_placing_first_L1 rec i homes hs bk fixed := by
        rw [cuckoo_placing_first_L1]
        unfold cuckoo_placing_first_B1
        rw [at_idx false b0 hfl, hf']
        simp only [Option.bind_some, Bool.false_eq_true, if_false]
        rw [lupd_ok b0 hfl, at_idx (-1) b0 hbl, lupd_ok b0 hbl]
        simp only [Option.bind_some]
        rw [w64_id (by omega) (by omega), e]
        simp only [Option.bind_some]
        rw [at_idx false b0 (by simpa using hfl), lupd_ok b0 (by simpa using hfl), at_idx (-1) b0 (by simpa using hbl), lupd_ok b0 (by simpa using hbl)]
        simp only [Option.bind_some, List.set_set]
        rw [set_at false b0 hfl hf', set_at (-1) b0 hbl hneg]
      cases r with
      | true => rw [if_pos rfl] at heq; exact .inr ⟨[], b, hs, rfl, hf', by simp, hr2.1 rfl, heq⟩
      | false => rw [if_neg (by simp)] at heq; exact hskip (.inr fun hp => by have := hr2.2 hp; cases this) heq

theorem first_L2 {B : Int} {homes : List (List Int)} (hh : HomesOK B homes) (hB : B ≤ 1000) (hn : (homes.length : Int) ≤ 100000) : ∀ (hs : List (List Int)) (n : Nat) (fixed : List Bool) (bk : Bk), homes.drop n = hs → Fst B homes fixed n bk → n ≤ homes.length →
    ∃ r bk' fixed', cuckoo_placing_first_L2 homes hs n bk fixed = some (r, bk', fixed') ∧ (r = true ↔ Placeable homes fixed n) ∧ (r = true → Fst B homes fixed' homes.length bk' ∧ (∀ b, 0 ≤ b → b < B → at' false fixed b = true → at' (-1) bk' b = at' (-1) bk b) ∧ Greedy homes n hs fixed bk')
  | [], n, fixed, bk, hd, h, hle => by
    have : homes.length ≤ n := List.drop_eq_nil_iff.1 hd
    have e : n = homes.length := by omega
    subst e
    exact ⟨true, bk, fixed, rfl, by simp; exact h.stand.places (by omega), fun _ => ⟨h, fun _ _ _ _ => rfl, trivial⟩⟩
  | l :: hs, n, fixed, bk, hd, h, hle => by
    have hlt : n < homes.length := by
      rcases Nat.lt_or_ge n homes.length with h | h
      · exact h
      · rw [List.drop_eq_nil_of_le h] at hd; cases hd
    have hd' : homes.drop (n + 1) = hs := by rw [← List.drop_drop, hd]; rfl
    have hl : at' [] homes (n : Int) = l := by
      unfold at'
      rw [Int.toNat_natCast, List.getD_eq_getElem?_getD, List.getElem?_eq_getElem hlt]
      rw [List.drop_eq_getElem_cons hlt] at hd
      exact (List.cons.inj hd).1
    have hi : 0 ≤ (n : Int) ∧ (n : Int) < homes.length := ⟨by omega, by omega⟩
    have hlr : ∀ b ∈ l, 0 ≤ b ∧ b < B := hl ▸ hh _ (at_mem [] hi.1 hi.2)
    rw [cuckoo_placing_first_L2]
    unfold cuckoo_placing_first_B2
    have hst := Placeable.step hh h.len hi
    rw [hl] at hst
    rcases first_L1 hh hB hn n hi (cuckoo_placing_first_L2 homes hs (n + 1)) h l hlr with ⟨h1, h2⟩ | ⟨pre, b, post, h1, h2, h3, h4, h5⟩
    · refine ⟨false, bk, fixed, h1, ?_, by simp⟩
      rw [hst]
      simp only [Bool.false_eq_true, false_iff, not_exists, not_and]
      intro b hb hf hp
      rcases h2 b hb with h | h
      · rw [hf] at h; cases h
      · exact h hp
    · obtain ⟨b0, bB⟩ := hlr b (by rw [h1]; simp)
      have hfl : b < fixed.length := by rw [h.len]; exact bB
      have ht := h.take hi ⟨b0, bB⟩ h2
      obtain ⟨r, bk', fixed', e, g1, g2⟩ := first_L2 hh hB hn hs (n + 1) (fixed.set b.toNat true) (bk.set b.toNat (n : Int)) hd' (by exact_mod_cast ht) (by omega)
      have hp : Placeable homes (fixed.set b.toNat true) ((n + 1 : Nat) : Int) := by exact_mod_cast h4
      have hr := g1.2 hp
      refine ⟨r, bk', fixed', by rw [h5]; exact e, ⟨fun _ => hst.2 ⟨b, by rw [h1]; simp, h2, h4⟩, fun _ => hr⟩, fun hr => ?_⟩
      obtain ⟨k1, k2, k3⟩ := g2 hr
      have hbl : b < bk.length := by rw [h.ok.1]; exact bB
      refine ⟨k1, fun c c0 cB hc => ?_, pre, b, post, h1, h2, ?_, h3, h4, by exact_mod_cast k3⟩
      · have hcb : c ≠ b := fun e => by subst e; rw [h2] at hc; cases hc
        rw [k2 c c0 cB (by rw [at_set false b0 hfl c0, if_neg hcb]; exact hc), at_set (-1) b0 hbl c0, if_neg hcb]
      · rw [k2 b b0 bB (by rw [at_set false b0 hfl b0, if_pos rfl]), at_set (-1) b0 hbl b0, if_pos rfl]
end Go.Proofs.Ytbhmhindommaeaa

/- Chapter 19, plain: the reference places as the program does, one item in each bucket (ref19.place, ref19.Possible). -/
namespace Go.Proofs.Ytbhmhindommaeaa
set_option linter.unusedVariables false

def toL (v : Int) : List Int := if v < 0 then [] else [v]

/-- The reference's lists, and what is used. -/
structure Rel (B : Int) (fixed : List Bool) (used : List Int) (bk : Bk) (inn : List (List Int)) : Prop where
  ul : (used.length : Int) = B
  il : (inn.length : Int) = B
  u : ∀ b, 0 ≤ b → b < B → at' 0 used b = if at' false fixed b = true then 1 else 0
  n : ∀ b, 0 ≤ b → b < B → at' [] inn b = if at' false fixed b = true then [] else toL (at' (-1) bk b)
def SeenR (B : Int) (fixed s t : List Bool) : Prop := (t.length : Int) = B ∧ ∀ b, 0 ≤ b → b < B → at' false fixed b = false → at' false t b = at' false s b

theorem SeenR.set {B : Int} {fixed s t : List Bool} (h : SeenR B fixed s t) {b : Int} (hb : 0 ≤ b ∧ b < B) (hs : (s.length : Int) = B) : SeenR B fixed (s.set b.toNat true) (t.set b.toNat true) :=
  ⟨by simpa using h.1, fun c c0 cB hf => by rw [at_set false hb.1 (by rw [h.1]; exact hb.2) c0, at_set false hb.1 (by rw [hs]; exact hb.2) c0, h.2 c c0 cB hf]⟩
theorem SeenR.setF {B : Int} {fixed s t : List Bool} (h : SeenR B fixed s t) {b : Int} (hb : 0 ≤ b ∧ b < B) (hf : at' false fixed b = true) : SeenR B fixed s (t.set b.toNat true) :=
  ⟨by simpa using h.1, fun c c0 cB hc => by rw [at_set false hb.1 (by rw [h.1]; exact hb.2) c0, if_neg (fun e => by subst e; rw [hf] at hc; cases hc)]; exact h.2 c c0 cB hc⟩

theorem Rel.set {B : Int} {fixed : List Bool} {used : List Int} {bk : Bk} {inn : List (List Int)} (h : Rel B fixed used bk inn) (hbl : (bk.length : Int) = B) {b i : Int} (hb : 0 ≤ b ∧ b < B) (hf : at' false fixed b = false) (hi : 0 ≤ i) : Rel B fixed used (bk.set b.toNat i) (inn.set b.toNat [i]) :=
  ⟨h.ul, by simpa using h.il, h.u, fun c c0 cB => by
    rw [at_set [] hb.1 (by rw [h.il]; exact hb.2) c0, at_set (-1) hb.1 (by omega) c0]
    by_cases e : c = b
    · subst e; rw [if_pos rfl, if_pos rfl, hf]; simp [toL]; omega
    · rw [if_neg e, if_neg e]; exact h.n c c0 cB⟩

/-- What the reference does where the program ends with r, bk', s'. -/
def RefP (B : Int) (fixed : List Bool) (used : List Int) (inn : List (List Int)) (r : Bool) (bk' : Bk) (s' : List Bool) (x : Option (Bool × List (List Int) × List Bool)) : Prop :=
  ∃ inn' t', x = some (r, inn', t') ∧ (r = true → Rel B fixed used bk' inn') ∧ (r = false → inn' = inn ∧ SeenR B fixed s' t')

theorem sim_loop (B : Int) (homes : List (List Int)) (fixed : List Bool) (used : List Int) (hh : HomesOK B homes) (hf : (fixed.length : Int) = B) (i : Int) (hi : 0 ≤ i ∧ i < homes.length) (m : Nat)
    (ih : ∀ (i : Int) (s t : List Bool) (bk : Bk) (inn : List (List Int)) (r : Bool) (bk' : Bk) (s' : List Bool), 0 ≤ i → i < homes.length → (s.length : Int) = B → BkOK B homes bk → s.count false < m → Rel B fixed used bk inn → SeenR B fixed s t → cuckoo_placing_place_R m (homes, bk, fixed) i s = some (r, bk', s') →
      RefP B fixed used inn r bk' s' (ref19_place_R m homes inn used 1 i t)) :
    ∀ (hs : List Int) (s t : List Bool) (bk : Bk) (inn : List (List Int)) (r : Bool) (bk' : Bk) (s' : List Bool), (∀ b ∈ hs, b ∈ at' [] homes i) → (s.length : Int) = B → BkOK B homes bk → s.count false < m + 1 → Rel B fixed used bk inn → SeenR B fixed s t → cuckoo_placing_place_L1 (cuckoo_placing_place_R m) i homes fixed hs s bk = some (r, bk', s') →
      RefP B fixed used inn r bk' s' (ref19_place_L2 (ref19_place_R m) homes used 1 i inn hs t)
  | [], s, t, bk, inn, r, bk', s', _, _, _, _, hr, ht, h => by
    rw [cuckoo_placing_place_L1] at h
    cases h
    exact ⟨inn, t, rfl, by simp, fun _ => ⟨rfl, ht⟩⟩
  | b :: hs, s, t, bk, inn, r, bk', s', hm, hsl, hb, hc, hr, ht, h => by
    have hbi : b ∈ at' [] homes i := hm b List.mem_cons_self
    obtain ⟨b0, bB⟩ := hh _ (at_mem [] hi.1 hi.2) b hbi
    have ih2 := fun s t bk inn r bk' s' => sim_loop B homes fixed used hh hf i hi m ih hs s t bk inn r bk' s' (fun c h => hm c (List.mem_cons_of_mem _ h))
    have htl := ht.1
    have hbk := hb.1
    rw [cuckoo_placing_place_L1] at h
    unfold cuckoo_placing_place_B1 at h
    rw [at_idx false b0 (by omega), at_idx false b0 (by omega)] at h
    simp only [Option.bind_some] at h
    rw [ref19_place_L2]
    unfold ref19_place_B2
    rw [at_idx false b0 (by omega)]
    simp only [Option.bind_some]
    have hu := hr.u b b0 bB
    have hn := hr.n b b0 bB
    have hul := hr.ul
    have hil := hr.il
    by_cases hfx : at' false fixed b = true
    · -- a bucket that is fixed
      have h' : cuckoo_placing_place_L1 (cuckoo_placing_place_R m) i homes fixed hs s bk = some (r, bk', s') := by
        rw [hfx] at h
        by_cases h1 : at' false s b = true
        · rw [if_pos h1] at h; simpa using h
        · rw [if_neg h1] at h; simpa using h
      by_cases h1 : at' false t b = true
      · rw [if_pos h1]; exact ih2 s t bk inn r bk' s' hsl hb hc hr ht h'
      · rw [if_neg h1, lupd_ok b0 (by omega)]
        simp only [Option.bind_some]
        rw [at_idx 0 b0 (by omega), at_idx [] b0 (by omega)]
        simp only [Option.bind_some]
        rw [hu, hn, hfx]
        simp only [if_true, List.length_nil]
        rw [if_neg (by rw [w64_id (by omega) (by omega)]; omega)]
        rw [ref19_place_L1]
        exact ih2 s _ bk inn r bk' s' hsl hb hc hr (ht.setF ⟨b0, bB⟩ hfx) h'
    · have hfx' : at' false fixed b = false := by simpa using hfx
      rw [ht.2 b b0 bB hfx']
      by_cases h1 : at' false s b = true
      · rw [if_pos h1] at h ⊢
        simp only [Option.bind_some, if_true] at h
        exact ih2 s t bk inn r bk' s' hsl hb hc hr ht h
      · have h1' : at' false s b = false := by simpa using h1
        rw [if_neg h1] at h ⊢
        simp only [Option.bind_some] at h
        rw [if_neg hfx, at_idx (-1) b0 (by omega)] at h
        simp only [Option.bind_some] at h
        rw [lupd_ok b0 (by omega)]
        simp only [Option.bind_some]
        rw [at_idx 0 b0 (by omega), at_idx [] b0 (by omega)]
        simp only [Option.bind_some]
        rw [hfx'] at hu hn
        simp only [Bool.false_eq_true, if_false] at hu hn
        rw [hu, hn]
        by_cases h3 : at' (-1) bk b < 0
        · rw [if_pos h3, lupd_ok b0 (by omega)] at h
          simp only [Option.bind_some] at h
          cases h
          have htL : toL (at' (-1) bk b) = [] := by unfold toL; rw [if_pos h3]
          rw [htL]
          simp only [List.length_nil]
          rw [if_pos (by rw [w64_id (by omega) (by omega)]; omega), lapp_ok (by simp)]
          simp only [Option.bind_some, List.nil_append]
          rw [lupd_ok b0 (by omega)]
          simp only [Option.bind_some]
          exact ⟨_, _, rfl, fun _ => hr.set hbk ⟨b0, bB⟩ hfx' hi.1, by simp⟩
        · rw [if_neg h3, lupd_ok b0 (by omega)] at h
          simp only [Option.bind_some] at h
          have htL : toL (at' (-1) bk b) = [at' (-1) bk b] := by unfold toL; rw [if_neg h3]
          rw [htL]
          simp only [List.length_singleton]
          rw [if_neg (by rw [w64_id (by omega) (by omega)]; omega), ref19_place_L1]
          unfold ref19_place_B1
          have hlt : b < s.length := by omega
          have ho := hb.2 _ (at_mem (-1) b0 (by omega : b < (bk.length : Int)))
          have hcl := count_false_lt b0 hlt h1'
          obtain ⟨r1, bk1, s1, e1, l1, m1, w1, f1⟩ := place_ok B homes fixed hh hf m (at' (-1) bk b) (s.set b.toNat true) bk (by omega) ho.2 (by simpa using hsl) hb (by omega)
          rw [e1] at h
          simp only [Option.bind_some] at h
          obtain ⟨inn1, t1, e2, g1, g2⟩ := ih (at' (-1) bk b) _ _ bk inn r1 bk1 s1 (by omega) ho.2 (by simpa using hsl) hb (by omega) hr (ht.set ⟨b0, bB⟩ hsl) e1
          rw [e2]
          simp only [Option.bind_some]
          cases r1 with
          | true =>
            have hw := w1 rfl
            have hr1 := g1 rfl
            have hb1 := hw.ok.1
            have hil1 := hr1.il
            rw [if_pos rfl, at_idx (-1) b0 (by omega)] at h
            simp only [Option.bind_some] at h
            rw [lupd_ok b0 (by omega)] at h
            simp only [Option.bind_some] at h
            cases h
            rw [if_pos rfl, at_idx [] b0 (by omega)]
            simp only [Option.bind_some]
            have hst : at' (-1) bk1 b = at' (-1) bk b := hw.still b b0 bB (.inl (by rw [at_set false b0 hlt b0, if_pos rfl]))
            have hn1 := hr1.n b b0 bB
            rw [hfx', hst, htL] at hn1
            simp only [Bool.false_eq_true, if_false] at hn1
            rw [hn1]
            have hx : lidx [at' (-1) bk b] ((0 : Nat) : Int) = some (at' (-1) bk b) := rfl
            have hy : lupd [at' (-1) bk b] ((0 : Nat) : Int) i = some [i] := rfl
            rw [hx]
            simp only [Option.bind_some]
            rw [hy]
            simp only [Option.bind_some]
            rw [lupd_ok b0 (by omega)]
            simp only [Option.bind_some]
            exact ⟨_, _, rfl, fun _ => hr1.set hb1 ⟨b0, bB⟩ hfx' hi.1, by simp⟩
          | false =>
            rw [if_neg (by simp)] at h
            rw [if_neg (by simp), ref19_place_L1]
            obtain ⟨rfl, hlost⟩ := f1 rfl
            obtain ⟨rfl, ht1⟩ := g2 rfl
            have hcle := count_le_of (s := s.set b.toNat true) (t := s1) (by rw [List.length_set]; omega) (fun c c0 cl h => m1 c c0 (by simp at cl; omega) h)
            exact ih2 s1 t1 bk1 inn1 r bk' s' l1 hb (by omega) hr ht1 h

theorem sim_ok (B : Int) (homes : List (List Int)) (fixed : List Bool) (used : List Int) (hh : HomesOK B homes) (hf : (fixed.length : Int) = B) : ∀ (m : Nat) (i : Int) (s t : List Bool) (bk : Bk) (inn : List (List Int)) (r : Bool) (bk' : Bk) (s' : List Bool), 0 ≤ i → i < homes.length → (s.length : Int) = B → BkOK B homes bk → s.count false < m → Rel B fixed used bk inn → SeenR B fixed s t → cuckoo_placing_place_R m (homes, bk, fixed) i s = some (r, bk', s') →
      RefP B fixed used inn r bk' s' (ref19_place_R m homes inn used 1 i t)
  | 0, i, s, t, bk, inn, r, bk', s', _, _, _, _, h, _, _, _ => by omega
  | m + 1, i, s, t, bk, inn, r, bk', s', h0, h1, hs, hb, hc, hr, ht, h => by
    rw [cuckoo_placing_place_R] at h
    unfold cuckoo_placing_place_B2 at h
    rw [at_idx [] h0 h1] at h
    simp only [Option.bind_some] at h
    rw [ref19_place_R]
    unfold ref19_place_B3
    rw [at_idx [] h0 h1]
    simp only [Option.bind_some]
    exact sim_loop B homes fixed used hh hf i ⟨h0, h1⟩ m (sim_ok B homes fixed used hh hf m) _ s t bk inn r bk' s' (fun _ h => h) hs hb hc hr ht h
end Go.Proofs.Ytbhmhindommaeaa

/- Chapter 19, plain: the reference's Possible and First. -/
namespace Go.Proofs.Ytbhmhindommaeaa
set_option linter.unusedVariables false

def UsedOf (B : Int) (fixed : List Bool) (used : List Int) : Prop := (used.length : Int) = B ∧ (fixed.length : Int) = B ∧ ∀ b, 0 ≤ b → b < B → at' 0 used b = if at' false fixed b = true then 1 else 0

theorem at_rep {α : Type} (d x : α) {n : Nat} {b : Int} (h0 : 0 ≤ b) (h1 : b < n) : at' d (List.replicate n x) b = x := by
  unfold at'; rw [List.getD_eq_getElem?_getD, List.getElem?_replicate, if_pos (by omega)]; rfl

theorem poss_L {B : Int} {homes : List (List Int)} {fixed : List Bool} {used : List Int} (hh : HomesOK B homes) (hB : 0 ≤ B ∧ B ≤ 1000) (hf : (fixed.length : Int) = B) :
    ∀ (hs : List (List Int)) (n : Nat) (bk : Bk) (inn : List (List Int)), homes.drop n = hs → n ≤ homes.length → Stand B homes fixed 0 n bk → Rel B fixed used bk inn →
      ∃ r, ref19_Possible_L1 homes B 1 used hs n inn = some r ∧ (r = true ↔ Placeable homes fixed 0)
  | [], n, bk, inn, hd, hle, hs, hr => by
    have : homes.length ≤ n := List.drop_eq_nil_iff.1 hd
    have e : n = homes.length := by omega
    subst e
    exact ⟨true, rfl, by simp [hs.places (Int.le_refl _)]⟩
  | x :: hs', n, bk, inn, hd, hle, hs, hr => by
    have hlt : n < homes.length := by
      rcases Nat.lt_or_ge n homes.length with h | h
      · exact h
      · rw [List.drop_eq_nil_of_le h] at hd; cases hd
    have hd' : homes.drop (n + 1) = hs' := by rw [← List.drop_drop, hd]; rfl
    rw [ref19_Possible_L1]
    unfold ref19_Possible_B1
    have hmk : lmk B false = some (List.replicate B.toNat false) := by unfold lmk; rw [if_pos (by omega)]
    rw [hmk]
    simp only [Option.bind_some]
    have hsl : ((List.replicate B.toNat false).length : Int) = B := by simp; omega
    have h0 : ∀ b, 0 ≤ b → b < B → at' false (List.replicate B.toNat false) b = false := fun b b0 bB => at_rep false false b0 (by omega)
    have hcnt : (List.replicate B.toNat false).count false < big := by
      have := List.count_le_length (a := false) (l := List.replicate B.toNat false)
      rw [List.length_replicate] at this
      simp only [big]; omega
    obtain ⟨r1, bk1, s1, e1, l1, m1, w1, f1⟩ := place_ok B homes fixed hh hf big n (List.replicate B.toNat false) bk (by omega) (by omega) hsl hs.ok hcnt
    obtain ⟨inn1, t1, e2, g1, g2⟩ := sim_ok B homes fixed used hh hf big n _ (List.replicate B.toNat false) bk inn r1 bk1 s1 (by omega) (by omega) hsl hs.ok hcnt hr ⟨hsl, fun _ _ _ _ => rfl⟩ e1
    unfold ref19_place
    rw [e2]
    simp only [Option.bind_some]
    cases r1 with
    | true =>
      rw [if_pos rfl]
      exact poss_L hh hB hf hs' (n + 1) bk1 inn1 hd' (by omega) (by exact_mod_cast hs.won ⟨Int.le_refl _, by omega⟩ (w1 rfl)) (g1 rfl)
    | false =>
      rw [if_neg (by simp)]
      exact ⟨false, rfl, by simp [no_way hh hs ⟨Int.le_refl _, by omega⟩ (by omega) h0 (f1 rfl).2]⟩

theorem poss_ok {B : Int} {homes : List (List Int)} {fixed : List Bool} {used : List Int} (hh : HomesOK B homes) (hB : 0 ≤ B ∧ B ≤ 1000) (hu : UsedOf B fixed used) : ∃ r, ref19_Possible homes B 1 used = some r ∧ (r = true ↔ Placeable homes fixed 0) := by
  unfold ref19_Possible
  have hmk : lmk B ([] : List Int) = some (List.replicate B.toNat []) := by unfold lmk; rw [if_pos (by omega)]
  rw [hmk]
  simp only [Option.bind_some]
  have hall : ∀ b, 0 ≤ b → b < B → at' (-1) (List.replicate B.toNat (-1 : Int)) b = -1 := fun b b0 bB => at_rep _ _ b0 (by omega)
  refine poss_L hh hB hu.2.1 homes 0 (List.replicate B.toNat (-1)) _ rfl (Nat.zero_le _) ⟨⟨by simp; omega, fun v hv => ?_⟩, fun j hj => ?_, fun j h1 h2 => by omega, fun j hj => ?_, fun b b0 bB _ h => ?_, fun b b0 bB _ => ?_⟩ ⟨hu.1, by simp; omega, hu.2.2, fun b b0 bB => ?_⟩
  · rw [(List.mem_replicate.1 hv).2]; omega
  · rw [List.count_replicate, if_neg (by simp; omega)]; omega
  · rw [List.count_replicate, if_neg (by simp; omega)]
  · rw [hall b b0 bB] at h; omega
  · rw [hall b b0 bB]; omega
  · rw [at_rep _ _ b0 (by omega), hall b b0 bB]; simp [toL]

/-- The items from a on, counted anew. -/
theorem placeable_drop {homes : List (List Int)} {fixed : List Bool} {a : Nat} (ha : a ≤ homes.length) : Placeable (homes.drop a) fixed 0 ↔ Placeable homes fixed a := by
  have hat : ∀ j : Int, 0 ≤ j → at' [] (homes.drop a) j = at' [] homes (j + a) := fun j hj => by
    unfold at'
    rw [List.getD_eq_getElem?_getD, List.getD_eq_getElem?_getD, List.getElem?_drop]
    congr 2; omega
  have hlen : ((homes.drop a).length : Int) = homes.length - a := by simp; omega
  constructor
  · rintro ⟨f, h1, h2⟩
    refine ⟨fun j => f (j - a), fun j hj hn => ?_, fun j k hj hn hk hkn e => ?_⟩
    · have := h1 (j - a) (by omega) (by omega)
      rw [hat _ (by omega), show j - a + a = j from by omega] at this
      exact this
    · have := h2 (j - a) (k - a) (by omega) (by omega) (by omega) (by omega) e
      omega
  · rintro ⟨f, h1, h2⟩
    refine ⟨fun j => f (j + a), fun j hj hn => ?_, fun j k hj hn hk hkn e => ?_⟩
    · rw [hat _ hj]; exact h1 (j + a) (by omega) (by omega)
    · have := h2 (j + a) (k + a) (by omega) (by omega) (by omega) (by omega) e
      omega

/-- .. the same as a list of buckets. -/
def GreedyL (homes : List (List Int)) : Int → List (List Int) → List Bool → List Int → Prop
  | _, [], _, bs => bs = []
  | i, h :: hs, fixed, bs => ∃ pre b post bs', bs = b :: bs' ∧ h = pre ++ b :: post ∧ at' false fixed b = false ∧ (∀ c ∈ pre, at' false fixed c = true ∨ ¬ Placeable homes (fixed.set c.toNat true) (i + 1)) ∧
    Placeable homes (fixed.set b.toNat true) (i + 1) ∧ GreedyL homes (i + 1) hs (fixed.set b.toNat true) bs'

theorem UsedOf.take {B : Int} {fixed : List Bool} {used : List Int} (h : UsedOf B fixed used) {b : Int} (hb : 0 ≤ b ∧ b < B) : UsedOf B (fixed.set b.toNat true) (used.set b.toNat 1) :=
  ⟨by simpa using h.1, by simpa using h.2.1, fun c c0 cB => by
    rw [at_set 0 hb.1 (by rw [h.1]; exact hb.2) c0, at_set false hb.1 (by rw [h.2.1]; exact hb.2) c0]
    by_cases e : c = b
    · rw [if_pos e, if_pos e]; rfl
    · rw [if_neg e, if_neg e]; exact h.2.2 c c0 cB⟩

theorem rfirst_L1 {B : Int} {homes : List (List Int)} (hh : HomesOK B homes) (hB : 0 ≤ B ∧ B ≤ 1000) (hn : (homes.length : Int) ≤ 100000) (i : Nat) (hi : i < homes.length) (rec : List Int → List Int → Option (List Int × Bool)) {fixed : List Bool} {used : List Int} (hu : UsedOf B fixed used) (out : List Int) (ho : out.length ≤ 100000) :
    ∀ hs : List Int, (∀ b ∈ hs, 0 ≤ b ∧ b < B) → (∃ b ∈ hs, at' false fixed b = false ∧ Placeable homes (fixed.set b.toNat true) (i + 1)) →
      ∃ pre b post, hs = pre ++ b :: post ∧ at' false fixed b = false ∧ (∀ c ∈ pre, at' false fixed c = true ∨ ¬ Placeable homes (fixed.set c.toNat true) (i + 1)) ∧ Placeable homes (fixed.set b.toNat true) (i + 1) ∧
        ref19_First_L1 rec i homes B 1 out hs used = rec (out ++ [b]) (used.set b.toNat 1)
  | [], _, h => by obtain ⟨b, hb, _⟩ := h; cases hb
  | b :: hs, hr, hex => by
    obtain ⟨b0, bB⟩ := hr b List.mem_cons_self
    have hul := hu.1
    have hub := hu.2.2 b b0 bB
    have hbl : b < (used.length : Int) := by omega
    have hskip : (at' false fixed b = true ∨ ¬ Placeable homes (fixed.set b.toNat true) (i + 1)) → ref19_First_L1 rec i homes B 1 out (b :: hs) used = ref19_First_L1 rec i homes B 1 out hs used →
        ∃ pre b' post, b :: hs = pre ++ b' :: post ∧ at' false fixed b' = false ∧ (∀ c ∈ pre, at' false fixed c = true ∨ ¬ Placeable homes (fixed.set c.toNat true) (i + 1)) ∧ Placeable homes (fixed.set b'.toNat true) (i + 1) ∧
        ref19_First_L1 rec i homes B 1 out (b :: hs) used = rec (out ++ [b']) (used.set b'.toNat 1) := fun hno e => by
      obtain ⟨pre, b', post, h1, h2, h3, h4, h5⟩ := rfirst_L1 hh hB hn i hi rec hu out ho hs (fun c hc => hr c (List.mem_cons_of_mem _ hc)) (by
        obtain ⟨c, hc, h1, h2⟩ := hex
        rcases List.mem_cons.1 hc with rfl | hc
        · rcases hno with h | h
          · rw [h] at h1; cases h1
          · exact absurd h2 h
        · exact ⟨c, hc, h1, h2⟩)
      exact ⟨b :: pre, b', post, by rw [h1]; rfl, h2, fun c hc => by rcases List.mem_cons.1 hc with rfl | hc; exact hno; exact h3 c hc, h4, by rw [e]; exact h5⟩
    by_cases hf : at' false fixed b = true
    · refine hskip (.inl hf) ?_
      rw [ref19_First_L1]
      unfold ref19_First_B1
      rw [at_idx 0 b0 hbl, hub, if_pos hf]
      simp only [Option.bind_some, if_true]
    · have hf' : at' false fixed b = false := by simpa using hf
      rw [if_neg hf] at hub
      have hsub : lsub homes (w64 ((i : Int) + 1)) (homes.length : Int) = some (homes.drop (i + 1)) := by
        rw [w64_id (by omega) (by omega), lsub_ok (by omega) (by omega) (by omega)]
        congr 1
        rw [show ((i : Int) + 1).toNat = i + 1 from by omega, show ((homes.length : Int) - ((i : Int) + 1)).toNat = homes.length - (i + 1) from by omega]
        exact List.take_of_length_le (by simp)
      have hhd : HomesOK B (homes.drop (i + 1)) := fun l hl => hh l (List.mem_of_mem_drop hl)
      obtain ⟨r, e, hr2⟩ := poss_ok hhd hB (hu.take ⟨b0, bB⟩)
      rw [placeable_drop (by omega)] at hr2
      have heq : ref19_First_L1 rec i homes B 1 out (b :: hs) used = if r = true then rec (out ++ [b]) (used.set b.toNat 1) else ref19_First_L1 rec i homes B 1 out hs used := by
        rw [ref19_First_L1]
        unfold ref19_First_B1
        rw [at_idx 0 b0 hbl, hub]
        simp only [Option.bind_some]
        rw [if_neg (by omega), show w64 (0 + 1) = 1 from by rw [w64_id (by omega) (by omega)]; rfl, lupd_ok b0 hbl]
        simp only [Option.bind_some]
        rw [hsub]
        simp only [Option.bind_some]
        rw [e]
        simp only [Option.bind_some]
        rw [lapp_ok (by simp; omega), at_idx 0 b0 (by simpa using hbl), at_set 0 b0 hbl b0, if_pos rfl]
        simp only [Option.bind_some]
        rw [show w64 (1 - 1) = 0 from by rw [w64_id (by omega) (by omega)]; rfl, lupd_ok b0 (by simpa using hbl)]
        simp only [Option.bind_some, List.set_set]
        rw [set_at 0 b0 hbl hub]
      cases r with
      | true => rw [if_pos rfl] at heq; exact ⟨[], b, hs, rfl, hf', by simp, by exact_mod_cast hr2.1 rfl, heq⟩
      | false => rw [if_neg (by simp)] at heq; exact hskip (.inr fun hp => by have := hr2.2 (by exact_mod_cast hp); cases this) heq

theorem rfirst_L2 {B : Int} {homes : List (List Int)} (hh : HomesOK B homes) (hB : 0 ≤ B ∧ B ≤ 1000) (hn : (homes.length : Int) ≤ 100000) : ∀ (hs : List (List Int)) (n : Nat) (fixed : List Bool) (used out : List Int), homes.drop n = hs → UsedOf B fixed used → out.length = n → n ≤ homes.length → Placeable homes fixed n →
    ∃ bs, ref19_First_L2 homes B 1 hs n out used = some (out ++ bs, true) ∧ GreedyL homes n hs fixed bs
  | [], n, fixed, used, out, hd, hu, hl, hle, hp => ⟨[], by simp [ref19_First_L2], rfl⟩
  | l :: hs, n, fixed, used, out, hd, hu, hl, hle, hp => by
    have hlt : n < homes.length := by
      rcases Nat.lt_or_ge n homes.length with h | h
      · exact h
      · rw [List.drop_eq_nil_of_le h] at hd; cases hd
    have hd' : homes.drop (n + 1) = hs := by rw [← List.drop_drop, hd]; rfl
    have hat : at' [] homes (n : Int) = l := by
      unfold at'
      rw [Int.toNat_natCast, List.getD_eq_getElem?_getD, List.getElem?_eq_getElem hlt]
      rw [List.drop_eq_getElem_cons hlt] at hd
      exact (List.cons.inj hd).1
    have hi : 0 ≤ (n : Int) ∧ (n : Int) < homes.length := ⟨by omega, by omega⟩
    have hlr : ∀ b ∈ l, 0 ≤ b ∧ b < B := hat ▸ hh _ (at_mem [] hi.1 hi.2)
    have hst := (Placeable.step hh hu.2.1 hi).1 hp
    rw [hat] at hst
    obtain ⟨pre, b, post, h1, h2, h3, h4, h5⟩ := rfirst_L1 hh hB hn n hlt (ref19_First_L2 homes B 1 hs (n + 1)) hu out (by omega) l hlr hst
    obtain ⟨b0, bB⟩ := hlr b (by rw [h1]; simp)
    obtain ⟨bs, e, hg⟩ := rfirst_L2 hh hB hn hs (n + 1) (fixed.set b.toNat true) (used.set b.toNat 1) (out ++ [b]) hd' (hu.take ⟨b0, bB⟩) (by simp [hl]) (by omega) (by exact_mod_cast h4)
    refine ⟨b :: bs, ?_, pre, b, post, bs, rfl, h1, h2, h3, h4, by exact_mod_cast hg⟩
    rw [ref19_First_L2]
    unfold ref19_First_B2
    rw [h5, e]
    simp
end Go.Proofs.Ytbhmhindommaeaa

/- Chapter 19, plain: hashings, homes, what is asked. -/
namespace Go.Proofs.Ytbhmhindommaeaa
set_option linter.unusedVariables false

abbrev Hsh := Int × List (Int × Int)
def PairOK (p : Int × Int) : Prop := 0 ≤ p.1 ∧ p.1 < 2147483647 ∧ 0 ≤ p.2 ∧ p.2 < 2147483647
def HshOK (h : Hsh) : Prop := 1 ≤ h.1 ∧ h.1 ≤ 64 ∧ 1 ≤ h.2.length ∧ h.2.length ≤ 4 ∧ ∀ p ∈ h.2, PairOK p
def ItemOK (n : Int) : Prop := 0 ≤ n ∧ n < 2147483647
/-- The homes of an item. -/
def homeL (h : Hsh) (n : Int) : List Int := h.2.map fun p => (p.1 * n + p.2) % 2147483647 % h.1

theorem check_L : ∀ ps : List (Int × Int), (cuckoo_Check_L1 ps = some 0 ∧ ∀ p ∈ ps, PairOK p) ∨ (cuckoo_Check_L1 ps = some 2 ∧ ¬ ∀ p ∈ ps, PairOK p)
  | [] => .inl ⟨rfl, by simp⟩
  | p :: ps => by
    rw [cuckoo_Check_L1]
    unfold cuckoo_Check_B1
    split
    · rename_i h
      refine .inr ⟨rfl, fun ha => ?_⟩
      have := ha p List.mem_cons_self
      unfold PairOK at this; omega
    · rename_i h
      have hp : PairOK p := by unfold PairOK; omega
      rcases check_L ps with ⟨e, h1⟩ | ⟨e, h1⟩
      · exact .inl ⟨e, fun q hq => by rcases List.mem_cons.1 hq with rfl | hq; exact hp; exact h1 q hq⟩
      · exact .inr ⟨e, fun ha => h1 fun q hq => ha q (List.mem_cons_of_mem _ hq)⟩
theorem check_ok (h : Hsh) : (cuckoo_Check h = some 0 ∧ HshOK h) ∨ (cuckoo_Check h = some 2 ∧ ¬ HshOK h) := by
  unfold cuckoo_Check
  split
  · rename_i hh
    refine .inr ⟨rfl, fun ha => ?_⟩
    unfold HshOK at ha; omega
  · rename_i hh
    rcases check_L h.2 with ⟨e, h1⟩ | ⟨e, h1⟩
    · exact .inl ⟨e, by omega, by omega, by omega, by omega, h1⟩
    · exact .inr ⟨e, fun ha => h1 ha.2.2.2.2⟩
theorem rcheck_L : ∀ ps, ref19_Check_L1 ps = cuckoo_Check_L1 ps
  | [] => rfl
  | p :: ps => by rw [ref19_Check_L1, cuckoo_Check_L1, rcheck_L ps]; rfl
theorem rcheck (h : Hsh) : ref19_Check h = cuckoo_Check h := by
  unfold ref19_Check cuckoo_Check; rw [rcheck_L]

theorem home_at {a b n B : Int} (ha : PairOK (a, b)) (hn : ItemOK n) (hB : 1 ≤ B) : Int.tmod (Int.tmod (w64 ((w64 (a * n)) + b)) 2147483647) B = (a * n + b) % 2147483647 % B := by
  unfold PairOK at ha; unfold ItemOK at hn
  dsimp only at ha
  have h1 : 0 ≤ a * n := Int.mul_nonneg ha.1 hn.1
  have h2 : a * n ≤ 2147483647 * 2147483647 := Int.mul_le_mul (by omega) (by omega) hn.1 (by omega)
  have e1 : (a * n + b).tmod 2147483647 = (a * n + b) % 2147483647 := Int.tmod_eq_emod_of_nonneg (by omega)
  rw [w64_id (x := a * n) (by omega) (by omega), w64_id (by omega) (by omega), e1, Int.tmod_eq_emod_of_nonneg (Int.emod_nonneg _ (by omega))]

theorem homes_L {B n : Int} (hB : 1 ≤ B) (hn : ItemOK n) : ∀ (ps : List (Int × Int)) (acc : List Int), (∀ p ∈ ps, PairOK p) → acc.length + ps.length ≤ 100 → cuckoo_homes_L1 n B ps acc = some (acc ++ ps.map fun p => (p.1 * n + p.2) % 2147483647 % B)
  | [], acc, _, _ => by simp [cuckoo_homes_L1]
  | p :: ps, acc, hp, hl => by
    rw [cuckoo_homes_L1]
    unfold cuckoo_homes_B1
    simp only [List.length_cons] at hl
    rw [nz_ok (by omega), lapp_ok (by simp; omega)]
    simp only [Option.bind_some]
    rw [homes_L hB hn ps _ (fun q hq => hp q (List.mem_cons_of_mem _ hq)) (by simp; omega), home_at (hp p List.mem_cons_self) hn hB]
    simp
theorem homes_ok {h : Hsh} (hk : HshOK h) {n : Int} (hn : ItemOK n) : cuckoo_homes h n = some (homeL h n) := by
  unfold cuckoo_homes
  have h4 := hk.2.2.2.1
  rw [homes_L hk.1 hn h.2 [] hk.2.2.2.2 (by simp; omega)]
  rfl
theorem rhomes_L {B n : Int} (hB : 1 ≤ B) (hn : ItemOK n) : ∀ (ps : List (Int × Int)) (acc : List Int), (∀ p ∈ ps, PairOK p) → acc.length + ps.length ≤ 100 → ref19_Homes_L1 n B ps acc = some (acc ++ ps.map (fun p => (p.1 * n + p.2) % 2147483647 % B), 0)
  | [], acc, _, _ => by simp [ref19_Homes_L1]
  | p :: ps, acc, hp, hl => by
    rw [ref19_Homes_L1]
    unfold ref19_Homes_B1
    simp only [List.length_cons] at hl
    rw [nz_ok (by omega), lapp_ok (by simp; omega)]
    simp only [Option.bind_some]
    rw [rhomes_L hB hn ps _ (fun q hq => hp q (List.mem_cons_of_mem _ hq)) (by simp; omega), home_at (hp p List.mem_cons_self) hn hB]
    simp
theorem rhomes_ok {h : Hsh} (hk : HshOK h) {n : Int} (hn : ItemOK n) : ref19_Homes h n = some (homeL h n, 0) := by
  unfold ref19_Homes
  rcases check_ok h with ⟨e, _⟩ | ⟨_, e⟩
  · rw [rcheck, e]
    simp only [Option.bind_some]
    have h4 := hk.2.2.2.1
    have := hn.1; have := hn.2
    rw [if_neg (by simp), if_neg (by omega), rhomes_L hk.1 hn h.2 [] hk.2.2.2.2 (by simp; omega)]
    rfl
  · exact absurd hk e
theorem rhomes_bad {h : Hsh} (hk : HshOK h) {n : Int} (hn : ¬ ItemOK n) : ref19_Homes h n = some ([], 1) := by
  unfold ref19_Homes
  rcases check_ok h with ⟨e, _⟩ | ⟨_, e⟩
  · rw [rcheck, e]
    simp only [Option.bind_some]
    rw [if_neg (by simp), if_pos (by unfold ItemOK at hn; omega)]
  · exact absurd hk e

theorem homeL_range {h : Hsh} (hk : HshOK h) (n : Int) : ∀ b ∈ homeL h n, 0 ≤ b ∧ b < h.1 := fun b hb => by
  obtain ⟨p, _, rfl⟩ := List.mem_map.1 hb
  have := hk.1
  exact ⟨Int.emod_nonneg _ (by omega), Int.emod_lt_of_pos _ (by omega)⟩
theorem homesOK {h : Hsh} (hk : HshOK h) (l : List Int) : HomesOK h.1 (l.map (homeL h)) := fun x hx b hb => by
  obtain ⟨n, _, rfl⟩ := List.mem_map.1 hx
  exact homeL_range hk n b hb

theorem ask_L : ∀ (l : List Int) (i : Nat), (∃ r : Int, slices_IndexFunc_Lintint_L1 cuckoo_asked_f1 l i = some r ∧ (0 ≤ r ↔ ∃ n ∈ l, ¬ ItemOK n))
  | [], i => ⟨-1, rfl, by simp⟩
  | n :: l, i => by
    rw [slices_IndexFunc_Lintint_L1]
    unfold slices_IndexFunc_Lintint_B1 cuckoo_asked_f1 cuckoo_item
    simp only [Option.bind_some]
    by_cases hn : ItemOK n
    · have hd : (decide ((0 ≤ n) ∧ (n < 2147483647))) = true := decide_eq_true hn
      rw [hd]
      simp only [Bool.not_true, Bool.false_eq_true, if_false]
      obtain ⟨r, e, h⟩ := ask_L l (i + 1)
      refine ⟨r, e, h.trans ⟨fun ⟨m, hm, h⟩ => ⟨m, List.mem_cons_of_mem _ hm, h⟩, fun ⟨m, hm, h⟩ => ?_⟩⟩
      rcases List.mem_cons.1 hm with rfl | hm
      · exact absurd hn h
      · exact ⟨m, hm, h⟩
    · have hd : (decide ((0 ≤ n) ∧ (n < 2147483647))) = false := decide_eq_false hn
      rw [hd]
      simp only [Bool.not_false, if_true]
      exact ⟨i, rfl, fun _ => ⟨n, List.mem_cons_self, hn⟩, fun _ => by omega⟩
theorem asked_ok (h : Hsh) (l : List Int) : (cuckoo_asked h l = some 2 ∧ ¬ HshOK h) ∨ (cuckoo_asked h l = some 1 ∧ HshOK h ∧ ∃ n ∈ l, ¬ ItemOK n) ∨ (cuckoo_asked h l = some 0 ∧ HshOK h ∧ ∀ n ∈ l, ItemOK n) := by
  unfold cuckoo_asked
  rcases check_ok h with ⟨e, hk⟩ | ⟨e, hk⟩
  · rw [e]
    simp only [Option.bind_some]
    rw [if_neg (by simp)]
    unfold slices_ContainsFunc_Lintint slices_IndexFunc_Lintint
    obtain ⟨r, e2, h2⟩ := ask_L l 0
    rw [e2]
    simp only [Option.bind_some]
    by_cases hr : 0 ≤ r
    · rw [if_pos (decide_eq_true hr)]; exact .inr (.inl ⟨rfl, hk, h2.1 hr⟩)
    · rw [if_neg (by simp [hr])]
      refine .inr (.inr ⟨rfl, hk, fun n hn => ?_⟩)
      rcases Classical.em (ItemOK n) with h | h
      · exact h
      · exact absurd (h2.2 ⟨n, hn, h⟩) hr
  · rw [e]
    simp only [Option.bind_some]
    rw [if_pos (by simp)]
    exact .inl ⟨rfl, hk⟩

theorem all_L' {h : Hsh} (hk : HshOK h) : ∀ (l : List Int) (acc : List (List Int)), acc.length + l.length ≤ 16777216 → ((∀ n ∈ l, ItemOK n) ∧ ref19_all_L1 h.1 h.2 l acc = some (acc ++ l.map (homeL h), 0)) ∨ ((∃ n ∈ l, ¬ ItemOK n) ∧ ref19_all_L1 h.1 h.2 l acc = some ([], 1))
  | [], acc, _ => .inl ⟨by simp, by simp [ref19_all_L1]⟩
  | n :: l, acc, hl => by
    rw [ref19_all_L1]
    unfold ref19_all_B1
    simp only [List.length_cons] at hl
    rcases Classical.em (ItemOK n) with hn | hn
    · rw [rhomes_ok hk hn]
      simp only [Option.bind_some]
      rw [if_neg (by simp), lapp_ok (by simp; omega)]
      simp only [Option.bind_some]
      rcases all_L' hk l (acc ++ [homeL h n]) (by simp; omega) with ⟨h1, e⟩ | ⟨⟨m, hm, h1⟩, e⟩
      · exact .inl ⟨fun m hm => by rcases List.mem_cons.1 hm with rfl | hm; exact hn; exact h1 m hm, by rw [e]; simp⟩
      · exact .inr ⟨⟨m, List.mem_cons_of_mem _ hm, h1⟩, e⟩
    · rw [rhomes_bad hk hn]
      simp only [Option.bind_some]
      rw [if_pos (by simp)]
      exact .inr ⟨⟨n, List.mem_cons_self, hn⟩, rfl⟩

theorem start_L {h : Hsh} (hk : HshOK h) (bk : List Int) (fx : List Bool) : ∀ (l : List Int) (acc : List (List Int)), (∀ n ∈ l, ItemOK n) → acc.length + l.length ≤ 16777216 → cuckoo_start_L1 h.1 h.2 bk fx l acc = some (acc ++ l.map (homeL h), bk, fx)
  | [], acc, _, _ => by simp [cuckoo_start_L1]
  | n :: l, acc, hn, hl => by
    rw [cuckoo_start_L1]
    unfold cuckoo_start_B1
    simp only [List.length_cons] at hl
    rw [homes_ok (h := (h.1, h.2)) hk (hn n List.mem_cons_self)]
    simp only [Option.bind_some]
    rw [lapp_ok (by simp; omega)]
    simp only [Option.bind_some]
    rw [start_L hk bk fx l _ (fun m hm => hn m (List.mem_cons_of_mem _ hm)) (by simp; omega)]
    simp
theorem start_L3 (kx : List Int → Int → Option (List (List Int) × List Int × List Bool)) (z : Int) : ∀ (xs : List Int) (n N : Nat), n + xs.length = N → cuckoo_start_L3 kx z xs n (List.replicate n (-1) ++ xs) = kx (List.replicate N (-1)) z
  | [], n, N, h => by simp at h; subst h; simp [cuckoo_start_L3]
  | x :: xs, n, N, h => by
    rw [cuckoo_start_L3]
    unfold cuckoo_start_B3
    simp only [List.length_cons] at h
    rw [at_idx (-1) (by omega) (by simp; omega), lupd_ok (by omega) (by simp; omega)]
    simp only [Option.bind_some]
    have e : (List.replicate n (-1 : Int) ++ x :: xs).set (n : Int).toNat (-1) = List.replicate (n + 1) (-1) ++ xs := by
      rw [Int.toNat_natCast, List.set_append_right _ _ (by simp)]
      simp [List.replicate_succ']
    rw [e]
    exact start_L3 kx z xs (n + 1) N (by omega)
theorem start_ok {h : Hsh} (hk : HshOK h) {l : List Int} (hl : ∀ n ∈ l, ItemOK n) (hlen : l.length ≤ 16777216) : cuckoo_start h l = some (l.map (homeL h), List.replicate h.1.toNat (-1), List.replicate h.1.toNat false) := by
  unfold cuckoo_start
  have h1 := hk.1; have h2 := hk.2.1
  have hm0 : lmk h.1 (0 : Int) = some (List.replicate h.1.toNat 0) := by unfold lmk; rw [if_pos (by omega)]
  have hm1 : lmk h.1 false = some (List.replicate h.1.toNat false) := by unfold lmk; rw [if_pos (by omega)]
  rw [hm0, hm1]
  simp only [Option.bind_some]
  unfold cuckoo_start_J4
  have := start_L3 (cuckoo_start_J2 l h.2 (List.replicate h.1.toNat false)) h.1 (List.replicate h.1.toNat 0) 0 h.1.toNat (by simp)
  simp only [List.replicate_zero, List.nil_append] at this
  rw [this]
  unfold cuckoo_start_J2
  have := start_L hk (List.replicate h.1.toNat (-1)) (List.replicate h.1.toNat false) l [] hl (by simpa using hlen)
  simpa using this
end Go.Proofs.Ytbhmhindommaeaa

/- Chapter 19, plain: the program assigns as the reference does. -/
namespace Go.Proofs.Ytbhmhindommaeaa
set_option linter.unusedVariables false

theorem first_uniq {Q : Int → Prop} : ∀ {pre pre' : List Int} {b b' : Int} {post post' : List Int}, pre ++ b :: post = pre' ++ b' :: post' → (∀ c ∈ pre, ¬ Q c) → Q b → (∀ c ∈ pre', ¬ Q c) → Q b' → b = b'
  | [], [], b, b', post, post', e, _, _, _, _ => by simp at e; exact e.1
  | [], c :: pre', b, b', post, post', e, _, hb, h', _ => by
    simp at e; rw [← e.1] at h'; exact absurd hb (h' b List.mem_cons_self)
  | c :: pre, [], b, b', post, post', e, h, _, _, hb' => by
    simp at e; rw [e.1] at h; exact absurd hb' (h b' List.mem_cons_self)
  | c :: pre, c' :: pre', b, b', post, post', e, h, hb, h', hb' => by
    simp at e
    exact first_uniq e.2 (fun x hx => h x (List.mem_cons_of_mem _ hx)) hb (fun x hx => h' x (List.mem_cons_of_mem _ hx)) hb'

theorem greedy_same {homes : List (List Int)} {bk : Bk} : ∀ (hs : List (List Int)) (i : Int) (fixed : List Bool) (bs : List Int), Greedy homes i hs fixed bk → GreedyL homes i hs fixed bs → bs.length = hs.length ∧ ∀ k : Nat, k < bs.length → at' (-1) bk (bs.getD k 0) = i + k ∧ bs.getD k 0 ∈ hs.getD k []
  | [], i, fixed, bs, _, h => by cases h; simp
  | l :: hs, i, fixed, bs, ⟨pre, b, post, e1, f1, a1, n1, p1, g1⟩, ⟨pre', b', post', bs', e0, e2, f2, n2, p2, g2⟩ => by
    subst e0
    have hb : b = b' := first_uniq (Q := fun c => at' false fixed c = false ∧ Placeable homes (fixed.set c.toNat true) (i + 1)) (by rw [← e1, e2]) (fun c hc hq => by
      rcases n1 c hc with h | h
      · rw [h] at hq; cases hq.1
      · exact h hq.2) ⟨f1, p1⟩ (fun c hc hq => by
      rcases n2 c hc with h | h
      · rw [h] at hq; cases hq.1
      · exact h hq.2) ⟨f2, p2⟩
    subst hb
    obtain ⟨h1, h2⟩ := greedy_same hs (i + 1) _ bs' g1 g2
    refine ⟨by simp [h1], fun k hk => ?_⟩
    cases k with
    | zero => simp only [List.getD_cons_zero]; exact ⟨by rw [a1]; simp, by rw [e1]; simp⟩
    | succ k =>
      simp only [List.getD_cons_succ]
      obtain ⟨h3, h4⟩ := h2 k (by simpa using hk)
      exact ⟨by rw [h3]; push_cast; omega, h4⟩

theorem list_ext_at {l m : List Int} (hl : l.length = m.length) (h : ∀ b : Int, 0 ≤ b → b < l.length → at' (-1) l b = at' (-1) m b) : l = m := by
  apply List.ext_getElem hl
  intro n h1 h2
  have := h n (by omega) (by omega)
  unfold at' at this
  rw [Int.toNat_natCast, List.getD_eq_getElem?_getD, List.getD_eq_getElem?_getD, List.getElem?_eq_getElem h1, List.getElem?_eq_getElem h2] at this
  exact this

theorem build_L {B : Int} {bk : Bk} (hb : (bk.length : Int) = B) (hlt : ∀ v ∈ bk, -1 ≤ v) (le : ∀ j, 0 ≤ j → bk.count j ≤ 1) (z : Int) (kx : List Int → Int → Option (List Int × Int)) :
    ∀ (bs : List Int) (i : Nat) (v : List Int), (v.length : Int) = B → (∀ k : Nat, k < bs.length → at' (-1) bk (bs.getD k 0) = i + k ∧ 0 ≤ bs.getD k 0 ∧ bs.getD k 0 < B) → (∀ c, 0 ≤ c → c < B → at' (-1) bk c < (i : Int) + bs.length) → (∀ c, 0 ≤ c → c < B → at' (-1) v c = if at' (-1) bk c < i then at' (-1) bk c else -1) →
      ref19_Assign_L2 kx z bs i v = kx bk z
  | [], i, v, hv, _, hn, hr => by
    rw [ref19_Assign_L2]
    congr 1
    refine list_ext_at (by omega) fun b b0 bl => ?_
    have := hn b b0 (by omega)
    rw [hr b b0 (by omega), if_pos (by simpa using this)]
  | b :: bs, i, v, hv, hk, hn, hr => by
    obtain ⟨h1, b0, bB⟩ := hk 0 (by simp)
    simp only [List.getD_cons_zero] at h1 b0 bB
    rw [ref19_Assign_L2]
    unfold ref19_Assign_B2
    rw [at_idx (-1) b0 (by omega), lupd_ok b0 (by omega)]
    simp only [Option.bind_some]
    refine build_L hb hlt le z kx bs (i + 1) _ (by simpa using hv) (fun k hkl => ?_) (fun c c0 cB => ?_) (fun c c0 cB => ?_)
    · have := hk (k + 1) (by simpa using hkl)
      simp only [List.getD_cons_succ] at this
      refine ⟨by rw [this.1]; push_cast; omega, this.2⟩
    · have := hn c c0 cB; simp only [List.length_cons] at this; push_cast at this ⊢; omega
    · rw [at_set (-1) b0 (by omega) c0, hr c c0 cB]
      by_cases e : c = b
      · subst e; rw [if_pos rfl, if_pos (by rw [h1]; push_cast; omega), h1]; simp
      · rw [if_neg e]
        have hne : at' (-1) bk c ≠ i := fun he => by
          have h2 := at_count (l := bk) ⟨c0, by omega⟩ ⟨b0, by omega⟩ he (by rw [h1]; simp) e
          have := le i (by omega)
          omega
        by_cases h3 : at' (-1) bk c < i
        · rw [if_pos h3, if_pos (by push_cast; omega)]
        · rw [if_neg h3, if_neg (by push_cast; omega)]
theorem wipe_L (z : Int) (kx : List Int → Int → Option (List Int × Int)) : ∀ (xs : List Int) (n N : Nat), n + xs.length = N → ref19_Assign_L4 kx z xs n (List.replicate n (-1) ++ xs) = kx (List.replicate N (-1)) z
  | [], n, N, h => by simp at h; subst h; simp [ref19_Assign_L4]
  | x :: xs, n, N, h => by
    rw [ref19_Assign_L4]
    unfold ref19_Assign_B4
    simp only [List.length_cons] at h
    rw [at_idx (-1) (by omega) (by simp; omega), lupd_ok (by omega) (by simp; omega)]
    simp only [Option.bind_some]
    have e : (List.replicate n (-1 : Int) ++ x :: xs).set (n : Int).toNat (-1) = List.replicate (n + 1) (-1) ++ xs := by
      rw [Int.toNat_natCast, List.set_append_right _ _ (by simp)]
      simp [List.replicate_succ']
    rw [e]
    exact wipe_L z kx xs (n + 1) N (by omega)

def nofix (h : Hsh) : List Bool := List.replicate h.1.toNat false
theorem fst0 {h : Hsh} (hk : HshOK h) (homes : List (List Int)) : Fst h.1 homes (nofix h) 0 (List.replicate h.1.toNat (-1)) := by
  have h1 := hk.1
  refine ⟨⟨by simp; omega, fun v hv => by rw [(List.mem_replicate.1 hv).2]; omega⟩, by simp [nofix]; omega, fun j hj => by rw [List.count_replicate, if_neg (by simp; omega)]; omega, fun b b0 bB => ?_, fun b b0 bB => ?_⟩
  · unfold nofix; rw [at_rep _ _ b0 (by omega), at_rep _ _ b0 (by omega)]; simp
  · rw [at_rep _ _ b0 (by omega)]; omega

/-- What the program and the reference hand back. -/
theorem assign_ok (h : Hsh) (l : List Int) (hl : l.length ≤ 100000) :
    (¬ HshOK h ∧ cuckoo_Assign h l = some ([], 2) ∧ ref19_Assign h l = some ([], 2)) ∨
    (HshOK h ∧ (∃ n ∈ l, ¬ ItemOK n) ∧ cuckoo_Assign h l = some ([], 1) ∧ ref19_Assign h l = some ([], 1)) ∨
    (HshOK h ∧ (∀ n ∈ l, ItemOK n) ∧ h.1 < l.length ∧ cuckoo_Assign h l = some ([], 4) ∧ ref19_Assign h l = some ([], 4)) ∨
    (HshOK h ∧ (∀ n ∈ l, ItemOK n) ∧ l.length ≤ h.1 ∧ ¬ Placeable (l.map (homeL h)) (nofix h) 0 ∧ cuckoo_Assign h l = some ([], 15) ∧ ref19_Assign h l = some ([], 15)) ∨
    (HshOK h ∧ (∀ n ∈ l, ItemOK n) ∧ l.length ≤ h.1 ∧ Placeable (l.map (homeL h)) (nofix h) 0 ∧ ∃ bk fixed, cuckoo_Assign h l = some (bk, 0) ∧ ref19_Assign h l = some (bk, 0) ∧ Fst h.1 (l.map (homeL h)) fixed l.length bk ∧ Greedy (l.map (homeL h)) 0 (l.map (homeL h)) (nofix h) bk) := by
  have hC : ∀ {e : Int}, cuckoo_asked h l = some e → e ≠ 0 → cuckoo_Assign h l = some ([], e) := fun he hne => by
    unfold cuckoo_Assign; rw [he]; simp only [Option.bind_some]; rw [if_pos hne]
  have hC2 : cuckoo_asked h l = some 0 → cuckoo_Assign h l = if h.1 < (l.length : Int) then some ([], 4) else (cuckoo_start h l).bind fun u13 => (cuckoo_placing_first u13).bind fun u43 => if ((!u43.1) = true) then (some (([] : List Int), 15)) else some (u43.2.1, 0) := fun he => by
    unfold cuckoo_Assign; rw [he]; simp only [Option.bind_some]; rw [if_neg (by simp)]
  have hR : ∀ {x : List (List Int)} {e : Int}, ref19_all h l = some (x, e) → e ≠ 0 → ref19_Assign h l = some ([], e) := fun he hne => by
    unfold ref19_Assign; rw [he]; simp only [Option.bind_some]; rw [if_pos hne]
  have hR2 : ∀ {x : List (List Int)}, ref19_all h l = some (x, 0) → ref19_Assign h l = if h.1 < (l.length : Int) then some ([], 4) else (ref19_First x h.1 1).bind fun u27 => if ((!u27.2) = true) then (some (([] : List Int), 15)) else (lmk h.1 0).bind fun u39 => ref19_Assign_L4 (ref19_Assign_J3 u27.1) h.1 u39 0 u39 := fun he => by
    unfold ref19_Assign; rw [he]; simp only [Option.bind_some]; rw [if_neg (by simp)]
  have hA : cuckoo_Check h = some 0 → ref19_all h l = ref19_all_L1 h.1 h.2 l [] := fun he => by
    unfold ref19_all; rw [rcheck, he]; simp only [Option.bind_some]; rw [if_neg (by simp)]
  rcases asked_ok h l with ⟨e, hk⟩ | ⟨e, hk, hx⟩ | ⟨e, hk, hx⟩
  · rcases check_ok h with ⟨_, hc⟩ | ⟨ec, _⟩
    · exact absurd hc hk
    · refine .inl ⟨hk, hC e (by omega), hR (x := []) ?_ (by omega)⟩
      unfold ref19_all; rw [rcheck, ec]; simp only [Option.bind_some]; rw [if_pos (by simp)]
  · rcases check_ok h with ⟨ec, _⟩ | ⟨_, hc⟩
    · rcases all_L' hk l [] (by simp; omega) with ⟨ha, _⟩ | ⟨_, ea⟩
      · obtain ⟨n, hn, hb⟩ := hx; exact absurd (ha n hn) hb
      · exact .inr (.inl ⟨hk, hx, hC e (by omega), hR ((hA ec).trans ea) (by omega)⟩)
    · exact absurd hk hc
  · rcases check_ok h with ⟨ec, _⟩ | ⟨_, hc⟩
    · rcases all_L' hk l [] (by simp; omega) with ⟨_, ea⟩ | ⟨⟨n, hn, hb⟩, _⟩
      · rw [List.nil_append] at ea
        have h5 := hC2 e
        have h6 := hR2 ((hA ec).trans ea)
        by_cases hlen : h.1 < (l.length : Int)
        · rw [if_pos hlen] at h5 h6
          exact .inr (.inr (.inl ⟨hk, hx, hlen, h5, h6⟩))
        · rw [if_neg hlen] at h5 h6
          have h1 := hk.1; have h2 := hk.2.1
          have hh := homesOK hk l
          obtain ⟨r, bk, fixed, e1, g1, g2⟩ := first_L2 hh (by omega) (by simp; omega) (l.map (homeL h)) 0 (nofix h) (List.replicate h.1.toNat (-1)) rfl (fst0 hk _) (Nat.zero_le _)
          have hu : UsedOf h.1 (nofix h) (List.replicate h.1.toNat 0) := ⟨by simp; omega, by simp [nofix]; omega, fun b b0 bB => by unfold nofix; rw [at_rep _ _ b0 (by omega), at_rep _ _ b0 (by omega)]; rfl⟩
          obtain ⟨rp, e2, hp⟩ := poss_ok hh (by omega) hu
          have hm0 : lmk h.1 (0 : Int) = some (List.replicate h.1.toNat 0) := by unfold lmk; rw [if_pos (by omega)]
          have hcf : cuckoo_placing_first (l.map (homeL h), List.replicate h.1.toNat (-1), List.replicate h.1.toNat false) = some (r, bk, fixed) := e1
          rw [start_ok hk hx (by omega), Option.bind_some, hcf, Option.bind_some] at h5
          have hrf : ref19_First (l.map (homeL h)) h.1 1 = if ((!rp) = true) then some ([], false) else ref19_First_L2 (l.map (homeL h)) h.1 1 (l.map (homeL h)) 0 [] (List.replicate h.1.toNat 0) := by
            unfold ref19_First; rw [hm0, Option.bind_some, e2, Option.bind_some]
          cases r with
          | false =>
            have hnp : ¬ Placeable (l.map (homeL h)) (nofix h) 0 := fun hq => by have := g1.2 (by exact_mod_cast hq); cases this
            have hrp : rp = false := by
              cases rp with
              | false => rfl
              | true => exact absurd (hp.1 rfl) hnp
            subst hrp
            rw [if_pos (by rfl)] at hrf
            rw [hrf] at h6
            exact .inr (.inr (.inr (.inl ⟨hk, hx, by omega, hnp, by simpa using h5, by simpa using h6⟩)))
          | true =>
            have hpl : Placeable (l.map (homeL h)) (nofix h) 0 := by exact_mod_cast g1.1 rfl
            have hrp : rp = true := hp.2 hpl
            subst hrp
            rw [if_neg (by simp)] at hrf
            obtain ⟨k1, k2, k3⟩ := g2 rfl
            obtain ⟨bs, e3, hg⟩ := rfirst_L2 hh (by omega) (by simp; omega) (l.map (homeL h)) 0 (nofix h) (List.replicate h.1.toNat 0) [] rfl hu rfl (Nat.zero_le _) (by exact_mod_cast hpl)
            have hk3 : Greedy (l.map (homeL h)) 0 (l.map (homeL h)) (nofix h) bk := by exact_mod_cast k3
            obtain ⟨hbl, hbs⟩ := greedy_same _ 0 _ bs hk3 (by exact_mod_cast hg)
            have hk1 : Fst h.1 (l.map (homeL h)) fixed l.length bk := by simpa using k1
            rw [e3, List.nil_append] at hrf
            rw [hrf, Option.bind_some] at h6
            have hw := wipe_L h.1 (ref19_Assign_J3 bs) (List.replicate h.1.toNat 0) 0 h.1.toNat (by simp)
            simp only [List.replicate_zero, List.nil_append] at hw
            have hb := hk1.ok.1
            have hbuild := build_L hb (fun v hv => (hk1.ok.2 v hv).1) hk1.le h.1 ref19_Assign_J1 bs 0 (List.replicate h.1.toNat (-1)) (by simp; omega) (fun k hkl => by
              obtain ⟨a1, a2⟩ := hbs k hkl
              refine ⟨by simpa using a1, hh _ ?_ _ a2⟩
              rw [List.getD_eq_getElem?_getD, List.getElem?_eq_getElem (by omega)]
              exact List.getElem_mem _) (fun c c0 cB => by
              have := hk1.lt c c0 cB
              rw [hbl]; simp; exact this) (fun c c0 cB => by
              have := (hk1.ok.2 _ (at_mem (-1) (l := bk) c0 (by omega))).1
              rw [at_rep _ _ c0 (by omega)]
              split
              · rename_i h7; have h8 : at' (-1) bk c < 0 := by simpa using h7
                omega
              · rfl)
            refine .inr (.inr (.inr (.inr ⟨hk, hx, by omega, hpl, bk, fixed, by simpa using h5, ?_, hk1, hk3⟩)))
            rw [h6, if_neg (by simp), hm0, Option.bind_some, hw]
            unfold ref19_Assign_J3
            rw [hbuild]; rfl
      · exact absurd (hx n hn) hb
    · exact absurd hk hc
end Go.Proofs.Ytbhmhindommaeaa

/- Chapter 19, plain: the sanity check. -/
namespace Go.Proofs.Ytbhmhindommaeaa
set_option maxRecDepth 100000
theorem sane19 : law19_sane = some true := by kernel_rfl
end Go.Proofs.Ytbhmhindommaeaa

/- Chapter 19, plain: hashings, items and orders out of packs. -/
namespace Go.Proofs.Ytbhmhindommaeaa
set_option linter.unusedVariables false

theorem hashing_L {l : List Int} (hl : l.length ≤ 1000) (z : Int) : ∀ (m fuel : Nat) (d : List Int × Int) (ps : List (Int × Int)), m < fuel → m ≤ 3 → ps.length + m ≤ 100 → Dk l d → (∀ p ∈ ps, PairOK p) →
    ∃ qs e, make_Hashing_L2 make_Hashing_J1 z fuel ((m : Int) - 1) d.1 d.2 ps = some ((z, qs), e) ∧ Dk l e ∧ qs.length = ps.length + m ∧ ∀ p ∈ qs, PairOK p
  | 0, fuel + 1, d, ps, _, _, _, hd, hp => by
    rw [make_Hashing_L2]
    unfold make_Hashing_B2
    rw [if_neg (by omega)]
    exact ⟨ps, (d.1, d.2), rfl, hd, by simp, hp⟩
  | m + 1, fuel + 1, d, ps, hf, hm, hps, hd, hp => by
    rw [make_Hashing_L2]
    unfold make_Hashing_B2
    rw [if_pos (by omega)]
    obtain ⟨v, e1, h1, a1, b1, c1⟩ := next_ok hl (d := (d.1, d.2)) hd (n := 1000) (by omega)
    rw [h1]
    simp only [Option.bind_some]
    obtain ⟨w, e2, h2, a2, b2, c2⟩ := next_ok hl c1 (n := 1000) (by omega)
    rw [h2]
    simp only [Option.bind_some]
    rw [lapp_ok (by simp; omega)]
    simp only [Option.bind_some]
    rw [w64_id (by omega) (by omega), show ((m + 1 : Nat) : Int) - 1 - 1 = (m : Int) - 1 from by omega]
    obtain ⟨qs, e, k1, k2, k3, k4⟩ := hashing_L hl z m fuel e2 (ps ++ [(v, w)]) (by omega) (by omega) (by rw [List.length_append, List.length_singleton]; omega) c2 (fun p hp' => by
      rcases List.mem_append.1 hp' with h | h
      · exact hp p h
      · rw [List.mem_singleton.1 h]; unfold PairOK; dsimp only; omega)
    exact ⟨qs, e, k1, k2, by rw [k3]; simp; omega, k4⟩
theorem hashing_ok {l : List Int} (hl : l.length ≤ 1000) {d : List Int × Int} (hd : Dk l d) : ∃ h e, make_Hashing d = some (h, e) ∧ HshOK h ∧ h.1 ≤ 8 ∧ Dk l e := by
  unfold make_Hashing
  obtain ⟨v, e1, h1, a1, b1, c1⟩ := next_ok hl hd (n := 8) (by omega)
  rw [h1]
  simp only [Option.bind_some]
  obtain ⟨k, e2, h2, a2, b2, c2⟩ := next_ok hl c1 (n := 3) (by omega)
  rw [h2]
  simp only [Option.bind_some]
  rw [w64_id (by omega) (by omega)]
  obtain ⟨qs, e, k1, k2, k3, k4⟩ := hashing_L hl (1 + v) (k.toNat + 1) big e2 [] (by simp only [big]; omega) (by omega) (by simp; omega) c2 (by simp)
  rw [show (((k.toNat + 1 : Nat) : Int) - 1) = k from by omega] at k1
  exact ⟨(1 + v, qs), e, k1, ⟨by dsimp only; omega, by dsimp only; omega, by dsimp only; simp at k3; omega, by dsimp only; simp at k3; omega, k4⟩, by dsimp only; omega, k2⟩

theorem items_L {l : List Int} (hl : l.length ≤ 1000) : ∀ (m fuel : Nat) (acc : List Int) (d : List Int × Int), m < fuel → m + acc.length ≤ 1000 → Dk l d → (∀ n ∈ acc, 0 ≤ n ∧ n < 30) →
    ∃ r e, law19_items_L1 fuel acc (m : Int) d.1 d.2 = some (r, e) ∧ Dk l e ∧ r.length = acc.length + m ∧ ∀ n ∈ r, 0 ≤ n ∧ n < 30
  | 0, fuel + 1, acc, d, _, _, hd, ha => by
    rw [law19_items_L1]
    unfold law19_items_B1
    rw [if_neg (by omega)]
    exact ⟨acc, (d.1, d.2), rfl, hd, by simp, ha⟩
  | m + 1, fuel + 1, acc, d, hf, hm, hd, ha => by
    rw [law19_items_L1]
    unfold law19_items_B1
    rw [if_pos (by omega)]
    obtain ⟨v, e1, h1, a1, b1, c1⟩ := next_ok hl (d := (d.1, d.2)) hd (n := 30) (by omega)
    rw [h1]
    simp only [Option.bind_some]
    rw [lapp_ok (by simp; omega)]
    simp only [Option.bind_some]
    rw [w64_id (by omega) (by omega), show ((m + 1 : Nat) : Int) - 1 = (m : Int) from by omega]
    obtain ⟨r, e, k1, k2, k3, k4⟩ := items_L hl m fuel (acc ++ [v]) e1 (by omega) (by simp; omega) c1 (fun n hn => by
      rcases List.mem_append.1 hn with h | h
      · exact ha n h
      · rw [List.mem_singleton.1 h]; omega)
    exact ⟨r, e, k1, k2, by rw [k3]; simp; omega, k4⟩
theorem items_ok {l : List Int} (hl : l.length ≤ 1000) {d : List Int × Int} (hd : Dk l d) {B : Int} (hB : 1 ≤ B ∧ B ≤ 100) : ∃ r e, law19_items d B = some (r, e) ∧ Dk l e ∧ (r.length : Int) ≤ B ∧ ∀ n ∈ r, 0 ≤ n ∧ n < 30 := by
  unfold law19_items
  rw [w64_id (by omega) (by omega)]
  obtain ⟨v, e1, h1, a1, b1, c1⟩ := next_ok hl hd (n := B + 1) (by omega)
  rw [h1]
  simp only [Option.bind_some]
  obtain ⟨r, e, k1, k2, k3, k4⟩ := items_L hl v.toNat big [] e1 (by simp only [big]; omega) (by simp; omega) c1 (by simp)
  rw [show ((v.toNat : Nat) : Int) = v from by omega] at k1
  exact ⟨r, e, k1, k2, by simp at k3; omega, k4⟩

theorem order_L1 {l : List Int} (hl : l.length ≤ 1000) : ∀ (m fuel : Nat) (rest out : List Int) (d : List Int × Int), rest.length = m → m < fuel → m + out.length ≤ 1000 → Dk l d →
    ∃ r e, make_Order_L1 fuel rest out d.1 d.2 = some (r, e) ∧ Dk l e ∧ r.Perm (out ++ rest)
  | 0, fuel + 1, rest, out, d, hr, _, _, hd => by
    have : rest = [] := List.eq_nil_of_length_eq_zero hr
    subst this
    rw [make_Order_L1]
    unfold make_Order_B1
    rw [if_neg (by simp)]
    exact ⟨out, (d.1, d.2), rfl, hd, by simp⟩
  | m + 1, fuel + 1, rest, out, d, hr, hf, hm, hd => by
    rw [make_Order_L1]
    unfold make_Order_B1
    rw [if_pos (by omega)]
    obtain ⟨v, e1, h1, a1, b1, c1⟩ := next_ok hl (d := (d.1, d.2)) hd (n := (rest.length : Int)) (by omega)
    rw [h1]
    simp only [Option.bind_some]
    have hk : v.toNat < rest.length := by omega
    rw [lidx_ok 0 a1 b1]
    simp only [Option.bind_some]
    rw [lapp_ok (by simp; omega)]
    simp only [Option.bind_some]
    have hs3 : lsub3 rest 0 v v = some (rest.take v.toNat) := by
      unfold lsub3
      rw [if_pos ⟨Int.le_refl _, by omega⟩, lsub_ok (by omega) a1 (by omega)]
      simp
    have hs : lsub rest (w64 (v + 1)) (rest.length : Int) = some (rest.drop (v.toNat + 1)) := by
      rw [w64_id (by omega) (by omega), lsub_ok (by omega) (by omega) (by omega), show (v + 1).toNat = v.toNat + 1 from by omega]
      congr 1
      exact List.take_of_length_le (by simp; omega)
    rw [hs3, hs]
    simp only [Option.bind_some]
    rw [lapp_ok (by simp; omega)]
    simp only [Option.bind_some]
    have hsplit : rest = rest.take v.toNat ++ rest.getD v.toNat 0 :: rest.drop (v.toNat + 1) := by
      rw [List.getD_eq_getElem?_getD, List.getElem?_eq_getElem hk, Option.getD_some, ← List.drop_eq_getElem_cons hk, List.take_append_drop]
    obtain ⟨r, e, k1, k2, k3⟩ := order_L1 hl m fuel (rest.take v.toNat ++ rest.drop (v.toNat + 1)) (out ++ [rest.getD v.toNat 0]) e1 (by simp; omega) (by omega) (by simp; omega) c1
    refine ⟨r, e, k1, k2, k3.trans ?_⟩
    conv => rhs; rw [hsplit]
    rw [List.append_assoc]
    refine List.Perm.append_left _ ?_
    rw [List.singleton_append]
    exact List.perm_middle.symm
theorem order_L3 {l : List Int} (n : Nat) (z2 : Int) (kx : List Int → Int → Option (List Int × List Int × Int)) : ∀ (m k fuel : Nat), k + m = n → m < fuel → n ≤ 1000 → make_Order_L3 kx (n : Int) z2 fuel ((List.range k).map fun (i : Nat) => (i : Int)) (k : Int) = kx ((List.range n).map fun (i : Nat) => (i : Int)) z2
  | 0, k, fuel + 1, hk, _, _ => by
    simp at hk; subst hk
    rw [make_Order_L3]
    unfold make_Order_B3
    rw [if_neg (by omega)]
  | m + 1, k, fuel + 1, hk, hf, hn => by
    rw [make_Order_L3]
    unfold make_Order_B3
    rw [if_pos (by omega), lapp_ok (by simp; omega)]
    simp only [Option.bind_some]
    rw [w64_id (by omega) (by omega)]
    have := order_L3 (l := l) n z2 kx m (k + 1) fuel (by omega) (by omega) hn
    rw [List.range_succ, List.map_append] at this
    exact_mod_cast this
end Go.Proofs.Ytbhmhindommaeaa

/- Chapter 19, plain: whether items can be placed does not hang on their order. -/
namespace Go.Proofs.Ytbhmhindommaeaa
set_option linter.unusedVariables false

/-- Buckets for lists of homes, no two the same. -/
def PlacesL (ls : List (List Int)) (fixed : List Bool) : Prop := ∃ ps : List (Int × List Int), ps.map (·.2) = ls ∧ (∀ p ∈ ps, p.1 ∈ p.2 ∧ at' false fixed p.1 = false) ∧ (ps.map (·.1)).Nodup

theorem placesL_of {homes : List (List Int)} {fixed : List Bool} : Placeable homes fixed 0 ↔ PlacesL homes fixed := by
  constructor
  · rintro ⟨f, h1, h2⟩
    refine ⟨(List.range homes.length).map fun (i : Nat) => (f i, at' [] homes (i : Int)), ?_, fun p hp => ?_, ?_⟩
    · rw [List.map_map]
      apply List.ext_getElem (by simp)
      intro n a b
      simp only [List.getElem_map, List.getElem_range, Function.comp]
      unfold at'
      rw [Int.toNat_natCast, List.getD_eq_getElem?_getD, List.getElem?_eq_getElem (by simpa using a)]; rfl
    · obtain ⟨i, hi, rfl⟩ := List.mem_map.1 hp
      exact h1 i (by omega) (by have := List.mem_range.1 hi; omega)
    · rw [List.map_map]
      refine nodup_map List.nodup_range fun x hx y hy e => ?_
      have := h2 x y (by omega) (by have := List.mem_range.1 hx; omega) (by omega) (by have := List.mem_range.1 hy; omega) e
      omega
  · rintro ⟨ps, rfl, h2, h3⟩
    refine ⟨fun j => (ps.getD j.toNat (0, [])).1, fun j hj hn => ?_, fun j k hj hn hk hkn e => ?_⟩
    · have hl : j.toNat < ps.length := by simp at hn; omega
      have h5 : ps.getD j.toNat (0, []) = ps[j.toNat] := by rw [List.getD_eq_getElem?_getD, List.getElem?_eq_getElem hl]; rfl
      have h6 : at' [] (ps.map (·.2)) j = (ps[j.toNat]).2 := by
        unfold at'; rw [List.getD_eq_getElem?_getD, List.getElem?_map, List.getElem?_eq_getElem hl]; rfl
      rw [h6]
      show (ps.getD j.toNat (0, [])).1 ∈ _ ∧ at' false fixed (ps.getD j.toNat (0, [])).1 = false
      rw [h5]
      exact h2 _ (List.getElem_mem hl)
    · have hl : j.toNat < ps.length := by simp at hn; omega
      have hl2 : k.toNat < ps.length := by simp at hkn; omega
      have h5 : ∀ {n : Nat} (h : n < ps.length), ps.getD n (0, []) = ps[n] := fun h => by rw [List.getD_eq_getElem?_getD, List.getElem?_eq_getElem h]; rfl
      simp only at e
      rw [h5 hl, h5 hl2] at e
      have := (List.getElem_inj (i := j.toNat) (j := k.toNat) (h₀ := by simpa using hl) (h₁ := by simpa using hl2) h3).1 (by simpa using e)
      omega

theorem perm_lift {α β : Type} (f : α → β) {l m : List β} (h : l.Perm m) : ∀ ps : List α, ps.map f = l → ∃ qs : List α, qs.Perm ps ∧ qs.map f = m := by
  induction h with
  | nil => intro ps hp; exact ⟨ps, List.Perm.refl _, hp⟩
  | cons x _ ih =>
    intro ps hp
    cases ps with
    | nil => simp at hp
    | cons p ps =>
      simp only [List.map_cons, List.cons.injEq] at hp
      obtain ⟨qs, h1, h2⟩ := ih ps hp.2
      exact ⟨p :: qs, h1.cons p, by simp [hp.1, h2]⟩
  | swap x y l =>
    intro ps hp
    cases ps with
    | nil => simp at hp
    | cons p ps =>
      cases ps with
      | nil => simp at hp
      | cons q ps =>
        simp only [List.map_cons, List.cons.injEq] at hp
        exact ⟨q :: p :: ps, List.Perm.swap p q ps, by simp [hp.1, hp.2.1, hp.2.2]⟩
  | trans _ _ ih1 ih2 =>
    intro ps hp
    obtain ⟨qs, h1, h2⟩ := ih1 ps hp
    obtain ⟨rs, h3, h4⟩ := ih2 qs h2
    exact ⟨rs, h3.trans h1, h4⟩

theorem PlacesL.perm {l m : List (List Int)} {fixed : List Bool} (h : l.Perm m) : PlacesL l fixed → PlacesL m fixed := by
  rintro ⟨ps, h1, h2, h3⟩
  obtain ⟨qs, k1, k2⟩ := perm_lift _ h ps h1
  exact ⟨qs, k2, fun p hp => h2 p (k1.mem_iff.1 hp), (k1.map _).nodup_iff.2 h3⟩
theorem placeable_perm {l m : List (List Int)} {fixed : List Bool} (h : l.Perm m) : Placeable l fixed 0 ↔ Placeable m fixed 0 := by
  rw [placesL_of, placesL_of]; exact ⟨PlacesL.perm h, PlacesL.perm h.symm⟩

/-- One item less, or more homes, are never harder. -/
theorem PlacesL.sub {l m : List (List Int)} {fixed : List Bool} (h : m.Sublist l) : PlacesL l fixed → PlacesL m fixed := by
  rintro ⟨ps, h1, h2, h3⟩
  subst h1
  obtain ⟨qs, k1, k2⟩ := List.sublist_map_iff.1 h
  exact ⟨qs, k2.symm, fun p hp => h2 p (k1.subset hp), h3.sublist (k1.map _)⟩
theorem PlacesL.more {α : Type} {f g : α → List Int} {l : List α} {fixed : List Bool} (h : ∀ x ∈ l, ∀ b ∈ f x, b ∈ g x) : PlacesL (l.map f) fixed → PlacesL (l.map g) fixed := by
  rintro ⟨ps, h1, h2, h3⟩
  have hlen : ps.length = l.length := by have := congrArg List.length h1; simpa using this
  refine ⟨(ps.map (·.1)).zip (l.map g), ?_, fun p hp => ?_, ?_⟩
  · rw [← List.unzip_snd, List.unzip_zip (by simp [hlen])]
  · obtain ⟨i, hi, rfl⟩ := List.getElem_of_mem hp
    have hi1 : i < ps.length := by simp at hi; omega
    have hi2 : i < l.length := by omega
    simp only [List.getElem_zip, List.getElem_map]
    have h4 : (ps[i]).2 = f l[i] := by
      have : (ps.map (·.2))[i]'(by simpa using hi1) = (l.map f)[i]'(by simpa using hi2) := by simp only [h1]
      simpa using this
    obtain ⟨h5, h6⟩ := h2 _ (List.getElem_mem hi1)
    exact ⟨h _ (List.getElem_mem hi2) _ (h4 ▸ h5), h6⟩
  · rw [← List.unzip_fst, List.unzip_zip (by simp [hlen])]; exact h3
end Go.Proofs.Ytbhmhindommaeaa

/- Chapter 19, plain: what is assigned fits. -/
namespace Go.Proofs.Ytbhmhindommaeaa
set_option linter.unusedVariables false

theorem index_L (x : Int) : ∀ (l : List Int) (i : Nat), ∃ r, slices_Index_Lintint_L1 x l i = some r ∧ (0 ≤ r ↔ x ∈ l)
  | [], i => ⟨-1, rfl, by simp⟩
  | y :: l, i => by
    rw [slices_Index_Lintint_L1]
    unfold slices_Index_Lintint_B1
    by_cases h : x = y
    · rw [if_pos h]; exact ⟨i, rfl, by simp [h]⟩
    · rw [if_neg h]
      obtain ⟨r, e, hr⟩ := index_L x l (i + 1)
      exact ⟨r, e, by rw [hr]; simp [h]⟩
theorem contains_ok (l : List Int) (x : Int) : ∃ r, slices_Contains_Lintint l x = some r ∧ (r = true ↔ x ∈ l) := by
  unfold slices_Contains_Lintint slices_Index_Lintint
  obtain ⟨r, e, hr⟩ := index_L x l 0
  rw [e]
  exact ⟨decide (0 ≤ r), rfl, by simp [hr]⟩
theorem indexb_L (x : Bool) : ∀ (l : List Bool) (i : Nat), ∃ r, slices_Index_Lboolbool_L1 x l i = some r ∧ (0 ≤ r ↔ x ∈ l)
  | [], i => ⟨-1, rfl, by simp⟩
  | y :: l, i => by
    rw [slices_Index_Lboolbool_L1]
    unfold slices_Index_Lboolbool_B1
    by_cases h : x = y
    · rw [if_pos h]; exact ⟨i, rfl, by simp [h]⟩
    · rw [if_neg h]
      obtain ⟨r, e, hr⟩ := indexb_L x l (i + 1)
      exact ⟨r, e, by rw [hr]; simp [h]⟩
theorem containsb_ok (l : List Bool) (x : Bool) : ∃ r, slices_Contains_Lboolbool l x = some r ∧ (r = true ↔ x ∈ l) := by
  unfold slices_Contains_Lboolbool slices_Index_Lboolbool
  obtain ⟨r, e, hr⟩ := indexb_L x l 0
  rw [e]
  exact ⟨decide (0 ≤ r), rfl, by simp [hr]⟩

theorem greedy_has {homes : List (List Int)} {bk : Bk} : ∀ (hs : List (List Int)) (i : Int) (fixed : List Bool), Greedy homes i hs fixed bk → ∀ k : Nat, k < hs.length → ∃ b ∈ hs.getD k [], at' (-1) bk b = i + k
  | [], i, fixed, _, k, h => by simp at h
  | l :: hs, i, fixed, ⟨pre, b, post, e1, f1, a1, n1, p1, g1⟩, k, hk => by
    cases k with
    | zero => exact ⟨b, by simp [e1], by simpa using a1⟩
    | succ k =>
      obtain ⟨c, h1, h2⟩ := greedy_has hs (i + 1) _ g1 k (by simpa using hk)
      exact ⟨c, by simpa using h1, by rw [h2]; push_cast; omega⟩

/-- An assignment: each item in one of its homes, no two in one. -/
structure Asg (B : Int) (homes : List (List Int)) (bk : Bk) : Prop where
  ok : BkOK B homes bk
  le : ∀ j, 0 ≤ j → bk.count j ≤ 1
  has : ∀ j : Int, 0 ≤ j → j < homes.length → ∃ b, 0 ≤ b ∧ b < B ∧ b ∈ at' [] homes j ∧ at' (-1) bk b = j

theorem asg_of {B : Int} {homes : List (List Int)} (hh : HomesOK B homes) {fixed f0 : List Bool} {bk : Bk} {n : Int} (h : Fst B homes fixed n bk) (hg : Greedy homes 0 homes f0 bk) : Asg B homes bk := by
  refine ⟨h.ok, h.le, fun j h0 h1 => ?_⟩
  obtain ⟨b, hb, e⟩ := greedy_has homes 0 f0 hg j.toNat (by omega)
  have hb' : b ∈ at' [] homes j := hb
  have := hh _ (at_mem [] h0 h1) b hb'
  exact ⟨b, this.1, this.2, hb', by rw [e]; omega⟩
theorem Asg.edge {B : Int} {homes : List (List Int)} {bk : Bk} (h : Asg B homes bk) {b : Int} (b0 : 0 ≤ b) (bB : b < B) (hn : 0 ≤ at' (-1) bk b) : b ∈ at' [] homes (at' (-1) bk b) := by
  have hb := h.ok.1
  have hv := h.ok.2 _ (at_mem (-1) (l := bk) b0 (by omega))
  obtain ⟨c, c0, cB, hc, e⟩ := h.has _ hn hv.2
  by_cases hbc : b = c
  · rw [hbc] at e ⊢; rw [e]; rw [hbc] at hc; rw [e] at hc; exact hc
  · have := at_count (l := bk) ⟨b0, by omega⟩ ⟨c0, by omega⟩ rfl e hbc
    have := h.le _ hn
    omega

theorem fits_L {h : Hsh} (hk : HshOK h) {l : List Int} (hl : ∀ n ∈ l, ItemOK n) {bk : Bk} (ha : Asg h.1 (l.map (homeL h)) bk) (kx : List Bool → Int → Option Bool) : ∀ (xs : List Int) (i : Nat) (v : List Bool), bk.drop i = xs → v.length = l.length → (∀ j : Int, 0 ≤ j → j < l.length → (at' false v j = true ↔ ∃ c : Int, 0 ≤ c ∧ c < i ∧ c < h.1 ∧ at' (-1) bk c = j)) →
    ∃ v', cuckoo_Fits_L2 kx l h.1 h.2 xs i v = kx v' h.1 ∧ v'.length = l.length ∧ ∀ j : Int, 0 ≤ j → j < l.length → at' false v' j = true
  | [], i, v, hd, hv, hs => by
    have hi : bk.length ≤ i := List.drop_eq_nil_iff.1 hd
    have hb := ha.ok.1
    refine ⟨v, rfl, hv, fun j h0 h1 => (hs j h0 h1).2 ?_⟩
    obtain ⟨b, b0, bB, _, e⟩ := ha.has j h0 (by simpa using h1)
    exact ⟨b, b0, by omega, bB, e⟩
  | x :: xs, i, v, hd, hv, hs => by
    have hi : i < bk.length := by
      rcases Nat.lt_or_ge i bk.length with h | h
      · exact h
      · rw [List.drop_eq_nil_of_le h] at hd; cases hd
    have hd' : bk.drop (i + 1) = xs := by rw [← List.drop_drop, hd]; rfl
    have hx : at' (-1) bk (i : Int) = x := by
      unfold at'
      rw [Int.toNat_natCast, List.getD_eq_getElem?_getD, List.getElem?_eq_getElem hi]
      rw [List.drop_eq_getElem_cons hi] at hd
      exact (List.cons.inj hd).1
    have hb := ha.ok.1
    have hv2 := ha.ok.2 _ (at_mem (-1) (l := bk) (b := (i : Int)) (by omega) (by omega))
    rw [hx] at hv2
    rw [cuckoo_Fits_L2]
    unfold cuckoo_Fits_B2
    by_cases h1 : x = -1
    · rw [if_pos h1]
      refine fits_L hk hl ha kx xs (i + 1) v hd' hv fun j h0 hj => (hs j h0 hj).trans ⟨fun ⟨c, c0, ci, cB, e⟩ => ⟨c, c0, by omega, cB, e⟩, fun ⟨c, c0, ci, cB, e⟩ => ⟨c, c0, ?_, cB, e⟩⟩
      by_cases hc : c = i
      · subst hc; rw [hx] at e; omega
      · omega
    · rw [if_neg h1]
      have hln : x < l.length := by simpa using hv2.2
      have hx0 : 0 ≤ x := by omega
      rw [if_neg (by omega), at_idx false hx0 (by omega)]
      simp only [Option.bind_some]
      have hns : at' false v x = false := by
        rcases hq : at' false v x with _ | _
        · rfl
        · obtain ⟨c, c0, ci, cB, e⟩ := (hs x hx0 hln).1 hq
          have := at_count (l := bk) ⟨c0, by omega⟩ ⟨by omega, by omega⟩ e hx (by omega : c ≠ (i : Int))
          have := ha.le x hx0
          omega
      rw [hns]
      simp only [Bool.false_eq_true, if_false]
      have hit : at' 0 l x ∈ l := at_mem 0 hx0 hln
      rw [at_idx 0 hx0 hln]
      simp only [Option.bind_some]
      rw [homes_ok (h := (h.1, h.2)) hk (hl _ hit)]
      simp only [Option.bind_some]
      obtain ⟨r, e, hr⟩ := contains_ok (homeL (h.1, h.2) (at' 0 l x)) (i : Int)
      have hedge := ha.edge (b := (i : Int)) (by omega) (by omega) (by rw [hx]; exact hx0)
      rw [hx] at hedge
      have hm : at' [] (l.map (homeL h)) x = homeL h (at' 0 l x) := by
        unfold at'
        rw [List.getD_eq_getElem?_getD, List.getElem?_map, List.getD_eq_getElem?_getD, List.getElem?_eq_getElem (by omega)]; rfl
      rw [hm] at hedge
      have hrt : r = true := hr.2 hedge
      subst hrt
      rw [e]
      simp only [Option.bind_some, Bool.not_true, Bool.false_eq_true, if_false]
      rw [lupd_ok hx0 (by omega)]
      simp only [Option.bind_some]
      refine fits_L hk hl ha kx xs (i + 1) _ hd' (by simpa using hv) fun j h0 hj => ?_
      rw [at_set false hx0 (by omega) h0]
      by_cases hjx : j = x
      · rw [if_pos hjx]
        exact ⟨fun _ => ⟨i, by omega, by omega, by omega, by rw [hx, hjx]⟩, fun _ => rfl⟩
      · rw [if_neg hjx]
        refine (hs j h0 hj).trans ⟨fun ⟨c, c0, ci, cB, e⟩ => ⟨c, c0, by omega, cB, e⟩, fun ⟨c, c0, ci, cB, e⟩ => ⟨c, c0, ?_, cB, e⟩⟩
        by_cases hc : c = i
        · subst hc; rw [hx] at e; omega
        · omega

theorem fits_yes {h : Hsh} (hk : HshOK h) {l : List Int} (hl : ∀ n ∈ l, ItemOK n) (hlen : l.length ≤ 100000) {bk : Bk} (ha : Asg h.1 (l.map (homeL h)) bk) : cuckoo_Fits h l bk = some true := by
  unfold cuckoo_Fits
  rcases asked_ok h l with ⟨_, hc⟩ | ⟨_, _, n, hn, hc⟩ | ⟨e, _, _⟩
  · exact absurd hk hc
  · exact absurd (hl n hn) hc
  · rw [e]
    simp only [Option.bind_some]
    have hb := ha.ok.1
    have hm : lmk (l.length : Int) false = some (List.replicate l.length false) := by unfold lmk; rw [if_pos (by omega), Int.toNat_natCast]
    rw [if_neg (by omega), hm]
    simp only [Option.bind_some]
    obtain ⟨v', e2, h2, h3⟩ := fits_L hk hl ha cuckoo_Fits_J1 bk 0 (List.replicate l.length false) rfl (by simp) (fun j h0 hj => by
      rw [at_rep _ _ h0 (by omega)]
      constructor
      · intro h; cases h
      · rintro ⟨c, c0, ci, _⟩; omega)
    rw [e2]
    unfold cuckoo_Fits_J1
    obtain ⟨r, e3, hr⟩ := containsb_ok v' false
    rw [e3]
    have : r = false := by
      cases r with
      | false => rfl
      | true =>
        obtain ⟨b, b0, bl, hb2⟩ := at_of_mem false (hr.1 rfl)
        have := h3 b b0 (by omega)
        rw [hb2] at this; cases this
    rw [this]; rfl
end Go.Proofs.Ytbhmhindommaeaa
