/- What the proof needs, gathered by wip/gen/shake.py. -/
import Derived.Calls
import Derived.Deep.Quiet
import Derived.Below
import Derived.Laws.AppendOwn
import Derived.WalkKit
import Derived.Laws.OwnMore
import Derived.Deep.Slices
import Derived.ChangeOld
import Derived.ArgAppend
import Derived.RangeFuncIn
import Derived.RangeFuncRecord
import Derived.RangeFuncLeaves
import Derived.Laws.MakeOwn
import Derived.IntWalk
import Derived.Laws.IdiomStrings
import Derived.Laws.Cover3
import Derived.Laws.CopyOwn
import Derived.MapKept
import Derived.RangeFuncNested
import Derived.Test.YtmfppphlhgneeaaRows
import Derived.ProofKit
import Derived.OpenShut
import Derived.ShutString
import Derived.Test.YtmfppphlhgneeaaLookupTablesQ5

section
namespace Go.Proofs.Ytmfppphlhgneeaa
set_option linter.unusedVariables false
def at' {α : Type} (d : α) (l : List α) (b : Int) : α := l.getD b.toNat d
theorem at_idx {α : Type} (d : α) {l : List α} {b : Int} (h0 : 0 ≤ b) (h1 : b < l.length) : lidx l b = some (at' d l b) := lidx_ok d h0 h1
theorem at_set {α : Type} (d : α) {l : List α} {b c : Int} {y : α} (h0 : 0 ≤ b) (h1 : b < l.length) (hc : 0 ≤ c) : at' d (l.set b.toNat y) c = if c = b then y else at' d l c := by
  unfold at'
  rw [List.getD_eq_getElem?_getD, List.getElem?_set]
  by_cases h : c = b
  · subst h; rw [if_pos rfl, if_pos rfl, if_pos (by omega)]; rfl
  · rw [if_neg (by omega), if_neg h, List.getD_eq_getElem?_getD]
theorem at_mem {α : Type} (d : α) {l : List α} {b : Int} (h0 : 0 ≤ b) (h1 : b < l.length) : at' d l b ∈ l := by
  unfold at'
  rw [List.getD_eq_getElem?_getD, List.getElem?_eq_getElem (by omega)]
  exact List.getElem_mem _
theorem at_of_mem {α : Type} (d : α) {l : List α} {x : α} (h : x ∈ l) : ∃ b : Int, 0 ≤ b ∧ b < l.length ∧ at' d l b = x := by
  obtain ⟨i, hi, rfl⟩ := List.getElem_of_mem h
  refine ⟨i, by omega, by omega, ?_⟩
  unfold at'
  rw [Int.toNat_natCast, List.getD_eq_getElem?_getD, List.getElem?_eq_getElem hi]; rfl
theorem count_setN {α : Type} [DecidableEq α] (d j y : α) : ∀ (l : List α) (n : Nat), n < l.length → (l.set n y).count j + (if l.getD n d = j then 1 else 0) = l.count j + (if y = j then 1 else 0)
  | [], n, h => by simp at h
  | x :: l, 0, h => by
    simp only [List.set_cons_zero, List.getD_cons_zero, List.count_cons, beq_iff_eq]
    omega
  | x :: l, n + 1, h => by
    have := count_setN d j y l n (by simpa using h)
    simp only [List.set_cons_succ, List.getD_cons_succ, List.count_cons]
    omega
theorem count_set' {α : Type} [DecidableEq α] (d : α) (j y : α) {l : List α} {b : Int} (h0 : 0 ≤ b) (h1 : b < l.length) : (l.set b.toNat y).count j + (if at' d l b = j then 1 else 0) = l.count j + (if y = j then 1 else 0) :=
  count_setN d j y l b.toNat (by omega)
theorem count_false_lt {l : List Bool} {b : Int} (h0 : 0 ≤ b) (h1 : b < l.length) (h : at' false l b = false) : (l.set b.toNat true).count false + 1 = l.count false := by
  have := count_set' false false true h0 h1
  rw [h] at this
  simpa using this
theorem count_le_of {s t : List Bool} (hl : s.length = t.length) (h : ∀ b : Int, 0 ≤ b → b < s.length → at' false s b = true → at' false t b = true) : t.count false ≤ s.count false := by
  induction s generalizing t with
  | nil => cases t with
    | nil => simp
    | cons _ _ => simp at hl
  | cons x s ih =>
    cases t with
    | nil => simp at hl
    | cons y t =>
      simp only [List.length_cons, Nat.add_right_cancel_iff] at hl
      have h1 := ih hl fun b h0 hb ht => by
        have := h (b + 1) (by omega) (by simp; omega)
        have e : (b + 1).toNat = b.toNat + 1 := by omega
        simp only [at', e, List.getD_cons_succ] at this
        exact this ht
      have h2 := h 0 (by omega) (by simp only [List.length_cons]; omega)
      simp only [at', Int.toNat_zero, List.getD_cons_zero] at h2
      simp only [List.count_cons]
      cases x <;> cases y
      · simp; omega
      · simp; omega
      · exact absurd (h2 rfl) (by simp)
      · simp; omega
def HomesOK (B : Int) (homes : List (List Int)) : Prop := ∀ l ∈ homes, ∀ b ∈ l, 0 ≤ b ∧ b < B
def BkOK (B : Int) (homes : List (List Int)) (bk : List Int) : Prop := (bk.length : Int) = B ∧ ∀ v ∈ bk, -1 ≤ v ∧ v < homes.length
abbrev Bk := List Int
structure Won (B : Int) (homes : List (List Int)) (fixed seen : List Bool) (i : Int) (bk bk' : Bk) : Prop where
  ok : BkOK B homes bk'
  still : ∀ b, 0 ≤ b → b < B → (at' false seen b = true ∨ at' false fixed b = true) → at' (-1) bk' b = at' (-1) bk b
  kept : ∀ b, 0 ≤ b → b < B → 0 ≤ at' (-1) bk b → 0 ≤ at' (-1) bk' b
  edge : ∀ b, 0 ≤ b → b < B → at' (-1) bk' b = at' (-1) bk b ∨ (0 ≤ at' (-1) bk' b ∧ b ∈ at' [] homes (at' (-1) bk' b))
  count : ∀ j, 0 ≤ j → bk'.count j = bk.count j + if i = j then 1 else 0
structure Lost (B : Int) (homes : List (List Int)) (fixed seen seen' : List Bool) (hs : List Int) (bk : Bk) : Prop where
  all : ∀ b ∈ hs, at' false fixed b = true ∨ at' false seen' b = true
  closed : ∀ b, 0 ≤ b → b < B → at' false seen' b = true → at' false seen b = false → 0 ≤ at' (-1) bk b ∧ at' false fixed b = false ∧ ∀ c ∈ at' [] homes (at' (-1) bk b), at' false fixed c = true ∨ at' false seen' c = true
def SeenLe (B : Int) (s t : List Bool) : Prop := ∀ b, 0 ≤ b → b < B → at' false s b = true → at' false t b = true
theorem place_loop (B : Int) (homes : List (List Int)) (fixed : List Bool) (hh : HomesOK B homes) (hf : (fixed.length : Int) = B) (i : Int) (hi : 0 ≤ i ∧ i < homes.length) (m : Nat)
    (ih : ∀ (i : Int) (seen : List Bool) (bk : Bk), 0 ≤ i → i < homes.length → (seen.length : Int) = B → BkOK B homes bk → seen.count false < m → ∃ r bk' seen', cuckoo_placing_place_R m (homes, bk, fixed) i seen = some (r, bk', seen') ∧ (seen'.length : Int) = B ∧ SeenLe B seen seen' ∧
      (r = true → Won B homes fixed seen i bk bk') ∧ (r = false → bk' = bk ∧ Lost B homes fixed seen seen' (at' [] homes i) bk)) :
    ∀ (hs : List Int) (seen : List Bool) (bk : Bk), (∀ b ∈ hs, b ∈ at' [] homes i) → (seen.length : Int) = B → BkOK B homes bk → seen.count false < m + 1 →
      ∃ r bk' seen', cuckoo_placing_place_L1 (cuckoo_placing_place_R m) i homes fixed hs seen bk = some (r, bk', seen') ∧ (seen'.length : Int) = B ∧ SeenLe B seen seen' ∧
        (r = true → Won B homes fixed seen i bk bk') ∧ (r = false → bk' = bk ∧ Lost B homes fixed seen seen' hs bk)
  | [], seen, bk, _, hs, hb, _ => ⟨false, bk, seen, rfl, hs, fun _ _ _ h => h, by simp, fun _ => ⟨rfl, by simp, fun b _ _ h1 h2 => by rw [h1] at h2; cases h2⟩⟩
  | b :: hs, seen, bk, hm, hs', hb, hc => by
    have hbi : b ∈ at' [] homes i := hm b List.mem_cons_self
    obtain ⟨b0, bB⟩ := hh _ (at_mem [] hi.1 hi.2) b hbi
    have ih2 := fun seen bk => place_loop B homes fixed hh hf i hi m ih hs seen bk (fun c h => hm c (List.mem_cons_of_mem _ h))
    rw [cuckoo_placing_place_L1]
    unfold cuckoo_placing_place_B1
    rw [at_idx false b0 (by omega), at_idx false b0 (by omega)]
    simp only [Option.bind_some]
    have hskip : (at' false seen b = true ∨ at' false fixed b = true) → ∃ r bk' seen', cuckoo_placing_place_L1 (cuckoo_placing_place_R m) i homes fixed hs seen bk = some (r, bk', seen') ∧ (seen'.length : Int) = B ∧ SeenLe B seen seen' ∧
        (r = true → Won B homes fixed seen i bk bk') ∧ (r = false → bk' = bk ∧ Lost B homes fixed seen seen' (b :: hs) bk) := fun hsf => by
      obtain ⟨r, bk', seen', e, h1, h2, h3, h4⟩ := ih2 seen bk hs' hb hc
      refine ⟨r, bk', seen', e, h1, h2, h3, fun hr => ⟨(h4 hr).1, fun c hc' => ?_, (h4 hr).2.closed⟩⟩
      rcases List.mem_cons.1 hc' with rfl | hc'
      · rcases hsf with h | h
        · exact .inr (h2 _ b0 bB h)
        · exact .inl h
      · exact (h4 hr).2.all c hc'
    by_cases h1 : at' false seen b = true
    · rw [if_pos h1]; simp only [Option.bind_some, if_true]; exact hskip (.inl h1)
    · rw [if_neg h1]
      simp only [Option.bind_some]
      by_cases h2 : at' false fixed b = true
      · rw [if_pos h2]; exact hskip (.inr h2)
      · rw [if_neg h2, at_idx (-1) b0 (by rw [hb.1]; exact bB)]
        simp only [Option.bind_some]
        have h1' : at' false seen b = false := by simpa using h1
        have h2' : at' false fixed b = false := by simpa using h2
        have hbl : b < bk.length := by rw [hb.1]; exact bB
        by_cases h3 : at' (-1) bk b < 0
        · rw [if_pos h3, lupd_ok b0 hbl]
          simp only [Option.bind_some]
          refine ⟨true, _, seen, rfl, hs', fun _ _ _ h => h, fun _ => ⟨⟨by simpa using hb.1, fun v hv => ?_⟩, fun c c0 cB hc' => ?_, fun c c0 cB hc' => ?_, fun c c0 cB => ?_, fun j hj => ?_⟩, by simp⟩
          · rcases List.mem_or_eq_of_mem_set hv with h | rfl
            · exact hb.2 v h
            · omega
          · rw [at_set (-1) b0 hbl c0]
            split
            · rename_i e; subst e; rcases hc' with h | h
              · rw [h1'] at h; cases h
              · rw [h2'] at h; cases h
            · rfl
          · rw [at_set (-1) b0 hbl c0]; split
            · exact hi.1
            · exact hc'
          · rw [at_set (-1) b0 hbl c0]; split
            · rename_i e; subst e; exact .inr ⟨hi.1, hbi⟩
            · exact .inl rfl
          · have := count_set' (-1) j i b0 hbl
            rw [if_neg (by omega : ¬ at' (-1) bk b = j)] at this
            simpa using this
        · rw [if_neg h3, lupd_ok b0 (by omega)]
          simp only [Option.bind_some]
          have hlt : b < seen.length := by omega
          have ho := hb.2 _ (at_mem (-1) b0 hbl)
          obtain ⟨r, bk1, seen1, e1, l1, m1, w1, f1⟩ := ih (at' (-1) bk b) (seen.set b.toNat true) bk (by omega) ho.2 (by simpa using hs') hb (by have := count_false_lt b0 hlt h1'; omega)
          rw [e1]
          simp only [Option.bind_some]
          have hsb : at' false (seen.set b.toNat true) b = true := by rw [at_set false b0 hlt b0, if_pos rfl]
          have hle : SeenLe B seen (seen.set b.toNat true) := fun c c0 cB h => by rw [at_set false b0 hlt c0]; split; rfl; exact h
          cases r with
          | true =>
            have hw := w1 rfl
            have hb1 : b < bk1.length := by rw [hw.ok.1]; exact bB
            rw [if_pos rfl, at_idx (-1) b0 hb1]
            simp only [Option.bind_some]
            rw [lupd_ok b0 hb1]
            simp only [Option.bind_some]
            have hst : at' (-1) bk1 b = at' (-1) bk b := hw.still b b0 bB (.inl hsb)
            refine ⟨true, _, seen1, rfl, l1, fun c c0 cB h => m1 c c0 cB (hle c c0 cB h), fun _ => ⟨⟨by simpa using hw.ok.1, fun v hv => ?_⟩, fun c c0 cB hc' => ?_, fun c c0 cB hc' => ?_, fun c c0 cB => ?_, fun j hj => ?_⟩, by simp⟩
            · rcases List.mem_or_eq_of_mem_set hv with h | rfl
              · exact hw.ok.2 v h
              · omega
            · rw [at_set (-1) b0 hb1 c0]
              split
              · rename_i e; subst e; rcases hc' with h | h
                · rw [h1'] at h; cases h
                · rw [h2'] at h; cases h
              · exact hw.still c c0 cB (hc'.imp (hle c c0 cB) id)
            · rw [at_set (-1) b0 hb1 c0]; split
              · exact hi.1
              · exact hw.kept c c0 cB hc'
            · rw [at_set (-1) b0 hb1 c0]; split
              · rename_i e; subst e; exact .inr ⟨hi.1, hbi⟩
              · exact hw.edge c c0 cB
            · have h5 := count_set' (-1) j i b0 hb1
              have h6 := hw.count j hj
              rw [hst] at h5
              omega
          | false =>
            rw [if_neg (by simp)]
            obtain ⟨rfl, hlost⟩ := f1 rfl
            have hcle := count_le_of (s := seen.set b.toNat true) (t := seen1) (by rw [List.length_set]; omega) (fun c c0 cl h => m1 c c0 (by simp at cl; omega) h)
            have hcl := count_false_lt b0 hlt h1'
            obtain ⟨r, bk2, seen2, e2, l2, m2, w2, f2⟩ := ih2 seen1 bk1 l1 hb (by omega)
            refine ⟨r, bk2, seen2, e2, l2, fun c c0 cB h => m2 c c0 cB (m1 c c0 cB (hle c c0 cB h)), fun hr => ?_, fun hr => ?_⟩
            · have hw := w2 hr
              exact ⟨hw.ok, fun c c0 cB hc' => hw.still c c0 cB (hc'.imp (fun h => m1 c c0 cB (hle c c0 cB h)) id), hw.kept, hw.edge, hw.count⟩
            · obtain ⟨rfl, hl2⟩ := f2 hr
              refine ⟨rfl, fun c hc' => ?_, fun c c0 cB hs2 hs0 => ?_⟩
              · rcases List.mem_cons.1 hc' with rfl | hc'
                · exact .inr (m2 _ b0 bB (m1 _ b0 bB hsb))
                · exact hl2.all c hc'
              · have hup : ∀ x ∈ at' [] homes (at' (-1) bk2 c), 0 ≤ at' (-1) bk2 c → (at' false fixed x = true ∨ at' false seen1 x = true) → at' false fixed x = true ∨ at' false seen2 x = true := fun x hx h0 h => by
                  have hv := hb.2 _ (at_mem (-1) c0 (by rw [hb.1]; exact cB))
                  obtain ⟨x0, xB⟩ := hh _ (at_mem [] h0 hv.2) x hx
                  exact h.imp id (m2 x x0 xB)
                by_cases hs1 : at' false seen1 c = true
                · by_cases hcb : c = b
                  · subst hcb
                    refine ⟨by omega, h2', fun x hx => hup x hx (by omega) (hlost.all x hx)⟩
                  · have hs3 : at' false (seen.set b.toNat true) c = false := by rw [at_set false b0 hlt c0, if_neg hcb]; exact hs0
                    obtain ⟨g1, g2, g3⟩ := hlost.closed c c0 cB hs1 hs3
                    exact ⟨g1, g2, fun x hx => hup x hx g1 (g3 x hx)⟩
                · exact hl2.closed c c0 cB hs2 (by simpa using hs1)
theorem place_ok (B : Int) (homes : List (List Int)) (fixed : List Bool) (hh : HomesOK B homes) (hf : (fixed.length : Int) = B) : ∀ (m : Nat) (i : Int) (seen : List Bool) (bk : Bk), 0 ≤ i → i < homes.length → (seen.length : Int) = B → BkOK B homes bk → seen.count false < m →
    ∃ r bk' seen', cuckoo_placing_place_R m (homes, bk, fixed) i seen = some (r, bk', seen') ∧ (seen'.length : Int) = B ∧ SeenLe B seen seen' ∧ (r = true → Won B homes fixed seen i bk bk') ∧ (r = false → bk' = bk ∧ Lost B homes fixed seen seen' (at' [] homes i) bk)
  | 0, i, seen, bk, _, _, _, _, h => by omega
  | m + 1, i, seen, bk, h0, h1, hs, hb, hc => by
    rw [cuckoo_placing_place_R]
    unfold cuckoo_placing_place_B2
    rw [at_idx [] h0 h1]
    simp only [Option.bind_some]
    exact place_loop B homes fixed hh hf i ⟨h0, h1⟩ m (place_ok B homes fixed hh hf m) _ seen bk (fun _ h => h) hs hb hc
end Go.Proofs.Ytmfppphlhgneeaa
namespace Go.Proofs.Ytmfppphlhgneeaa
set_option linter.unusedVariables false
theorem pig : ∀ {l m : List Int}, l.Nodup → (∀ x ∈ l, x ∈ m) → l.length ≤ m.length
  | [], m, _, _ => by simp
  | x :: l, m, hn, hs => by
    obtain ⟨h1, h2⟩ := List.nodup_cons.1 hn
    have hx := hs x List.mem_cons_self
    have h3 := pig (l := l) (m := m.erase x) h2 fun y hy => by
      have hne : y ≠ x := fun e => h1 (e ▸ hy)
      exact (List.mem_erase_of_ne hne).2 (hs y (List.mem_cons_of_mem _ hy))
    have h4 := List.length_erase_of_mem hx
    have h5 : 0 < m.length := List.length_pos_of_mem hx
    simp only [List.length_cons]; omega
theorem nodup_map {α β : Type} {f : α → β} : ∀ {l : List α}, l.Nodup → (∀ x ∈ l, ∀ y ∈ l, f x = f y → x = y) → (l.map f).Nodup
  | [], _, _ => by simp
  | x :: l, hn, hi => by
    obtain ⟨h1, h2⟩ := List.nodup_cons.1 hn
    rw [List.map_cons, List.nodup_cons]
    refine ⟨fun hm => ?_, nodup_map h2 fun a ha b hb => hi a (List.mem_cons_of_mem _ ha) b (List.mem_cons_of_mem _ hb)⟩
    obtain ⟨y, hy, e⟩ := List.mem_map.1 hm
    have := hi y (List.mem_cons_of_mem _ hy) x List.mem_cons_self e
    exact h1 (this ▸ hy)
theorem at_count {l : List Int} {b c j : Int} (hb : 0 ≤ b ∧ b < l.length) (hc : 0 ≤ c ∧ c < l.length) (h1 : at' (-1) l b = j) (h2 : at' (-1) l c = j) (hne : b ≠ c) : 2 ≤ l.count j := by
  have h3 := count_set' (-1) j (j + 1) hb.1 hb.2
  rw [if_pos h1, if_neg (by omega)] at h3
  have h4 : at' (-1) (l.set b.toNat (j + 1)) c = j := by rw [at_set (-1) hb.1 hb.2 hc.1, if_neg (fun e => hne e.symm)]; exact h2
  have h5 := at_mem (-1) (l := l.set b.toNat (j + 1)) hc.1 (by simpa using hc.2)
  rw [h4] at h5
  have := List.count_pos_iff.2 h5
  omega
theorem at_count1 {l : List Int} {b j : Int} (hb : 0 ≤ b ∧ b < l.length) (h1 : at' (-1) l b = j) : 1 ≤ l.count j := List.count_pos_iff.2 (h1 ▸ at_mem (-1) hb.1 hb.2)
def Places (homes : List (List Int)) (fixed : List Bool) (a : Int) (f : Int → Int) : Prop :=
  (∀ j, a ≤ j → j < homes.length → f j ∈ at' [] homes j ∧ at' false fixed (f j) = false) ∧ ∀ j k, a ≤ j → j < homes.length → a ≤ k → k < homes.length → f j = f k → j = k
def Placeable (homes : List (List Int)) (fixed : List Bool) (a : Int) : Prop := ∃ f, Places homes fixed a f
structure Stand (B : Int) (homes : List (List Int)) (fixed : List Bool) (a i : Int) (bk : Bk) : Prop where
  ok : BkOK B homes bk
  le : ∀ j, 0 ≤ j → bk.count j ≤ 1
  one : ∀ j, a ≤ j → j < i → bk.count j = 1
  none : ∀ j, i ≤ j → bk.count j = 0
  free : ∀ b, 0 ≤ b → b < B → at' false fixed b = false → 0 ≤ at' (-1) bk b → a ≤ at' (-1) bk b ∧ b ∈ at' [] homes (at' (-1) bk b)
  fix : ∀ b, 0 ≤ b → b < B → at' false fixed b = true → at' (-1) bk b < a
theorem Stand.places {B : Int} {homes : List (List Int)} {fixed : List Bool} {a : Int} {bk : Bk} (ha : 0 ≤ a) (h : Stand B homes fixed a homes.length bk) : Placeable homes fixed a := by
  classical
  have hex : ∀ j, a ≤ j → j < homes.length → ∃ b, 0 ≤ b ∧ b < B ∧ at' (-1) bk b = j := fun j h1 h2 => by
    have hm : j ∈ bk := List.count_pos_iff.1 (by rw [h.one j h1 h2]; omega)
    obtain ⟨b, h3, h4, h5⟩ := at_of_mem (-1) hm
    exact ⟨b, h3, by rw [← h.ok.1]; exact h4, h5⟩
  refine ⟨fun j => if hj : ∃ b, 0 ≤ b ∧ b < B ∧ at' (-1) bk b = j then hj.choose else 0, fun j h1 h2 => ?_, fun j k h1 h2 h3 h4 e => ?_⟩
  · have hj := hex j h1 h2
    have := hj.choose_spec
    simp only [dif_pos hj]
    obtain ⟨b0, bB, hb⟩ := this
    by_cases hfx : at' false fixed hj.choose = true
    · have := h.fix _ b0 bB hfx; omega
    · have hfx' : at' false fixed hj.choose = false := by simpa using hfx
      refine ⟨?_, hfx'⟩
      have := (h.free _ b0 bB hfx' (by omega)).2
      rwa [hb] at this
  · have hj := hex j h1 h2
    have hk := hex k h3 h4
    simp only [dif_pos hj, dif_pos hk] at e
    rw [← hj.choose_spec.2.2, ← hk.choose_spec.2.2, e]
theorem no_way {B : Int} {homes : List (List Int)} {fixed seen seen' : List Bool} {a i : Int} {bk : Bk} (hh : HomesOK B homes) (hs : Stand B homes fixed a i bk) (ha : 0 ≤ a ∧ a ≤ i) (hi : i < homes.length) (h0 : ∀ b, 0 ≤ b → b < B → at' false seen b = false)
    (hl : Lost B homes fixed seen seen' (at' [] homes i) bk) : ¬ Placeable homes fixed a := by
  rintro ⟨f, hf1, hf2⟩
  let R : List Int := ((List.range B.toNat).map fun (b : Nat) => (b : Int)).filter fun b => at' false seen' b
  have hR : ∀ b, b ∈ R ↔ (0 ≤ b ∧ b < B) ∧ at' false seen' b = true := fun b => by
    simp only [R, List.mem_filter, List.mem_map, List.mem_range]
    constructor
    · rintro ⟨⟨n, hn, rfl⟩, h⟩; exact ⟨⟨by omega, by omega⟩, h⟩
    · rintro ⟨⟨h1, h2⟩, h⟩; exact ⟨⟨b.toNat, by omega, by omega⟩, h⟩
  have hRn : R.Nodup := List.Pairwise.filter _ (nodup_map List.nodup_range fun x _ y _ e => by omega)
  have hcl : ∀ b ∈ R, 0 ≤ at' (-1) bk b ∧ at' false fixed b = false ∧ ∀ c ∈ at' [] homes (at' (-1) bk b), at' false fixed c = true ∨ at' false seen' c = true := fun b hb => by
    obtain ⟨⟨b0, bB⟩, h⟩ := (hR b).1 hb
    exact hl.closed b b0 bB h (h0 b b0 bB)
  have hin : ∀ b ∈ R, a ≤ at' (-1) bk b ∧ at' (-1) bk b < i := fun b hb => by
    obtain ⟨⟨b0, bB⟩, h⟩ := (hR b).1 hb
    obtain ⟨g1, g2, _⟩ := hcl b hb
    refine ⟨(hs.free b b0 bB g2 g1).1, ?_⟩
    rcases Int.lt_or_le (at' (-1) bk b) i with h | h
    · exact h
    · have h1 := hs.none _ h
      have h2 := at_count1 (l := bk) ⟨b0, by rw [hs.ok.1]; exact bB⟩ rfl
      omega
  -- the items that are in the way, and the new one
  have hXn : (i :: R.map fun b => at' (-1) bk b).Nodup := by
    refine List.nodup_cons.2 ⟨fun hm => ?_, nodup_map hRn fun x hx y hy e => ?_⟩
    · obtain ⟨b, hb, e⟩ := List.mem_map.1 hm
      have := (hin b hb).2; omega
    · rcases Decidable.em (x = y) with h | h
      · exact h
      · obtain ⟨⟨x0, xB⟩, _⟩ := (hR x).1 hx
        obtain ⟨⟨y0, yB⟩, _⟩ := (hR y).1 hy
        have h1 := at_count (l := bk) ⟨x0, by rw [hs.ok.1]; exact xB⟩ ⟨y0, by rw [hs.ok.1]; exact yB⟩ rfl e.symm h
        have h2 := hs.one _ (hin x hx).1 (hin x hx).2
        omega
  have hXr : ∀ x ∈ (i :: R.map fun b => at' (-1) bk b), (a ≤ x ∧ x < homes.length) ∧ f x ∈ R := fun x hx => by
    rcases List.mem_cons.1 hx with rfl | hx
    · obtain ⟨h1, h2⟩ := hf1 x ha.2 hi
      refine ⟨⟨ha.2, hi⟩, (hR _).2 ⟨hh _ (at_mem [] (by omega) hi) _ h1, ?_⟩⟩
      rcases hl.all _ h1 with h | h
      · rw [h2] at h; cases h
      · exact h
    · obtain ⟨b, hb, rfl⟩ := List.mem_map.1 hx
      have hr := hin b hb
      obtain ⟨h1, h2⟩ := hf1 _ hr.1 (by omega)
      refine ⟨⟨hr.1, by omega⟩, (hR _).2 ⟨hh _ (at_mem [] (by omega) (by omega)) _ h1, ?_⟩⟩
      rcases (hcl b hb).2.2 _ h1 with h | h
      · rw [h2] at h; cases h
      · exact h
  have h1 := pig (nodup_map (f := f) hXn fun x hx y hy e => hf2 x y (hXr x hx).1.1 (hXr x hx).1.2 (hXr y hy).1.1 (hXr y hy).1.2 e) (m := R) (fun y hy => by
    obtain ⟨x, hx, rfl⟩ := List.mem_map.1 hy
    exact (hXr x hx).2)
  simp at h1
  omega
theorem Stand.won {B : Int} {homes : List (List Int)} {fixed seen : List Bool} {a i : Int} {bk bk' : Bk} (hs : Stand B homes fixed a i bk) (ha : 0 ≤ a ∧ a ≤ i) (hw : Won B homes fixed seen i bk bk') : Stand B homes fixed a (i + 1) bk' where
  ok := hw.ok
  le j h := by
    rw [hw.count j h]
    by_cases he : i = j
    · rw [if_pos he, hs.none j (by omega)]; omega
    · rw [if_neg he]; exact hs.le j h
  one j h1 h2 := by
    rw [hw.count j (by omega)]
    by_cases h : i = j
    · rw [if_pos h, hs.none j (by omega)]
    · rw [if_neg h, hs.one j h1 (by omega)]
  none j h := by rw [hw.count j (by omega), if_neg (by omega), hs.none j (by omega)]
  free b b0 bB hf hb := by
    rcases hw.edge b b0 bB with h | ⟨_, h⟩
    · rw [h] at hb ⊢; exact hs.free b b0 bB hf hb
    · refine ⟨?_, h⟩
      -- it is i, or stood somewhere
      rcases Int.lt_or_le (at' (-1) bk' b) a with hlt | hge
      · exfalso
        have hne : i ≠ at' (-1) bk' b := by omega
        have h1 := hw.count _ hb
        rw [if_neg hne] at h1
        have h2 := at_count1 (l := bk') ⟨b0, by rw [hw.ok.1]; exact bB⟩ rfl
        have hm : at' (-1) bk' b ∈ bk := List.count_pos_iff.1 (by omega)
        obtain ⟨c, c0, cB, hc⟩ := at_of_mem (-1) hm
        have cB' : c < B := by rw [← hs.ok.1]; exact cB
        by_cases hfc : at' false fixed c = true
        · -- c is fixed, and holds it still; so do two buckets
          have h3 := hw.still c c0 cB' (.inr hfc)
          have hbc : b ≠ c := fun e => by subst e; rw [hf] at hfc; cases hfc
          have h4 := at_count (l := bk') ⟨b0, by rw [hw.ok.1]; exact bB⟩ ⟨c0, by rw [hw.ok.1]; exact cB'⟩ rfl (by rw [h3, hc]) hbc
          have h5 := hs.le _ hb
          omega
        · have := (hs.free c c0 cB' (by simpa using hfc) (by rw [hc]; exact hb)).1
          rw [hc] at this; omega
      · exact hge
  fix b b0 bB hf := by rw [hw.still b b0 bB (.inr hf)]; exact hs.fix b b0 bB hf
end Go.Proofs.Ytmfppphlhgneeaa
namespace Go.Proofs.Ytmfppphlhgneeaa
set_option linter.unusedVariables false
structure Fst (B : Int) (homes : List (List Int)) (fixed : List Bool) (i : Int) (bk : Bk) : Prop where
  ok : BkOK B homes bk
  len : (fixed.length : Int) = B
  le : ∀ j, 0 ≤ j → bk.count j ≤ 1
  fix : ∀ b, 0 ≤ b → b < B → (at' false fixed b = true ↔ 0 ≤ at' (-1) bk b)
  lt : ∀ b, 0 ≤ b → b < B → at' (-1) bk b < i
theorem Fst.stand {B : Int} {homes : List (List Int)} {fixed : List Bool} {i : Int} {bk : Bk} (h : Fst B homes fixed i bk) : Stand B homes fixed i i bk where
  ok := h.ok
  le := h.le
  one j h1 h2 := by omega
  none j hj := by
    rcases Nat.eq_zero_or_pos (bk.count j) with h0 | h0
    · exact h0
    · obtain ⟨b, b0, bB, e⟩ := at_of_mem (-1) (List.count_pos_iff.1 h0)
      have := h.lt b b0 (by rw [← h.ok.1]; exact bB)
      omega
  free b b0 bB hf hb := by have := (h.fix b b0 bB).2 hb; rw [hf] at this; cases this
  fix b b0 bB _ := h.lt b b0 bB
theorem set_at {α : Type} (d : α) {l : List α} {b : Int} {y : α} (h0 : 0 ≤ b) (h1 : b < l.length) (h : at' d l b = y) : l.set b.toNat y = l := by
  have hlt : b.toNat < l.length := by omega
  have : l[b.toNat] = y := by
    rw [← h]; unfold at'; rw [List.getD_eq_getElem?_getD, List.getElem?_eq_getElem hlt]; rfl
  rw [← this]; exact List.set_getElem_self hlt
theorem Fst.take {B : Int} {homes : List (List Int)} {fixed : List Bool} {i b : Int} {bk : Bk} (h : Fst B homes fixed i bk) (hi : 0 ≤ i ∧ i < homes.length) (hb : 0 ≤ b ∧ b < B) (hf : at' false fixed b = false) : Fst B homes (fixed.set b.toNat true) (i + 1) (bk.set b.toNat i) := by
  have hbl : b < bk.length := by rw [h.ok.1]; exact hb.2
  have hfl : b < fixed.length := by rw [h.len]; exact hb.2
  have hneg : ¬ 0 ≤ at' (-1) bk b := fun hh => by have := (h.fix b hb.1 hb.2).2 hh; rw [hf] at this; cases this
  refine ⟨⟨by simpa using h.ok.1, fun v hv => ?_⟩, by simpa using h.len, fun j hj => ?_, fun c c0 cB => ?_, fun c c0 cB => ?_⟩
  · rcases List.mem_or_eq_of_mem_set hv with h1 | rfl
    · exact h.ok.2 v h1
    · omega
  · have h1 := count_set' (-1) j i hb.1 hbl
    rw [if_neg (by omega : ¬ at' (-1) bk b = j)] at h1
    by_cases he : i = j
    · rw [if_pos he] at h1
      have := h.stand.none j (by omega)
      omega
    · rw [if_neg he] at h1; have := h.le j hj; omega
  · rw [at_set false hb.1 hfl c0, at_set (-1) hb.1 hbl c0]
    by_cases he : c = b
    · rw [if_pos he, if_pos he]; simp; exact hi.1
    · rw [if_neg he, if_neg he]; exact h.fix c c0 cB
  · rw [at_set (-1) hb.1 hbl c0]; split
    · omega
    · have := h.lt c c0 cB; omega
theorem Placeable.step {homes : List (List Int)} {fixed : List Bool} {i : Int} {B : Int} (hh : HomesOK B homes) (hf : (fixed.length : Int) = B) (hi : 0 ≤ i ∧ i < homes.length) :
    Placeable homes fixed i ↔ ∃ b ∈ at' [] homes i, at' false fixed b = false ∧ Placeable homes (fixed.set b.toNat true) (i + 1) := by
  constructor
  · rintro ⟨f, h1, h2⟩
    obtain ⟨hm, hfr⟩ := h1 i (Int.le_refl _) hi.2
    obtain ⟨b0, bB⟩ := hh _ (at_mem [] hi.1 hi.2) _ hm
    refine ⟨f i, hm, hfr, f, fun j hj hn => ?_, fun j k hj hn hk hkn e => h2 j k (by omega) hn (by omega) hkn e⟩
    obtain ⟨hm2, hfr2⟩ := h1 j (by omega) hn
    obtain ⟨c0, cB⟩ := hh _ (at_mem [] (by omega) hn) _ hm2
    refine ⟨hm2, ?_⟩
    rw [at_set false b0 (by omega) c0, if_neg]
    · exact hfr2
    · intro e; have := h2 j i (by omega) hn (Int.le_refl _) hi.2 e; omega
  · rintro ⟨b, hm, hfr, f, h1, h2⟩
    obtain ⟨b0, bB⟩ := hh _ (at_mem [] hi.1 hi.2) _ hm
    have hne : ∀ j, i + 1 ≤ j → j < homes.length → f j ≠ b := fun j hj hn e => by
      obtain ⟨hm2, hfr2⟩ := h1 j hj hn
      rw [e, at_set false b0 (by omega) b0, if_pos rfl] at hfr2; cases hfr2
    refine ⟨fun j => if j = i then b else f j, fun j hj hn => ?_, fun j k hj hn hk hkn e => ?_⟩
    · by_cases he : j = i
      · subst he; simp only [if_true]; exact ⟨hm, hfr⟩
      · simp only [if_neg he]
        obtain ⟨hm2, hfr2⟩ := h1 j (by omega) hn
        obtain ⟨c0, cB⟩ := hh _ (at_mem [] (by omega) hn) _ hm2
        rw [at_set false b0 (by omega) c0, if_neg (hne j (by omega) hn)] at hfr2
        exact ⟨hm2, hfr2⟩
    · by_cases he : j = i <;> by_cases hek : k = i
      · omega
      · simp only [he, if_true, if_neg hek] at e; exact absurd e.symm (hne k (by omega) hkn)
      · simp only [hek, if_true, if_neg he] at e; exact absurd e (hne j (by omega) hn)
      · simp only [if_neg he, if_neg hek] at e; exact h2 j k (by omega) hn (by omega) hkn e
end Go.Proofs.Ytmfppphlhgneeaa
namespace Go.Proofs.Ytmfppphlhgneeaa
set_option linter.unusedVariables false
def toL (v : Int) : List Int := if v < 0 then [] else [v]
structure Rel (B : Int) (fixed : List Bool) (used : List Int) (bk : Bk) (inn : List (List Int)) : Prop where
  ul : (used.length : Int) = B
  il : (inn.length : Int) = B
  u : ∀ b, 0 ≤ b → b < B → at' 0 used b = if at' false fixed b = true then 1 else 0
  n : ∀ b, 0 ≤ b → b < B → at' [] inn b = if at' false fixed b = true then [] else toL (at' (-1) bk b)
def SeenR (B : Int) (fixed s t : List Bool) : Prop := (t.length : Int) = B ∧ ∀ b, 0 ≤ b → b < B → at' false fixed b = false → at' false t b = at' false s b
theorem SeenR.set {B : Int} {fixed s t : List Bool} (h : SeenR B fixed s t) {b : Int} (hb : 0 ≤ b ∧ b < B) (hs : (s.length : Int) = B) : SeenR B fixed (s.set b.toNat true) (t.set b.toNat true) :=
  ⟨by simpa using h.1, fun c c0 cB hf => by rw [at_set false hb.1 (by rw [h.1]; exact hb.2) c0, at_set false hb.1 (by rw [hs]; exact hb.2) c0, h.2 c c0 cB hf]⟩
theorem SeenR.setF {B : Int} {fixed s t : List Bool} (h : SeenR B fixed s t) {b : Int} (hb : 0 ≤ b ∧ b < B) (hf : at' false fixed b = true) : SeenR B fixed s (t.set b.toNat true) :=
  ⟨by simpa using h.1, fun c c0 cB hc => by rw [at_set false hb.1 (by rw [h.1]; exact hb.2) c0, if_neg (fun e => by subst e; rw [hf] at hc; cases hc)]; exact h.2 c c0 cB hc⟩
theorem Rel.set {B : Int} {fixed : List Bool} {used : List Int} {bk : Bk} {inn : List (List Int)} (h : Rel B fixed used bk inn) (hbl : (bk.length : Int) = B) {b i : Int} (hb : 0 ≤ b ∧ b < B) (hf : at' false fixed b = false) (hi : 0 ≤ i) : Rel B fixed used (bk.set b.toNat i) (inn.set b.toNat [i]) :=
  ⟨h.ul, by simpa using h.il, h.u, fun c c0 cB => by
    rw [at_set [] hb.1 (by rw [h.il]; exact hb.2) c0, at_set (-1) hb.1 (by omega) c0]
    by_cases e : c = b
    · subst e; rw [if_pos rfl, if_pos rfl, hf]; simp [toL]; omega
    · rw [if_neg e, if_neg e]; exact h.n c c0 cB⟩
def RefP (B : Int) (fixed : List Bool) (used : List Int) (inn : List (List Int)) (r : Bool) (bk' : Bk) (s' : List Bool) (x : Option (Bool × List (List Int) × List Bool)) : Prop :=
  ∃ inn' t', x = some (r, inn', t') ∧ (r = true → Rel B fixed used bk' inn') ∧ (r = false → inn' = inn ∧ SeenR B fixed s' t')
theorem sim_loop (B : Int) (homes : List (List Int)) (fixed : List Bool) (used : List Int) (hh : HomesOK B homes) (hf : (fixed.length : Int) = B) (i : Int) (hi : 0 ≤ i ∧ i < homes.length) (m : Nat)
    (ih : ∀ (i : Int) (s t : List Bool) (bk : Bk) (inn : List (List Int)) (r : Bool) (bk' : Bk) (s' : List Bool), 0 ≤ i → i < homes.length → (s.length : Int) = B → BkOK B homes bk → s.count false < m → Rel B fixed used bk inn → SeenR B fixed s t → cuckoo_placing_place_R m (homes, bk, fixed) i s = some (r, bk', s') →
      RefP B fixed used inn r bk' s' (ref19_place_R m homes inn used 1 i t)) :
    ∀ (hs : List Int) (s t : List Bool) (bk : Bk) (inn : List (List Int)) (r : Bool) (bk' : Bk) (s' : List Bool), (∀ b ∈ hs, b ∈ at' [] homes i) → (s.length : Int) = B → BkOK B homes bk → s.count false < m + 1 → Rel B fixed used bk inn → SeenR B fixed s t → cuckoo_placing_place_L1 (cuckoo_placing_place_R m) i homes fixed hs s bk = some (r, bk', s') →
      RefP B fixed used inn r bk' s' (ref19_place_L2 (ref19_place_R m) homes used 1 i inn hs t)
  | [], s, t, bk, inn, r, bk', s', _, _, _, _, hr, ht, h => by
    rw [cuckoo_placing_place_L1] at h
    cases h
    exact ⟨inn, t, rfl, by simp, fun _ => ⟨rfl, ht⟩⟩
  | b :: hs, s, t, bk, inn, r, bk', s', hm, hsl, hb, hc, hr, ht, h => by
    have hbi : b ∈ at' [] homes i := hm b List.mem_cons_self
    obtain ⟨b0, bB⟩ := hh _ (at_mem [] hi.1 hi.2) b hbi
    have ih2 := fun s t bk inn r bk' s' => sim_loop B homes fixed used hh hf i hi m ih hs s t bk inn r bk' s' (fun c h => hm c (List.mem_cons_of_mem _ h))
    have htl := ht.1
    have hbk := hb.1
    rw [cuckoo_placing_place_L1] at h
    unfold cuckoo_placing_place_B1 at h
    rw [at_idx false b0 (by omega), at_idx false b0 (by omega)] at h
    simp only [Option.bind_some] at h
    rw [ref19_place_L2]
    unfold ref19_place_B2
    rw [at_idx false b0 (by omega)]
    simp only [Option.bind_some]
    have hu := hr.u b b0 bB
    have hn := hr.n b b0 bB
    have hul := hr.ul
    have hil := hr.il
    by_cases hfx : at' false fixed b = true
    · -- a bucket that is fixed
      have h' : cuckoo_placing_place_L1 (cuckoo_placing_place_R m) i homes fixed hs s bk = some (r, bk', s') := by
        rw [hfx] at h
        by_cases h1 : at' false s b = true
        · rw [if_pos h1] at h; simpa using h
        · rw [if_neg h1] at h; simpa using h
      by_cases h1 : at' false t b = true
      · rw [if_pos h1]; exact ih2 s t bk inn r bk' s' hsl hb hc hr ht h'
      · rw [if_neg h1, lupd_ok b0 (by omega)]
        simp only [Option.bind_some]
        rw [at_idx 0 b0 (by omega), at_idx [] b0 (by omega)]
        simp only [Option.bind_some]
        rw [hu, hn, hfx]
        simp only [if_true, List.length_nil]
        rw [if_neg (by rw [w64_id (by omega) (by omega)]; omega)]
        rw [ref19_place_L1]
        exact ih2 s _ bk inn r bk' s' hsl hb hc hr (ht.setF ⟨b0, bB⟩ hfx) h'
    · have hfx' : at' false fixed b = false := by simpa using hfx
      rw [ht.2 b b0 bB hfx']
      by_cases h1 : at' false s b = true
      · rw [if_pos h1] at h ⊢
        simp only [Option.bind_some, if_true] at h
        exact ih2 s t bk inn r bk' s' hsl hb hc hr ht h
      · have h1' : at' false s b = false := by simpa using h1
        rw [if_neg h1] at h ⊢
        simp only [Option.bind_some] at h
        rw [if_neg hfx, at_idx (-1) b0 (by omega)] at h
        simp only [Option.bind_some] at h
        rw [lupd_ok b0 (by omega)]
        simp only [Option.bind_some]
        rw [at_idx 0 b0 (by omega), at_idx [] b0 (by omega)]
        simp only [Option.bind_some]
        rw [hfx'] at hu hn
        simp only [Bool.false_eq_true, if_false] at hu hn
        rw [hu, hn]
        by_cases h3 : at' (-1) bk b < 0
        · rw [if_pos h3, lupd_ok b0 (by omega)] at h
          simp only [Option.bind_some] at h
          cases h
          have htL : toL (at' (-1) bk b) = [] := by unfold toL; rw [if_pos h3]
          rw [htL]
          simp only [List.length_nil]
          rw [if_pos (by rw [w64_id (by omega) (by omega)]; omega), lapp_ok (by simp)]
          simp only [Option.bind_some, List.nil_append]
          rw [lupd_ok b0 (by omega)]
          simp only [Option.bind_some]
          exact ⟨_, _, rfl, fun _ => hr.set hbk ⟨b0, bB⟩ hfx' hi.1, by simp⟩
        · rw [if_neg h3, lupd_ok b0 (by omega)] at h
          simp only [Option.bind_some] at h
          have htL : toL (at' (-1) bk b) = [at' (-1) bk b] := by unfold toL; rw [if_neg h3]
          rw [htL]
          simp only [List.length_singleton]
          rw [if_neg (by rw [w64_id (by omega) (by omega)]; omega), ref19_place_L1]
          unfold ref19_place_B1
          have hlt : b < s.length := by omega
          have ho := hb.2 _ (at_mem (-1) b0 (by omega : b < (bk.length : Int)))
          have hcl := count_false_lt b0 hlt h1'
          obtain ⟨r1, bk1, s1, e1, l1, m1, w1, f1⟩ := place_ok B homes fixed hh hf m (at' (-1) bk b) (s.set b.toNat true) bk (by omega) ho.2 (by simpa using hsl) hb (by omega)
          rw [e1] at h
          simp only [Option.bind_some] at h
          obtain ⟨inn1, t1, e2, g1, g2⟩ := ih (at' (-1) bk b) _ _ bk inn r1 bk1 s1 (by omega) ho.2 (by simpa using hsl) hb (by omega) hr (ht.set ⟨b0, bB⟩ hsl) e1
          rw [e2]
          simp only [Option.bind_some]
          cases r1 with
          | true =>
            have hw := w1 rfl
            have hr1 := g1 rfl
            have hb1 := hw.ok.1
            have hil1 := hr1.il
            rw [if_pos rfl, at_idx (-1) b0 (by omega)] at h
            simp only [Option.bind_some] at h
            rw [lupd_ok b0 (by omega)] at h
            simp only [Option.bind_some] at h
            cases h
            rw [if_pos rfl, at_idx [] b0 (by omega)]
            simp only [Option.bind_some]
            have hst : at' (-1) bk1 b = at' (-1) bk b := hw.still b b0 bB (.inl (by rw [at_set false b0 hlt b0, if_pos rfl]))
            have hn1 := hr1.n b b0 bB
            rw [hfx', hst, htL] at hn1
            simp only [Bool.false_eq_true, if_false] at hn1
            rw [hn1]
            have hx : lidx [at' (-1) bk b] ((0 : Nat) : Int) = some (at' (-1) bk b) := rfl
            have hy : lupd [at' (-1) bk b] ((0 : Nat) : Int) i = some [i] := rfl
            rw [hx]
            simp only [Option.bind_some]
            rw [hy]
            simp only [Option.bind_some]
            rw [lupd_ok b0 (by omega)]
            simp only [Option.bind_some]
            exact ⟨_, _, rfl, fun _ => hr1.set hb1 ⟨b0, bB⟩ hfx' hi.1, by simp⟩
          | false =>
            rw [if_neg (by simp)] at h
            rw [if_neg (by simp), ref19_place_L1]
            obtain ⟨rfl, hlost⟩ := f1 rfl
            obtain ⟨rfl, ht1⟩ := g2 rfl
            have hcle := count_le_of (s := s.set b.toNat true) (t := s1) (by rw [List.length_set]; omega) (fun c c0 cl h => m1 c c0 (by simp at cl; omega) h)
            exact ih2 s1 t1 bk1 inn1 r bk' s' l1 hb (by omega) hr ht1 h
theorem sim_ok (B : Int) (homes : List (List Int)) (fixed : List Bool) (used : List Int) (hh : HomesOK B homes) (hf : (fixed.length : Int) = B) : ∀ (m : Nat) (i : Int) (s t : List Bool) (bk : Bk) (inn : List (List Int)) (r : Bool) (bk' : Bk) (s' : List Bool), 0 ≤ i → i < homes.length → (s.length : Int) = B → BkOK B homes bk → s.count false < m → Rel B fixed used bk inn → SeenR B fixed s t → cuckoo_placing_place_R m (homes, bk, fixed) i s = some (r, bk', s') →
      RefP B fixed used inn r bk' s' (ref19_place_R m homes inn used 1 i t)
  | 0, i, s, t, bk, inn, r, bk', s', _, _, _, _, h, _, _, _ => by omega
  | m + 1, i, s, t, bk, inn, r, bk', s', h0, h1, hs, hb, hc, hr, ht, h => by
    rw [cuckoo_placing_place_R] at h
    unfold cuckoo_placing_place_B2 at h
    rw [at_idx [] h0 h1] at h
    simp only [Option.bind_some] at h
    rw [ref19_place_R]
    unfold ref19_place_B3
    rw [at_idx [] h0 h1]
    simp only [Option.bind_some]
    exact sim_loop B homes fixed used hh hf i ⟨h0, h1⟩ m (sim_ok B homes fixed used hh hf m) _ s t bk inn r bk' s' (fun _ h => h) hs hb hc hr ht h
end Go.Proofs.Ytmfppphlhgneeaa
namespace Go.Proofs.Ytmfppphlhgneeaa
set_option linter.unusedVariables false
def UsedOf (B : Int) (fixed : List Bool) (used : List Int) : Prop := (used.length : Int) = B ∧ (fixed.length : Int) = B ∧ ∀ b, 0 ≤ b → b < B → at' 0 used b = if at' false fixed b = true then 1 else 0
theorem at_rep {α : Type} (d x : α) {n : Nat} {b : Int} (h0 : 0 ≤ b) (h1 : b < n) : at' d (List.replicate n x) b = x := by
  unfold at'; rw [List.getD_eq_getElem?_getD, List.getElem?_replicate, if_pos (by omega)]; rfl
theorem poss_L {B : Int} {homes : List (List Int)} {fixed : List Bool} {used : List Int} (hh : HomesOK B homes) (hB : 0 ≤ B ∧ B ≤ 1000) (hf : (fixed.length : Int) = B) :
    ∀ (hs : List (List Int)) (n : Nat) (bk : Bk) (inn : List (List Int)), homes.drop n = hs → n ≤ homes.length → Stand B homes fixed 0 n bk → Rel B fixed used bk inn →
      ∃ r, ref19_Possible_L1 homes B 1 used hs n inn = some r ∧ (r = true ↔ Placeable homes fixed 0)
  | [], n, bk, inn, hd, hle, hs, hr => by
    have : homes.length ≤ n := List.drop_eq_nil_iff.1 hd
    have e : n = homes.length := by omega
    subst e
    exact ⟨true, rfl, by simp [hs.places (Int.le_refl _)]⟩
  | x :: hs', n, bk, inn, hd, hle, hs, hr => by
    have hlt : n < homes.length := by
      rcases Nat.lt_or_ge n homes.length with h | h
      · exact h
      · rw [List.drop_eq_nil_of_le h] at hd; cases hd
    have hd' : homes.drop (n + 1) = hs' := by rw [← List.drop_drop, hd]; rfl
    rw [ref19_Possible_L1]
    unfold ref19_Possible_B1
    have hmk : lmk B false = some (List.replicate B.toNat false) := by unfold lmk; rw [if_pos (by omega)]
    rw [hmk]
    simp only [Option.bind_some]
    have hsl : ((List.replicate B.toNat false).length : Int) = B := by simp; omega
    have h0 : ∀ b, 0 ≤ b → b < B → at' false (List.replicate B.toNat false) b = false := fun b b0 bB => at_rep false false b0 (by omega)
    have hcnt : (List.replicate B.toNat false).count false < big := by
      have := List.count_le_length (a := false) (l := List.replicate B.toNat false)
      rw [List.length_replicate] at this
      simp only [big]; omega
    obtain ⟨r1, bk1, s1, e1, l1, m1, w1, f1⟩ := place_ok B homes fixed hh hf big n (List.replicate B.toNat false) bk (by omega) (by omega) hsl hs.ok hcnt
    obtain ⟨inn1, t1, e2, g1, g2⟩ := sim_ok B homes fixed used hh hf big n _ (List.replicate B.toNat false) bk inn r1 bk1 s1 (by omega) (by omega) hsl hs.ok hcnt hr ⟨hsl, fun _ _ _ _ => rfl⟩ e1
    unfold ref19_place
    rw [e2]
    simp only [Option.bind_some]
    cases r1 with
    | true =>
      rw [if_pos rfl]
      exact poss_L hh hB hf hs' (n + 1) bk1 inn1 hd' (by omega) (by exact_mod_cast hs.won ⟨Int.le_refl _, by omega⟩ (w1 rfl)) (g1 rfl)
    | false =>
      rw [if_neg (by simp)]
      exact ⟨false, rfl, by simp [no_way hh hs ⟨Int.le_refl _, by omega⟩ (by omega) h0 (f1 rfl).2]⟩
theorem poss_ok {B : Int} {homes : List (List Int)} {fixed : List Bool} {used : List Int} (hh : HomesOK B homes) (hB : 0 ≤ B ∧ B ≤ 1000) (hu : UsedOf B fixed used) : ∃ r, ref19_Possible homes B 1 used = some r ∧ (r = true ↔ Placeable homes fixed 0) := by
  unfold ref19_Possible
  have hmk : lmk B ([] : List Int) = some (List.replicate B.toNat []) := by unfold lmk; rw [if_pos (by omega)]
  rw [hmk]
  simp only [Option.bind_some]
  have hall : ∀ b, 0 ≤ b → b < B → at' (-1) (List.replicate B.toNat (-1 : Int)) b = -1 := fun b b0 bB => at_rep _ _ b0 (by omega)
  refine poss_L hh hB hu.2.1 homes 0 (List.replicate B.toNat (-1)) _ rfl (Nat.zero_le _) ⟨⟨by simp; omega, fun v hv => ?_⟩, fun j hj => ?_, fun j h1 h2 => by omega, fun j hj => ?_, fun b b0 bB _ h => ?_, fun b b0 bB _ => ?_⟩ ⟨hu.1, by simp; omega, hu.2.2, fun b b0 bB => ?_⟩
  · rw [(List.mem_replicate.1 hv).2]; omega
  · rw [List.count_replicate, if_neg (by simp; omega)]; omega
  · rw [List.count_replicate, if_neg (by simp; omega)]
  · rw [hall b b0 bB] at h; omega
  · rw [hall b b0 bB]; omega
  · rw [at_rep _ _ b0 (by omega), hall b b0 bB]; simp [toL]
theorem placeable_drop {homes : List (List Int)} {fixed : List Bool} {a : Nat} (ha : a ≤ homes.length) : Placeable (homes.drop a) fixed 0 ↔ Placeable homes fixed a := by
  have hat : ∀ j : Int, 0 ≤ j → at' [] (homes.drop a) j = at' [] homes (j + a) := fun j hj => by
    unfold at'
    rw [List.getD_eq_getElem?_getD, List.getD_eq_getElem?_getD, List.getElem?_drop]
    congr 2; omega
  have hlen : ((homes.drop a).length : Int) = homes.length - a := by simp; omega
  constructor
  · rintro ⟨f, h1, h2⟩
    refine ⟨fun j => f (j - a), fun j hj hn => ?_, fun j k hj hn hk hkn e => ?_⟩
    · have := h1 (j - a) (by omega) (by omega)
      rw [hat _ (by omega), show j - a + a = j from by omega] at this
      exact this
    · have := h2 (j - a) (k - a) (by omega) (by omega) (by omega) (by omega) e
      omega
  · rintro ⟨f, h1, h2⟩
    refine ⟨fun j => f (j + a), fun j hj hn => ?_, fun j k hj hn hk hkn e => ?_⟩
    · rw [hat _ hj]; exact h1 (j + a) (by omega) (by omega)
    · have := h2 (j + a) (k + a) (by omega) (by omega) (by omega) (by omega) e
      omega
def GreedyL (homes : List (List Int)) : Int → List (List Int) → List Bool → List Int → Prop
  | _, [], _, bs => bs = []
  | i, h :: hs, fixed, bs => ∃ pre b post bs', bs = b :: bs' ∧ h = pre ++ b :: post ∧ at' false fixed b = false ∧ (∀ c ∈ pre, at' false fixed c = true ∨ ¬ Placeable homes (fixed.set c.toNat true) (i + 1)) ∧
    Placeable homes (fixed.set b.toNat true) (i + 1) ∧ GreedyL homes (i + 1) hs (fixed.set b.toNat true) bs'
theorem UsedOf.take {B : Int} {fixed : List Bool} {used : List Int} (h : UsedOf B fixed used) {b : Int} (hb : 0 ≤ b ∧ b < B) : UsedOf B (fixed.set b.toNat true) (used.set b.toNat 1) :=
  ⟨by simpa using h.1, by simpa using h.2.1, fun c c0 cB => by
    rw [at_set 0 hb.1 (by rw [h.1]; exact hb.2) c0, at_set false hb.1 (by rw [h.2.1]; exact hb.2) c0]
    by_cases e : c = b
    · rw [if_pos e, if_pos e]; rfl
    · rw [if_neg e, if_neg e]; exact h.2.2 c c0 cB⟩
theorem rfirst_L1 {B : Int} {homes : List (List Int)} (hh : HomesOK B homes) (hB : 0 ≤ B ∧ B ≤ 1000) (hn : (homes.length : Int) ≤ 100000) (i : Nat) (hi : i < homes.length) (rec : List Int → List Int → Option (List Int × Bool)) {fixed : List Bool} {used : List Int} (hu : UsedOf B fixed used) (out : List Int) (ho : out.length ≤ 100000) :
    ∀ hs : List Int, (∀ b ∈ hs, 0 ≤ b ∧ b < B) → (∃ b ∈ hs, at' false fixed b = false ∧ Placeable homes (fixed.set b.toNat true) (i + 1)) →
      ∃ pre b post, hs = pre ++ b :: post ∧ at' false fixed b = false ∧ (∀ c ∈ pre, at' false fixed c = true ∨ ¬ Placeable homes (fixed.set c.toNat true) (i + 1)) ∧ Placeable homes (fixed.set b.toNat true) (i + 1) ∧
        ref19_First_L1 rec i homes B 1 out hs used = rec (out ++ [b]) (used.set b.toNat 1)
  | [], _, h => by obtain ⟨b, hb, _⟩ := h; cases hb
  | b :: hs, hr, hex => by
    obtain ⟨b0, bB⟩ := hr b List.mem_cons_self
    have hul := hu.1
    have hub := hu.2.2 b b0 bB
    have hbl : b < (used.length : Int) := by omega
    have hskip : (at' false fixed b = true ∨ ¬ Placeable homes (fixed.set b.toNat true) (i + 1)) → ref19_First_L1 rec i homes B 1 out (b :: hs) used = ref19_First_L1 rec i homes B 1 out hs used →
        ∃ pre b' post, b :: hs = pre ++ b' :: post ∧ at' false fixed b' = false ∧ (∀ c ∈ pre, at' false fixed c = true ∨ ¬ Placeable homes (fixed.set c.toNat true) (i + 1)) ∧ Placeable homes (fixed.set b'.toNat true) (i + 1) ∧
        ref19_First_L1 rec i homes B 1 out (b :: hs) used = rec (out ++ [b']) (used.set b'.toNat 1) := fun hno e => by
      obtain ⟨pre, b', post, h1, h2, h3, h4, h5⟩ := rfirst_L1 hh hB hn i hi rec hu out ho hs (fun c hc => hr c (List.mem_cons_of_mem _ hc)) (by
        obtain ⟨c, hc, h1, h2⟩ := hex
        rcases List.mem_cons.1 hc with rfl | hc
        · rcases hno with h | h
          · rw [h] at h1; cases h1
          · exact absurd h2 h
        · exact ⟨c, hc, h1, h2⟩)
      exact ⟨b :: pre, b', post, by rw [h1]; rfl, h2, fun c hc => by rcases List.mem_cons.1 hc with rfl | hc; exact hno; exact h3 c hc, h4, by rw [e]; exact h5⟩
    by_cases hf : at' false fixed b = true
    · refine hskip (.inl hf) ?_
      rw [ref19_First_L1]
      unfold ref19_First_B1
      rw [at_idx 0 b0 hbl, hub, if_pos hf]
      simp only [Option.bind_some, if_true]
    · have hf' : at' false fixed b = false := by simpa using hf
      rw [if_neg hf] at hub
      have hsub : lsub homes (w64 ((i : Int) + 1)) (homes.length : Int) = some (homes.drop (i + 1)) := by
        rw [w64_id (by omega) (by omega), lsub_ok (by omega) (by omega) (by omega)]
        congr 1
        rw [show ((i : Int) + 1).toNat = i + 1 from by omega, show ((homes.length : Int) - ((i : Int) + 1)).toNat = homes.length - (i + 1) from by omega]
        exact List.take_of_length_le (by simp)
      have hhd : HomesOK B (homes.drop (i + 1)) := fun l hl => hh l (List.mem_of_mem_drop hl)
      obtain ⟨r, e, hr2⟩ := poss_ok hhd hB (hu.take ⟨b0, bB⟩)
      rw [placeable_drop (by omega)] at hr2
      have heq : ref19_First_L1 rec i homes B 1 out (b :: hs) used = if r = true then rec (out ++ [b]) (used.set b.toNat 1) else ref19_First_L1 rec i homes B 1 out hs used := by
        rw [ref19_First_L1]
        unfold ref19_First_B1
        rw [at_idx 0 b0 hbl, hub]
        simp only [Option.bind_some]
        rw [if_neg (by omega), show w64 (0 + 1) = 1 from by rw [w64_id (by omega) (by omega)]; rfl, lupd_ok b0 hbl]
        simp only [Option.bind_some]
        rw [hsub]
        simp only [Option.bind_some]
        rw [e]
        simp only [Option.bind_some]
        rw [lapp_ok (by simp; omega), at_idx 0 b0 (by simpa using hbl), at_set 0 b0 hbl b0, if_pos rfl]
        simp only [Option.bind_some]
        rw [show w64 (1 - 1) = 0 from by rw [w64_id (by omega) (by omega)]; rfl, lupd_ok b0 (by simpa using hbl)]
        simp only [Option.bind_some, List.set_set]
        rw [set_at 0 b0 hbl hub]
      cases r with
      | true => rw [if_pos rfl] at heq; exact ⟨[], b, hs, rfl, hf', by simp, by exact_mod_cast hr2.1 rfl, heq⟩
      | false => rw [if_neg (by simp)] at heq; exact hskip (.inr fun hp => by have := hr2.2 (by exact_mod_cast hp); cases this) heq
theorem rfirst_L2 {B : Int} {homes : List (List Int)} (hh : HomesOK B homes) (hB : 0 ≤ B ∧ B ≤ 1000) (hn : (homes.length : Int) ≤ 100000) : ∀ (hs : List (List Int)) (n : Nat) (fixed : List Bool) (used out : List Int), homes.drop n = hs → UsedOf B fixed used → out.length = n → n ≤ homes.length → Placeable homes fixed n →
    ∃ bs, ref19_First_L2 homes B 1 hs n out used = some (out ++ bs, true) ∧ GreedyL homes n hs fixed bs
  | [], n, fixed, used, out, hd, hu, hl, hle, hp => ⟨[], by simp [ref19_First_L2], rfl⟩
  | l :: hs, n, fixed, used, out, hd, hu, hl, hle, hp => by
    have hlt : n < homes.length := by
      rcases Nat.lt_or_ge n homes.length with h | h
      · exact h
      · rw [List.drop_eq_nil_of_le h] at hd; cases hd
    have hd' : homes.drop (n + 1) = hs := by rw [← List.drop_drop, hd]; rfl
    have hat : at' [] homes (n : Int) = l := by
      unfold at'
      rw [Int.toNat_natCast, List.getD_eq_getElem?_getD, List.getElem?_eq_getElem hlt]
      rw [List.drop_eq_getElem_cons hlt] at hd
      exact (List.cons.inj hd).1
    have hi : 0 ≤ (n : Int) ∧ (n : Int) < homes.length := ⟨by omega, by omega⟩
    have hlr : ∀ b ∈ l, 0 ≤ b ∧ b < B := hat ▸ hh _ (at_mem [] hi.1 hi.2)
    have hst := (Placeable.step hh hu.2.1 hi).1 hp
    rw [hat] at hst
    obtain ⟨pre, b, post, h1, h2, h3, h4, h5⟩ := rfirst_L1 hh hB hn n hlt (ref19_First_L2 homes B 1 hs (n + 1)) hu out (by omega) l hlr hst
    obtain ⟨b0, bB⟩ := hlr b (by rw [h1]; simp)
    obtain ⟨bs, e, hg⟩ := rfirst_L2 hh hB hn hs (n + 1) (fixed.set b.toNat true) (used.set b.toNat 1) (out ++ [b]) hd' (hu.take ⟨b0, bB⟩) (by simp [hl]) (by omega) (by exact_mod_cast h4)
    refine ⟨b :: bs, ?_, pre, b, post, bs, rfl, h1, h2, h3, h4, by exact_mod_cast hg⟩
    rw [ref19_First_L2]
    unfold ref19_First_B2
    rw [h5, e]
    simp
end Go.Proofs.Ytmfppphlhgneeaa
namespace Go.Proofs.Ytmfppphlhgneeaa
set_option linter.unusedVariables false
abbrev Hsh := Int × List (Int × Int)
def PairOK (p : Int × Int) : Prop := 0 ≤ p.1 ∧ p.1 < 2147483647 ∧ 0 ≤ p.2 ∧ p.2 < 2147483647
def HshOK (h : Hsh) : Prop := 1 ≤ h.1 ∧ h.1 ≤ 64 ∧ 1 ≤ h.2.length ∧ h.2.length ≤ 4 ∧ ∀ p ∈ h.2, PairOK p
def ItemOK (n : Int) : Prop := 0 ≤ n ∧ n < 2147483647
def homeL (h : Hsh) (n : Int) : List Int := h.2.map fun p => (p.1 * n + p.2) % 2147483647 % h.1
theorem check_L : ∀ ps : List (Int × Int), (cuckoo_Check_L1 ps = some 0 ∧ ∀ p ∈ ps, PairOK p) ∨ (cuckoo_Check_L1 ps = some 2 ∧ ¬ ∀ p ∈ ps, PairOK p)
  | [] => .inl ⟨rfl, by simp⟩
  | p :: ps => by
    rw [cuckoo_Check_L1]
    unfold cuckoo_Check_B1
    split
    · rename_i h
      refine .inr ⟨rfl, fun ha => ?_⟩
      have := ha p List.mem_cons_self
      unfold PairOK at this; omega
    · rename_i h
      have hp : PairOK p := by unfold PairOK; omega
      rcases check_L ps with ⟨e, h1⟩ | ⟨e, h1⟩
      · exact .inl ⟨e, fun q hq => by rcases List.mem_cons.1 hq with rfl | hq; exact hp; exact h1 q hq⟩
      · exact .inr ⟨e, fun ha => h1 fun q hq => ha q (List.mem_cons_of_mem _ hq)⟩
theorem check_ok (h : Hsh) : (cuckoo_Check h = some 0 ∧ HshOK h) ∨ (cuckoo_Check h = some 2 ∧ ¬ HshOK h) := by
  unfold cuckoo_Check
  split
  · rename_i hh
    refine .inr ⟨rfl, fun ha => ?_⟩
    unfold HshOK at ha; omega
  · rename_i hh
    rcases check_L h.2 with ⟨e, h1⟩ | ⟨e, h1⟩
    · exact .inl ⟨e, by omega, by omega, by omega, by omega, h1⟩
    · exact .inr ⟨e, fun ha => h1 ha.2.2.2.2⟩
theorem rcheck_L : ∀ ps, ref19_Check_L1 ps = cuckoo_Check_L1 ps
  | [] => rfl
  | p :: ps => by rw [ref19_Check_L1, cuckoo_Check_L1, rcheck_L ps]; rfl
theorem rcheck (h : Hsh) : ref19_Check h = cuckoo_Check h := by
  unfold ref19_Check cuckoo_Check; rw [rcheck_L]
theorem home_at {a b n B : Int} (ha : PairOK (a, b)) (hn : ItemOK n) (hB : 1 ≤ B) : Int.tmod (Int.tmod (w64 ((w64 (a * n)) + b)) 2147483647) B = (a * n + b) % 2147483647 % B := by
  unfold PairOK at ha; unfold ItemOK at hn
  dsimp only at ha
  have h1 : 0 ≤ a * n := Int.mul_nonneg ha.1 hn.1
  have h2 : a * n ≤ 2147483647 * 2147483647 := Int.mul_le_mul (by omega) (by omega) hn.1 (by omega)
  have e1 : (a * n + b).tmod 2147483647 = (a * n + b) % 2147483647 := Int.tmod_eq_emod_of_nonneg (by omega)
  rw [w64_id (x := a * n) (by omega) (by omega), w64_id (by omega) (by omega), e1, Int.tmod_eq_emod_of_nonneg (Int.emod_nonneg _ (by omega))]
theorem homes_L {B n : Int} (hB : 1 ≤ B) (hn : ItemOK n) : ∀ (ps : List (Int × Int)) (acc : List Int), (∀ p ∈ ps, PairOK p) → acc.length + ps.length ≤ 100 → cuckoo_homes_L1 n B ps acc = some (acc ++ ps.map fun p => (p.1 * n + p.2) % 2147483647 % B)
  | [], acc, _, _ => by simp [cuckoo_homes_L1]
  | p :: ps, acc, hp, hl => by
    rw [cuckoo_homes_L1]
    unfold cuckoo_homes_B1
    simp only [List.length_cons] at hl
    rw [nz_ok (by omega), lapp_ok (by simp; omega)]
    simp only [Option.bind_some]
    rw [homes_L hB hn ps _ (fun q hq => hp q (List.mem_cons_of_mem _ hq)) (by simp; omega), home_at (hp p List.mem_cons_self) hn hB]
    simp
theorem homes_ok {h : Hsh} (hk : HshOK h) {n : Int} (hn : ItemOK n) : cuckoo_homes h n = some (homeL h n) := by
  unfold cuckoo_homes
  have h4 := hk.2.2.2.1
  rw [homes_L hk.1 hn h.2 [] hk.2.2.2.2 (by simp; omega)]
  rfl
theorem rhomes_L {B n : Int} (hB : 1 ≤ B) (hn : ItemOK n) : ∀ (ps : List (Int × Int)) (acc : List Int), (∀ p ∈ ps, PairOK p) → acc.length + ps.length ≤ 100 → ref19_Homes_L1 n B ps acc = some (acc ++ ps.map (fun p => (p.1 * n + p.2) % 2147483647 % B), 0)
  | [], acc, _, _ => by simp [ref19_Homes_L1]
  | p :: ps, acc, hp, hl => by
    rw [ref19_Homes_L1]
    unfold ref19_Homes_B1
    simp only [List.length_cons] at hl
    rw [nz_ok (by omega), lapp_ok (by simp; omega)]
    simp only [Option.bind_some]
    rw [rhomes_L hB hn ps _ (fun q hq => hp q (List.mem_cons_of_mem _ hq)) (by simp; omega), home_at (hp p List.mem_cons_self) hn hB]
    simp
theorem rhomes_ok {h : Hsh} (hk : HshOK h) {n : Int} (hn : ItemOK n) : ref19_Homes h n = some (homeL h n, 0) := by
  unfold ref19_Homes
  rcases check_ok h with ⟨e, _⟩ | ⟨_, e⟩
  · rw [rcheck, e]
    simp only [Option.bind_some]
    have h4 := hk.2.2.2.1
    have := hn.1; have := hn.2
    rw [if_neg (by simp), if_neg (by omega), rhomes_L hk.1 hn h.2 [] hk.2.2.2.2 (by simp; omega)]
    rfl
  · exact absurd hk e
theorem homeL_range {h : Hsh} (hk : HshOK h) (n : Int) : ∀ b ∈ homeL h n, 0 ≤ b ∧ b < h.1 := fun b hb => by
  obtain ⟨p, _, rfl⟩ := List.mem_map.1 hb
  have := hk.1
  exact ⟨Int.emod_nonneg _ (by omega), Int.emod_lt_of_pos _ (by omega)⟩
end Go.Proofs.Ytmfppphlhgneeaa
namespace Go.Proofs.Ytmfppphlhgneeaa
set_option linter.unusedVariables false
end Go.Proofs.Ytmfppphlhgneeaa
namespace Go.Proofs.Ytmfppphlhgneeaa
set_option maxRecDepth 100000
end Go.Proofs.Ytmfppphlhgneeaa
namespace Go.Proofs.Ytmfppphlhgneeaa
set_option linter.unusedVariables false
end Go.Proofs.Ytmfppphlhgneeaa
namespace Go.Proofs.Ytmfppphlhgneeaa
set_option linter.unusedVariables false
def PlacesL (ls : List (List Int)) (fixed : List Bool) : Prop := ∃ ps : List (Int × List Int), ps.map (·.2) = ls ∧ (∀ p ∈ ps, p.1 ∈ p.2 ∧ at' false fixed p.1 = false) ∧ (ps.map (·.1)).Nodup
theorem perm_lift {α β : Type} (f : α → β) {l m : List β} (h : l.Perm m) : ∀ ps : List α, ps.map f = l → ∃ qs : List α, qs.Perm ps ∧ qs.map f = m := by
  induction h with
  | nil => intro ps hp; exact ⟨ps, List.Perm.refl _, hp⟩
  | cons x _ ih =>
    intro ps hp
    cases ps with
    | nil => simp at hp
    | cons p ps =>
      simp only [List.map_cons, List.cons.injEq] at hp
      obtain ⟨qs, h1, h2⟩ := ih ps hp.2
      exact ⟨p :: qs, h1.cons p, by simp [hp.1, h2]⟩
  | swap x y l =>
    intro ps hp
    cases ps with
    | nil => simp at hp
    | cons p ps =>
      cases ps with
      | nil => simp at hp
      | cons q ps =>
        simp only [List.map_cons, List.cons.injEq] at hp
        exact ⟨q :: p :: ps, List.Perm.swap p q ps, by simp [hp.1, hp.2.1, hp.2.2]⟩
  | trans _ _ ih1 ih2 =>
    intro ps hp
    obtain ⟨qs, h1, h2⟩ := ih1 ps hp
    obtain ⟨rs, h3, h4⟩ := ih2 qs h2
    exact ⟨rs, h3.trans h1, h4⟩
theorem PlacesL.perm {l m : List (List Int)} {fixed : List Bool} (h : l.Perm m) : PlacesL l fixed → PlacesL m fixed := by
  rintro ⟨ps, h1, h2, h3⟩
  obtain ⟨qs, k1, k2⟩ := perm_lift _ h ps h1
  exact ⟨qs, k2, fun p hp => h2 p (k1.mem_iff.1 hp), (k1.map _).nodup_iff.2 h3⟩
theorem PlacesL.sub {l m : List (List Int)} {fixed : List Bool} (h : m.Sublist l) : PlacesL l fixed → PlacesL m fixed := by
  rintro ⟨ps, h1, h2, h3⟩
  subst h1
  obtain ⟨qs, k1, k2⟩ := List.sublist_map_iff.1 h
  exact ⟨qs, k2.symm, fun p hp => h2 p (k1.subset hp), h3.sublist (k1.map _)⟩
end Go.Proofs.Ytmfppphlhgneeaa
namespace Go.Proofs.Ytmfppphlhgneeaa
set_option linter.unusedVariables false
theorem index_L (x : Int) : ∀ (l : List Int) (i : Nat), ∃ r, slices_Index_Lintint_L1 x l i = some r ∧ (0 ≤ r ↔ x ∈ l)
  | [], i => ⟨-1, rfl, by simp⟩
  | y :: l, i => by
    rw [slices_Index_Lintint_L1]
    unfold slices_Index_Lintint_B1
    by_cases h : x = y
    · rw [if_pos h]; exact ⟨i, rfl, by simp [h]⟩
    · rw [if_neg h]
      obtain ⟨r, e, hr⟩ := index_L x l (i + 1)
      exact ⟨r, e, by rw [hr]; simp [h]⟩
theorem contains_ok (l : List Int) (x : Int) : ∃ r, slices_Contains_Lintint l x = some r ∧ (r = true ↔ x ∈ l) := by
  unfold slices_Contains_Lintint slices_Index_Lintint
  obtain ⟨r, e, hr⟩ := index_L x l 0
  rw [e]
  exact ⟨decide (0 ≤ r), rfl, by simp [hr]⟩
structure Asg (B : Int) (homes : List (List Int)) (bk : Bk) : Prop where
  ok : BkOK B homes bk
  le : ∀ j, 0 ≤ j → bk.count j ≤ 1
  has : ∀ j : Int, 0 ≤ j → j < homes.length → ∃ b, 0 ≤ b ∧ b < B ∧ b ∈ at' [] homes j ∧ at' (-1) bk b = j
theorem Asg.edge {B : Int} {homes : List (List Int)} {bk : Bk} (h : Asg B homes bk) {b : Int} (b0 : 0 ≤ b) (bB : b < B) (hn : 0 ≤ at' (-1) bk b) : b ∈ at' [] homes (at' (-1) bk b) := by
  have hb := h.ok.1
  have hv := h.ok.2 _ (at_mem (-1) (l := bk) b0 (by omega))
  obtain ⟨c, c0, cB, hc, e⟩ := h.has _ hn hv.2
  by_cases hbc : b = c
  · rw [hbc] at e ⊢; rw [e]; rw [hbc] at hc; rw [e] at hc; exact hc
  · have := at_count (l := bk) ⟨b0, by omega⟩ ⟨c0, by omega⟩ rfl e hbc
    have := h.le _ hn
    omega
end Go.Proofs.Ytmfppphlhgneeaa
end

section
namespace Go.Proofs.Ytmfppphlhgneeaa
set_option linter.unusedVariables false
theorem nodup_of_count : ∀ {l : List Int}, (∀ x, l.count x ≤ 1) → l.Nodup
  | [], _ => List.nodup_nil
  | x :: l, h => by
    refine List.nodup_cons.2 ⟨fun hm => ?_, nodup_of_count fun y => ?_⟩
    · have := h x
      rw [List.count_cons_self] at this
      have := List.count_pos_iff.2 hm
      omega
    · have := h y
      rw [List.count_cons] at this
      omega
theorem Asg.used {B : Int} {homes : List (List Int)} {bk : Bk} (h : Asg B homes bk) : (bk.filter fun x => decide (0 ≤ x)).length = homes.length := by
  have hn : (bk.filter fun x => decide (0 ≤ x)).Nodup := nodup_of_count fun x => by
    by_cases hx : 0 ≤ x
    · have h1 := (List.filter_sublist (p := fun x => decide (0 ≤ x)) (l := bk)).count_le x
      have := h.le x hx
      omega
    · have : (bk.filter fun x => decide (0 ≤ x)).count x = 0 := List.count_eq_zero.2 fun hm => by
        have := (List.mem_filter.1 hm).2
        simp at this; omega
      omega
  have hb := h.ok.1
  have h1 := pig hn (m := (List.range homes.length).map fun (i : Nat) => (i : Int)) fun x hx => by
    obtain ⟨h2, h3⟩ := List.mem_filter.1 hx
    have := (h.ok.2 x h2).2
    have h4 : 0 ≤ x := by simpa using h3
    exact List.mem_map.2 ⟨x.toNat, List.mem_range.2 (by omega), by omega⟩
  have h2 := pig (l := (List.range homes.length).map fun (i : Nat) => (i : Int)) (m := bk.filter fun x => decide (0 ≤ x)) (nodup_map List.nodup_range fun x _ y _ e => by omega) fun x hx => by
    obtain ⟨i, hi, rfl⟩ := List.mem_map.1 hx
    obtain ⟨b, b0, bB, _, e⟩ := h.has i (by omega) (by have := List.mem_range.1 hi; omega)
    refine List.mem_filter.2 ⟨?_, by simp⟩
    rw [← e]; exact at_mem (-1) b0 (by omega)
  simp at h1 h2
  omega
end Go.Proofs.Ytmfppphlhgneeaa
end

section
namespace Go.Proofs.Ytmfppphlhgneeaa
set_option linter.unusedVariables false
theorem homes_ok' {h : Hsh} (hk : HshOK h) {n : Int} (hn : ItemOK n) : cuckoo_Homes h n = some (homeL h n, 0) := by
  unfold cuckoo_Homes
  rcases check_ok h with ⟨e, _⟩ | ⟨_, hc⟩
  · rw [e]
    simp only [Option.bind_some]
    have hi : cuckoo_item n = some true := by unfold cuckoo_item ItemOK at *; simp [hn]
    rw [if_neg (by simp), hi]
    simp only [Option.bind_some]
    rw [if_neg (by simp), homes_ok hk hn]; rfl
  · exact absurd hk hc
end Go.Proofs.Ytmfppphlhgneeaa
end

section
namespace Go.Proofs.Ytmfppphlhgneeaa
set_option linter.unusedVariables false
set_option maxRecDepth 100000
theorem sidx_ok {s : ByteArray} {i : Int} (h0 : 0 ≤ i) (h1 : i < s.size) : ∃ c, sidx s i = some c ∧ 0 ≤ c ∧ c ≤ 255 := by
  unfold sidx
  rw [if_pos ⟨h0, h1⟩]
  have := (s.data.toList.getD i.toNat 0).toNat_lt
  exact ⟨_, rfl, by omega, by omega⟩
theorem sum_L (w : ByteArray) (hw : w.size ≤ 100000) : ∀ (m fuel : Nat) (v : Int) (i : Nat), i + m = w.size → m < fuel → ItemOK v →
    ∃ s, digest_sum_string_L1 w (w.size : Int) fuel v (i : Int) = some s ∧ ref11_Sum_L1 w fuel v (i : Int) = some s ∧ ItemOK s
  | m, 0, _, _, _, h, _ => by omega
  | 0, fuel + 1, v, i, h1, h2, hv => by
    rw [digest_sum_string_L1, ref11_Sum_L1]
    unfold digest_sum_string_B1 ref11_Sum_B1
    rw [if_neg (by omega), if_neg (by omega)]
    exact ⟨v, rfl, rfl, hv⟩
  | m + 1, fuel + 1, v, i, h1, h2, hv => by
    rw [digest_sum_string_L1, ref11_Sum_L1]
    unfold digest_sum_string_B1 ref11_Sum_B1
    obtain ⟨c, e, c0, c1⟩ := sidx_ok (s := w) (i := (i : Int)) (by omega) (by omega)
    unfold ItemOK at hv
    rw [if_pos (by omega), if_pos (by omega), e, Option.bind_some, Option.bind_some, w64_id (x := c) (by omega) (by omega), w64_id (x := v * 1000003) (by omega) (by omega), w64_id (x := v * 1000003 + c) (by omega) (by omega), w64_id (x := v * 1000003 + c + 1) (by omega) (by omega), w64_id (x := (i : Int) + 1) (by omega) (by omega)]
    exact sum_L w hw m fuel _ (i + 1) (by omega) (by omega) ⟨Int.tmod_nonneg _ (by omega), Int.tmod_lt_of_pos _ (by omega)⟩
def sumI (w : ByteArray) : Int := (ref11_Sum w).getD 0
theorem sum_ok {w : ByteArray} (hw : w.size ≤ 100000) : digest_Sum w = some (sumI w) ∧ ref11_Sum w = some (sumI w) ∧ ItemOK (sumI w) := by
  obtain ⟨s, h1, h2, h3⟩ := sum_L w hw w.size big 1 0 (by omega) (by simp only [big]; omega) ⟨by omega, by omega⟩
  have e : ref11_Sum w = some s := h2
  have e2 : sumI w = s := by unfold sumI; rw [e]; rfl
  refine ⟨?_, by rw [e, e2], by rw [e2]; exact h3⟩
  unfold digest_Sum digest_sum_string
  rw [show digest_sum_string_L1 w (w.size : Int) big 1 0 = some s from h1, Option.bind_some, e2]
theorem ccheck {h : Hsh} (hk : HshOK h) : cuckoo_Check h = some 0 := by
  rcases check_ok h with h1 | h1
  · exact h1.1
  · exact absurd hk h1.2
theorem kproper_eq (w : ByteArray) : keyword_proper w = some (decide (KeyP w)) := by
  rw [show keyword_proper w = ref20_Key w from rfl, key_eq]
theorem khomes_ok {h : Hsh} (hk : HshOK h) {w : ByteArray} (hw : w.size ≤ 100000) : keyword_homes h w = some (homeL h (sumI w)) := by
  unfold keyword_homes
  obtain ⟨h1, h2, h3⟩ := sum_ok hw
  rw [h1, Option.bind_some, homes_ok' hk h3, Option.bind_some]
theorem r20homes_ok {h : Hsh} (hk : HshOK h) {w : ByteArray} (hw : KeyP w) : ref20_Homes h w = some (homeL h (sumI w), 0) := by
  unfold ref20_Homes
  obtain ⟨h1, h2, h3⟩ := sum_ok (w := w) (by have := hw.2; omega)
  rw [rcheck, ccheck hk, Option.bind_some, if_neg (by decide), key_eq, Option.bind_some, if_neg (nb_t hw), h2, Option.bind_some, rhomes_ok hk h3]
  rfl
abbrev Ent := ByteArray × Int
def EntOK (e : Ent) : Prop := KeyP e.1 ∧ 0 ≤ e.2 ∧ e.2 < 2147483647
def AscE (l : List Ent) : Prop := l.Pairwise fun a b => sLt a.1 b.1
instance (e : Ent) : Decidable (EntOK e) := by unfold EntOK KeyP; infer_instance
theorem rvalid_eq (e : Ent) : ref20_valid e = some (decide (EntOK e)) := by
  unfold ref20_valid
  rw [key_eq, Option.bind_some]
  exact congrArg some (decide_eq_decide.2 (by unfold EntOK; rw [decide_eq_true_eq]; exact ⟨fun h => ⟨h.1.1, h.1.2, h.2⟩, fun h => ⟨⟨h.1, h.2.1⟩, h.2.2⟩⟩))
abbrev BR := ((Int × (List (Int × Int))) × Int × (List (List (ByteArray × Int)))) × Int
theorem twice_L (kx : ByteArray → Int → Int → Int → Int → Option BR) (w : ByteArray) (a b c d : Int) : ∀ xs : List Ent, (∀ x ∈ xs, x.1 ≠ w) → ref20_Build_L10 kx w a b c d xs = kx w a b c d
  | [], _ => rfl
  | x :: xs, h => by
    show ref20_Build_B10 kx w a b c d (ref20_Build_L10 kx w a b c d xs) x = _
    unfold ref20_Build_B10
    rw [if_neg (h x List.mem_cons_self)]
    exact twice_L kx w a b c d xs fun y hy => h y (List.mem_cons_of_mem _ hy)
theorem ins_L (rec : List Ent → Int → Int → Int → Option BR) (s : List Ent) (e : Ent) (a b c : Int) (hs : s.length ≤ 1000) (h : ∀ x ∈ s, sLt x.1 e.1) : ref20_Build_J9 rec s e.1 e.2 a b c = rec (s ++ [e]) a b c := by
  unfold ref20_Build_J9
  rw [show big = (big - 1) + 1 from by simp only [big], ref20_Build_L8]
  unfold ref20_Build_B8
  have hg : (if 0 < (s.length : Int) then ((lidx s (w64 ((s.length : Int) - 1))).bind fun u => some (decide (sLt e.1 u.1))) else some false) = some false := by
    by_cases c : 0 < (s.length : Int)
    · rw [if_pos c, w64_id (by omega) (by omega), lidx_ok (ByteArray.empty, 0) (by omega) (by omega), Option.bind_some]
      refine congrArg some (decide_eq_false fun h2 => sLt_asymm h2 (h _ ?_))
      rw [List.getD_eq_getElem?_getD, List.getElem?_eq_getElem (by omega)]
      exact List.getElem_mem _
    · rw [if_neg c]
  rw [hg, Option.bind_some, if_neg (by decide)]
  unfold ref20_Build_J7
  rw [lapp_ok (by first | omega | (simp; done) | (simp; omega)), Option.bind_some, w64_id (by omega) (by omega)]
  unfold psub
  rw [if_pos (by first | omega | (simp; done) | (simp; omega)), Option.bind_some, if_pos (by first | omega | (simp; done) | (simp; omega)), Option.bind_some]
  dsimp only
  rw [lsub_ok (by omega) (by first | omega | (simp; done) | (simp; omega)) (by first | omega | (simp; done) | (simp; omega)), Option.bind_some, lsub_ok (by omega) (by first | omega | (simp; done) | (simp; omega)) (by first | omega | (simp; done) | (simp; omega)), Option.bind_some]
  have e0 : ((((s ++ [(ByteArray.empty, (0 : Int))]).drop (0 + ((s.length : Int) + 1)).toNat).take (0 + (((s ++ [(ByteArray.empty, (0 : Int))]).length : Int) - 0) - (0 + ((s.length : Int) + 1))).toNat)).length = 0 := by first | omega | (simp; done) | (simp; omega)
  rw [e0]
  have e1 : ∀ src : List Ent, lcpy (s ++ [(ByteArray.empty, (0 : Int))]) (0 + ((s.length : Int) + 1)) 0 src = s ++ [(ByteArray.empty, 0)] := fun src => by
    unfold lcpy
    rw [List.take_of_length_le (by first | omega | (simp; done) | (simp; omega)), List.drop_of_length_le (by first | omega | (simp; done) | (simp; omega))]
    simp
  rw [e1, lidx_ok (ByteArray.empty, 0) (by omega) (by first | omega | (simp; done) | (simp; omega)), Option.bind_some, lupd_ok (by omega) (by first | omega | (simp; done) | (simp; omega)), Option.bind_some, Int.toNat_natCast, List.set_append_right _ _ (by omega), Nat.sub_self]
  rfl
theorem sort_L (kx : List Ent → Int → Int → Int → Option BR) (a b c : Int) (l : List Ent) (hl : l.length ≤ 1000) (hv : ∀ e ∈ l, EntOK e) (ha : AscE l) : ∀ (xs s : List Ent), s ++ xs = l →
    ref20_Build_L11 kx l xs s.length s a b c = kx l a b c
  | [], s, h => by rw [List.append_nil] at h; subst h; rfl
  | e :: xs, s, h => by
    show ref20_Build_B11 kx l (ref20_Build_L11 kx l xs (s.length + 1)) e s.length s a b c = _
    unfold ref20_Build_B11
    have hm : e ∈ l := by rw [← h]; simp
    rw [rvalid_eq, Option.bind_some, if_neg (nb_t (hv e hm)), lsub_ok (by omega) (by omega) (by rw [← h]; first | omega | (simp; done) | (simp; omega)), Option.bind_some, show ((l.drop (0 : Int).toNat).take (((s.length : Nat) : Int) - 0).toNat) = s from by rw [← h]; simp]
    have hlt : ∀ x ∈ s, sLt x.1 e.1 := by
      unfold AscE at ha
      rw [← h, List.pairwise_append] at ha
      exact fun x hx => ha.2.2 x hx e List.mem_cons_self
    have hsl : s.length ≤ 1000 := by have := congrArg List.length h; simp at this; omega
    rw [twice_L _ _ _ _ _ _ s (fun x hx he => sLt_irr x.1 (by have := hlt x hx; rw [← he] at this; exact this)), ins_L _ s e a b c hsl hlt]
    have := sort_L kx a b c l hl hv ha xs (s ++ [e]) (by rw [List.append_assoc]; exact h)
    rw [List.length_append] at this
    exact this
theorem homes_L5 {h : Hsh} (hk : HshOK h) (kx : List (List Int) → Int → Int → Int → Option BR) (a b : Int) : ∀ (xs : List Ent) (acc : List (List Int)), acc.length + xs.length ≤ 1000 → (∀ e ∈ xs, EntOK e) →
    ref20_Build_L5 kx a b h.1 h.2 xs acc = kx (acc ++ xs.map fun e => homeL h (sumI e.1)) a b h.1
  | [], acc, _, _ => by simp [ref20_Build_L5]
  | x :: xs, acc, hl, hv => by
    show ref20_Build_B5 kx a b h.1 h.2 (ref20_Build_L5 kx a b h.1 h.2 xs) x acc = _
    unfold ref20_Build_B5
    simp only [List.length_cons] at hl
    rw [show ((h.1, h.2) : Hsh) = h from rfl, r20homes_ok hk (hv x List.mem_cons_self).1, Option.bind_some, lapp_ok (by simp; omega), Option.bind_some, homes_L5 hk kx a b xs _ (by simp; omega) (fun e he => hv e (List.mem_cons_of_mem _ he))]
    simp
def Held (B : Int) (l : List Ent) (bs : List Int) (n : Nat) (E : List (List Ent)) : Prop :=
  (E.length : Int) = B ∧ ∀ b : Nat, (b : Int) < B → (∃ k, k < n ∧ bs.getD k 0 = b ∧ E.getD b [] = [l.getD k (ByteArray.empty, 0)]) ∨ ((∀ k, k < n → bs.getD k 0 ≠ b) ∧ E.getD b [] = [])
theorem place_L {h : Hsh} (hk : HshOK h) (kx : Int → Int → List (List Ent) → Int → Int → Int → Option BR) (l : List Ent) (a b c d e : Int) {bs : List Int} (hb : bs.length = l.length) (hl : l.length ≤ 1000) (hr : ∀ x ∈ bs, 0 ≤ x ∧ x < h.1) (hn : bs.Nodup) : ∀ (xs : List Int) (n : Nat) (E : List (List Ent)), bs.drop n = xs → n ≤ bs.length → Held h.1 l bs n E →
    ∃ E', ref20_Build_L2 kx l a b c d e xs n E = kx a b E' c d e ∧ Held h.1 l bs bs.length E'
  | [], n, E, hd, hle, hE => by
    have : bs.length ≤ n := List.drop_eq_nil_iff.1 hd
    obtain rfl : n = bs.length := by omega
    exact ⟨E, rfl, hE⟩
  | x :: xs, n, E, hd, hle, hE => by
    have hlt : n < bs.length := by
      rcases Nat.lt_or_ge n bs.length with h | h
      · exact h
      · rw [List.drop_eq_nil_of_le h] at hd; cases hd
    have hd' : bs.drop (n + 1) = xs := by rw [← List.drop_drop, hd]; rfl
    have hx : bs.getD n 0 = x := by
      rw [List.drop_eq_getElem_cons hlt] at hd
      rw [List.getD_eq_getElem?_getD, List.getElem?_eq_getElem hlt]
      exact (List.cons.inj hd).1
    have hxm : x ∈ bs := List.mem_of_mem_drop (i := n) (by rw [hd]; exact List.mem_cons_self)
    obtain ⟨x0, x1⟩ := hr x hxm
    have hu : ∀ k, k < n → bs.getD k 0 ≠ x := fun k hk2 he => by
      rw [← hx, List.getD_eq_getElem?_getD, List.getD_eq_getElem?_getD, List.getElem?_eq_getElem (by omega), List.getElem?_eq_getElem hlt] at he
      exact List.pairwise_iff_getElem.1 hn k n (by omega) hlt hk2 he
    have hE0 : E.getD x.toNat [] = [] := by
      rcases hE.2 x.toNat (by omega) with ⟨k, h1, h2, h3⟩ | ⟨h1, h2⟩
      · exact absurd (by omega) (hu k h1)
      · exact h2
    show ∃ E', ref20_Build_B2 kx l a b c d e (ref20_Build_L2 kx l a b c d e xs (n + 1)) x n E = _ ∧ _
    unfold ref20_Build_B2
    have hEl := hE.1
    rw [lidx_nat (ByteArray.empty, 0) (by omega), Option.bind_some, lidx_ok [] x0 (by omega), Option.bind_some, hE0, lapp_ok (by simp), Option.bind_some, Option.bind_some, lupd_ok x0 (by omega), Option.bind_some, List.nil_append]
    refine place_L hk kx l a b c d e hb hl hr hn xs (n + 1) _ hd' (by omega) ⟨by rw [List.length_set]; exact hEl, fun q hq => ?_⟩
    rw [List.getD_eq_getElem?_getD, List.getElem?_set]
    by_cases he : x.toNat = q
    · rw [if_pos he, if_pos (by omega)]
      exact .inl ⟨n, by omega, by omega, rfl⟩
    · rw [if_neg he, ← List.getD_eq_getElem?_getD]
      rcases hE.2 q hq with ⟨k, h1, h2, h3⟩ | ⟨h1, h2⟩
      · exact .inl ⟨k, by omega, h2, h3⟩
      · refine .inr ⟨fun k hk2 => ?_, h2⟩
        by_cases hkn : k = n
        · subst hkn; omega
        · exact h1 k (by omega)
theorem greedy_facts {B : Int} {homes : List (List Int)} : ∀ (hs : List (List Int)) (i : Int) (fixed : List Bool) (bs : List Int), (∀ l ∈ hs, ∀ b ∈ l, 0 ≤ b ∧ b < B) → (fixed.length : Int) = B → GreedyL homes i hs fixed bs →
    bs.length = hs.length ∧ (∀ k, k < bs.length → bs.getD k 0 ∈ hs.getD k []) ∧ bs.Nodup ∧ ∀ b ∈ bs, (0 ≤ b ∧ b < B) ∧ at' false fixed b = false
  | [], i, fixed, bs, _, _, hg => by cases hg; exact ⟨rfl, by simp, by simp, by simp⟩
  | l :: hs, i, fixed, bs, hr, hf, ⟨pre, b, post, bs', e0, e1, f1, n1, p1, g1⟩ => by
    subst e0
    obtain ⟨b0, b1⟩ := hr l List.mem_cons_self b (by rw [e1]; simp)
    obtain ⟨h1, h2, h3, h4⟩ := greedy_facts hs (i + 1) (fixed.set b.toNat true) bs' (fun x hx => hr x (List.mem_cons_of_mem _ hx)) (by rw [List.length_set]; exact hf) g1
    refine ⟨by simp [h1], fun k hk => ?_, List.nodup_cons.2 ⟨fun hm => ?_, h3⟩, fun c hc => ?_⟩
    · cases k with
      | zero => rw [List.getD_cons_zero, List.getD_cons_zero, e1]; simp
      | succ k => rw [List.getD_cons_succ, List.getD_cons_succ]; exact h2 k (by simpa using hk)
    · have := (h4 b hm).2
      rw [at_set false b0 (by omega) b0, if_pos rfl] at this
      cases this
    · rcases List.mem_cons.1 hc with rfl | hc
      · exact ⟨⟨b0, b1⟩, f1⟩
      · obtain ⟨⟨c0, c1⟩, h5⟩ := h4 c hc
        refine ⟨⟨c0, c1⟩, ?_⟩
        rw [at_set false b0 (by omega) c0] at h5
        split at h5
        · cases h5
        · exact h5
theorem first35 {B : Int} {H : List (List Int)} (hh : HomesOK B H) (hB : 1 ≤ B ∧ B ≤ 64) (hn : (H.length : Int) ≤ 1000) :
    (ref19_First H B 1 = some ([], false) ∧ H ≠ []) ∨ ∃ bs, ref19_First H B 1 = some (bs, true) ∧ bs.length = H.length ∧ (∀ k, k < bs.length → bs.getD k 0 ∈ H.getD k []) ∧ bs.Nodup ∧ ∀ b ∈ bs, 0 ≤ b ∧ b < B := by
  unfold ref19_First
  rw [lmk_ok (by omega) (by omega), Option.bind_some]
  have hu : UsedOf B (List.replicate B.toNat false) (List.replicate B.toNat 0) := ⟨by simp; omega, by simp; omega, fun b b0 b1 => by
    rw [at_rep _ _ b0 (by omega), at_rep _ _ b0 (by omega)]; rfl⟩
  obtain ⟨r, r1, r2⟩ := poss_ok hh (by omega) hu
  rw [r1, Option.bind_some]
  cases r with
  | false =>
    refine .inl ⟨rfl, fun hnil => ?_⟩
    subst hnil
    exact absurd (r2.2 ⟨fun _ => 0, fun j h0 h1 => by simp at h1; omega, fun j k h0 h1 h2 h3 => by simp at h1; omega⟩) (by simp)
  | true =>
    right
    rw [if_neg (by decide)]
    have hp : Placeable H (List.replicate B.toNat false) ((0 : Nat) : Int) := r2.1 rfl
    obtain ⟨bs, b1, b2⟩ := rfirst_L2 (B := B) (homes := H) hh (by omega) (by omega) H 0 (List.replicate B.toNat false) (List.replicate B.toNat 0) [] List.drop_zero hu List.length_nil (Nat.zero_le _) hp
    obtain ⟨g1, g2, g3, g4⟩ := greedy_facts _ _ _ bs hh (by simp; omega) b2
    exact ⟨bs, b1, g1, g2, g3, fun b hb => (g4 b hb).1⟩
theorem build_ok {h : Hsh} (hk : HshOK h) {l : List Ent} (hl : l.length ≤ 1000) (hl2 : l.length ≤ 256) (hv : ∀ e ∈ l, EntOK e) (ha : AscE l) :
    (∃ r, ref20_Build h 1 l = some (r, 15) ∧ l ≠ []) ∨ ∃ E bs, ref20_Build h 1 l = some ((h, 1, E), 0) ∧ bs.length = l.length ∧ bs.Nodup ∧ (∀ k, k < bs.length → bs.getD k 0 ∈ homeL h (sumI (l.getD k (ByteArray.empty, 0)).1)) ∧ Held h.1 l bs bs.length E := by
  unfold ref20_Build
  rw [rcheck, ccheck hk, Option.bind_some, if_neg (by decide), if_neg (by omega), if_neg (by omega)]
  rw [show (ref20_Build_L11 (ref20_Build_J6 1 h.2) l l 0 ([] : List Ent) 0 0 h.1) = ref20_Build_J6 1 h.2 l 0 0 h.1 from sort_L _ 0 0 h.1 l hl hv ha l [] rfl]
  unfold ref20_Build_J6
  rw [homes_L5 hk _ 0 0 l [] (by simp; omega) hv, List.nil_append]
  unfold ref20_Build_J4
  obtain ⟨B1, B2, P1, P2, P3⟩ := id hk
  have hh : HomesOK h.1 (l.map fun e => homeL h (sumI e.1)) := fun x hx b hb => by
    obtain ⟨e, he, rfl⟩ := List.mem_map.1 hx
    exact homeL_range hk _ b hb
  rcases first35 hh ⟨B1, B2⟩ (by simp; omega) with ⟨r1, r2⟩ | ⟨bs, r1, g1, g2, g3, g4⟩
  · rw [r1, Option.bind_some]
    exact .inl ⟨_, rfl, fun hnil => r2 (by rw [hnil]; rfl)⟩
  · right
    rw [r1, Option.bind_some]
    dsimp only
    rw [if_neg (by decide), lapp_ok (by simp; omega), Option.bind_some, lmk_ok (by omega) (by omega), Option.bind_some, List.nil_append]
    rw [List.length_map] at g1
    unfold ref20_Build_J3
    obtain ⟨E, e1, e2⟩ := place_L hk (ref20_Build_J1 h.2) l h.1 1 0 0 h.1 (bs := bs) g1 hl g4 g3 bs 0 (List.replicate h.1.toNat []) rfl (by omega) ⟨by simp; omega, fun b hb => .inr ⟨fun k hk => by omega, by rw [List.getD_eq_getElem?_getD, List.getElem?_replicate, if_pos (by omega)]; rfl⟩⟩
    rw [e1]
    refine ⟨E, bs, rfl, g1, g3, fun k hk2 => ?_, e2⟩
    have := g2 k hk2
    rw [List.getD_eq_getElem?_getD, List.getElem?_map, List.getElem?_eq_getElem (show k < l.length by omega)] at this
    rw [List.getD_eq_getElem?_getD (l := l), List.getElem?_eq_getElem (show k < l.length by omega)]
    exact this
end Go.Proofs.Ytmfppphlhgneeaa
end

section
namespace Go.Proofs.Ytmfppphlhgneeaa
set_option linter.unusedVariables false
set_option maxRecDepth 100000
def K6 : List ByteArray := [⟨#[97, 110, 116]⟩, ⟨#[98, 101, 101]⟩, ⟨#[99, 97, 116]⟩, ⟨#[100, 111, 103]⟩, ⟨#[101, 101, 108]⟩, ⟨#[102, 111, 120]⟩]
theorem k6_asc1 : fence_ascend K6 = some true := by kernel_rfl
theorem k6_asc : AscP K6 := by
  have h := k6_asc1
  rw [ascend_eq (by decide)] at h
  exact of_decide_eq_true (Option.some.inj h)
theorem k6_len : K6.length = 6 := rfl
def GoodE (n : Nat) (e : Ent) : Prop := ∃ i r : Nat, i < n ∧ i < 6 ∧ r < 90 ∧ e = (gd K6 i, (i : Int) * 100 + r)
theorem GoodE.ok {n : Nat} {e : Ent} (h : GoodE n e) : EntOK e := by
  obtain ⟨i, r, h1, h2, h3, rfl⟩ := h
  exact ⟨(k6_asc i (by rw [k6_len]; omega)).1, by dsimp only; omega, by dsimp only; omega⟩
structure DirP (x : Hsh × Int × List (List Ent)) (l : List Ent) : Prop where
  hk : HshOK x.1
  one : x.2.1 = 1
  few : l.length ≤ 3
  good : ∀ e ∈ l, GoodE 6 e
  asc : AscE l
  held : ∃ bs : List Int, bs.length = l.length ∧ bs.Nodup ∧ (∀ k, k < bs.length → bs.getD k 0 ∈ homeL x.1 (sumI (l.getD k (ByteArray.empty, 0)).1)) ∧ Held x.1.1 l bs bs.length x.2.2
theorem dir_J2 {l : List Ent} (hl : l.length ≤ 3) (hg : ∀ e ∈ l, GoodE 6 e) (ha : AscE l) (a b : Int) {d : List Int × Int} (hd : DiceOK d) :
    ∃ x l' e, law35_directory_J2 l a b d.1 d.2 = some (x, l', e) ∧ DirP x l' ∧ DiceOK e := by
  unfold law35_directory_J2
  obtain ⟨v0, e0, h0, a0, b0, c0⟩ := dpick (d := (d.1, d.2)) hd (n := 4) (by omega)
  rw [h0, Option.bind_some]
  obtain ⟨v1, e1, h1, a1, b1, c1⟩ := dpick c0 (n := 9) (by omega)
  rw [h1, Option.bind_some]
  obtain ⟨v2, e2, h2, a2, b2, c2⟩ := dpick c1 (n := 9) (by omega)
  rw [h2, Option.bind_some]
  obtain ⟨v3, e3, h3, a3, b3, c3⟩ := dpick c2 (n := 9) (by omega)
  rw [h3, Option.bind_some]
  obtain ⟨v4, e4, h4, a4, b4, c4⟩ := dpick c3 (n := 9) (by omega)
  rw [h4, Option.bind_some]
  obtain ⟨v5, e5, h5, a5, b5, c5⟩ := dpick c4 (n := 9) (by omega)
  rw [h5, Option.bind_some]
  dsimp only
  rw [w64_id (x := 5 + v0) (by omega) (by omega), w64_id (x := 1 + v1) (by omega) (by omega), w64_id (x := 11 + v3) (by omega) (by omega)]
  have hk : HshOK ((5 + v0), ([((1 + v1), v2), ((11 + v3), v4), (31, v5)] : List (Int × Int))) := by
    refine ⟨by dsimp only; omega, by dsimp only; omega, by simp, by simp, fun p hp => ?_⟩
    simp only [List.mem_cons, List.not_mem_nil, or_false] at hp
    unfold PairOK
    rcases hp with rfl | rfl | rfl <;> dsimp only <;> omega
  generalize ((5 + v0), ([((1 + v1), v2), ((11 + v3), v4), (31, v5)] : List (Int × Int))) = h at hk
  rcases build_ok hk (l := l) (by omega) (by omega) (fun e he => (hg e he).ok) ha with ⟨r, k1, k2⟩ | ⟨E, bs, k1, k2, k3, k4, k5⟩
  · rw [k1, Option.bind_some]
    dsimp only
    rw [if_pos (by decide)]
    rcases build_ok hk (l := []) (by simp) (by simp) (by simp) List.Pairwise.nil with ⟨r, k1, k2⟩ | ⟨E, bs, k1, k2, k3, k4, k5⟩
    · exact absurd rfl k2
    · rw [k1, Option.bind_some]
      exact ⟨(h, 1, E), [], e5, rfl, ⟨hk, rfl, by simp, by simp, List.Pairwise.nil, bs, k2, k3, k4, k5⟩, c5⟩
  · rw [k1, Option.bind_some]
    dsimp only
    rw [if_neg (by decide)]
    exact ⟨(h, 1, E), l, e5, rfl, ⟨hk, rfl, hl, hg, ha, bs, k2, k3, k4, k5⟩, c5⟩
theorem dir_L : ∀ (xs : List ByteArray) (i : Nat) (l : List Ent) (d : List Int × Int), K6.drop i = xs → i ≤ 6 → l.length ≤ 3 → (∀ e ∈ l, GoodE i e) → AscE l → DiceOK d →
    ∃ x l' e, law35_directory_L3 law35_directory_J2 xs i l d.1 d.2 = some (x, l', e) ∧ DirP x l' ∧ DiceOK e
  | [], i, l, d, hx, hi, hl, hg, ha, hd => dir_J2 hl (fun e he => by
      obtain ⟨j, r, h1, h2, h3, h4⟩ := hg e he
      exact ⟨j, r, by omega, h2, h3, h4⟩) ha 0 0 hd
  | w :: xs, i, l, d, hx, hi, hl, hg, ha, hd => by
    show ∃ x l' e, law35_directory_B3 law35_directory_J2 (law35_directory_L3 law35_directory_J2 xs (i + 1)) w i l d.1 d.2 = _ ∧ _
    obtain ⟨hi6, hw⟩ := drop_gd hx
    rw [k6_len] at hi6
    have hx' : K6.drop (i + 1) = xs := by rw [← List.drop_drop, hx]; rfl
    have hg' : ∀ e ∈ l, GoodE (i + 1) e := fun e he => by
      obtain ⟨j, r, h1, h2, h3, h4⟩ := hg e he
      exact ⟨j, r, by omega, h2, h3, h4⟩
    unfold law35_directory_B3
    obtain ⟨v0, e0, h0, a0, b0, c0⟩ := dpick (d := (d.1, d.2)) hd (n := 2) (by omega)
    rw [h0, Option.bind_some]
    dsimp only
    split
    · rename_i hc
      obtain ⟨v1, e1, h1, a1, b1, c1⟩ := dpick c0 (n := 90) (by omega)
      rw [h1, Option.bind_some, lapp_ok (by simp; omega), Option.bind_some, w64_id (x := (i : Int) * 100) (by omega) (by omega), w64_id (by omega) (by omega)]
      refine dir_L xs (i + 1) _ e1 hx' (by omega) (by simp; omega) (fun e he => ?_) ?_ c1
      · rcases List.mem_append.1 he with h | h
        · exact hg' e h
        · rw [List.mem_singleton.1 h]
          exact ⟨i, v1.toNat, by omega, hi6, by omega, by rw [hw, Int.toNat_of_nonneg (by omega)]⟩
      · refine List.pairwise_append.2 ⟨ha, List.pairwise_singleton _ _, fun a hma b hmb => ?_⟩
        rw [List.mem_singleton.1 hmb]
        obtain ⟨j, r, g1, g2, g3, rfl⟩ := hg a hma
        rw [hw]
        exact asc_lt k6_asc g1 (by rw [k6_len]; omega)
    · exact dir_L xs (i + 1) l e0 hx' (by omega) hl hg' ha c0
theorem dir_ok {d : List Int × Int} (hd : DiceOK d) : ∃ x l e, law35_directory d = some (x, l, e) ∧ DirP x l ∧ DiceOK e := by
  exact dir_L K6 0 [] d rfl (by omega) (by simp) (by simp) List.Pairwise.nil hd
end Go.Proofs.Ytmfppphlhgneeaa
end

section
namespace Go.Proofs.Ytmfppphlhgneeaa
set_option linter.unusedVariables false
set_option maxRecDepth 100000
def chk (c : List Ent) : Bool := match keyword_Encode 1 c with
  | some (t, e) => decide (e = 0) && decide (t.size = 37) && decide (keyword_Decode 1 t = some (c, 0))
  | none => false
theorem chkN : chk [] = true := by kernel_rfl
theorem chk0 : ((List.range 90).all fun r => chk [(gd K6 0, ((0 : Nat) : Int) * 100 + (r : Int))]) = true := by kernel_rfl
theorem chk1 : ((List.range 90).all fun r => chk [(gd K6 1, ((1 : Nat) : Int) * 100 + (r : Int))]) = true := by kernel_rfl
end Go.Proofs.Ytmfppphlhgneeaa
end

section
namespace Go.Proofs.Ytmfppphlhgneeaa
set_option linter.unusedVariables false
set_option maxRecDepth 100000
theorem chk2 : ((List.range 90).all fun r => chk [(gd K6 2, ((2 : Nat) : Int) * 100 + (r : Int))]) = true := by kernel_rfl
theorem chk3 : ((List.range 90).all fun r => chk [(gd K6 3, ((3 : Nat) : Int) * 100 + (r : Int))]) = true := by kernel_rfl
end Go.Proofs.Ytmfppphlhgneeaa
end

section
namespace Go.Proofs.Ytmfppphlhgneeaa
set_option linter.unusedVariables false
set_option maxRecDepth 100000
theorem chk4 : ((List.range 90).all fun r => chk [(gd K6 4, ((4 : Nat) : Int) * 100 + (r : Int))]) = true := by kernel_rfl
theorem chk5 : ((List.range 90).all fun r => chk [(gd K6 5, ((5 : Nat) : Int) * 100 + (r : Int))]) = true := by kernel_rfl
end Go.Proofs.Ytmfppphlhgneeaa
end

section
namespace Go.Proofs.Ytmfppphlhgneeaa
set_option linter.unusedVariables false
set_option maxRecDepth 100000
theorem chkE {e : Ent} (h : GoodE 6 e) : chk [e] = true := by
  obtain ⟨i, r, h1, h2, h3, rfl⟩ := h
  have hr := List.mem_range.2 h3
  rcases (by omega : i = 0 ∨ i = 1 ∨ i = 2 ∨ i = 3 ∨ i = 4 ∨ i = 5) with rfl | rfl | rfl | rfl | rfl | rfl
  · exact List.all_eq_true.1 chk0 r hr
  · exact List.all_eq_true.1 chk1 r hr
  · exact List.all_eq_true.1 chk2 r hr
  · exact List.all_eq_true.1 chk3 r hr
  · exact List.all_eq_true.1 chk4 r hr
  · exact List.all_eq_true.1 chk5 r hr
theorem ixf_L (f : Int → Option Bool) : ∀ (l : List Int) (i : Nat), (∀ x ∈ l, f x = some false) → slices_IndexFunc_Lintint_L1 f l i = some (-1)
  | [], i, _ => rfl
  | x :: l, i, h => by
    rw [slices_IndexFunc_Lintint_L1]
    unfold slices_IndexFunc_Lintint_B1
    rw [h x List.mem_cons_self, Option.bind_some, if_neg (by decide)]
    exact ixf_L f l (i + 1) fun y hy => h y (List.mem_cons_of_mem _ hy)
def rowI (c : List Ent) : List Int := ((keyword_Encode 1 c).bind fun t => tobs t.1).getD []
theorem ofB_toB (s : ByteArray) : ofB (toB s) = s := by
  obtain ⟨⟨d⟩⟩ := s
  unfold ofB toB
  have e : (List.map (fun n : Int => UInt8.ofNat n.toNat) (List.map (fun c : UInt8 => ((c.toNat : Nat) : Int)) d)) = d := by
    rw [List.map_map]
    conv => rhs; rw [← List.map_id d]
    exact List.map_congr_left fun c _ => by
      show UInt8.ofNat ((c.toNat : Int).toNat) = c
      rw [Int.toNat_natCast, UInt8.ofNat_toNat]
  show (⟨(List.map (fun n : Int => UInt8.ofNat n.toNat) (List.map (fun c : UInt8 => ((c.toNat : Nat) : Int)) d)).toArray⟩ : ByteArray) = _
  rw [e]
theorem toB_mem {s : ByteArray} {x : Int} (h : x ∈ toB s) : 0 ≤ x ∧ x < 256 := by
  unfold toB at h
  obtain ⟨c, _, rfl⟩ := List.mem_map.1 h
  have := c.toNat_lt
  omega
theorem toB_len (s : ByteArray) : (toB s).length = s.size := by unfold toB; rw [List.length_map]; rfl
theorem bytes_L (a : List Int) (ha : a.length ≤ 1000) (hr : ∀ x ∈ a, 0 ≤ x ∧ x < 256) : ∀ (xs : List Int) (i : Nat), a.drop i = xs → i ≤ a.length →
    lookup_bytesOf_L2 lookup_bytesOf_J1 xs i (a.take i ++ List.replicate (a.length - i) 0) = some (ofB a, true)
  | [], i, h, hi => by
    have : a.length ≤ i := List.drop_eq_nil_iff.1 h
    rw [lookup_bytesOf_L2]
    unfold lookup_bytesOf_J1
    rw [List.take_of_length_le this, Nat.sub_eq_zero_of_le this]
    simp
  | x :: xs, i, h, hi => by
    have hlt : i < a.length := by
      rcases Nat.lt_or_ge i a.length with h' | h'
      · exact h'
      · rw [List.drop_eq_nil_of_le h'] at h; cases h
    rw [lookup_bytesOf_L2]
    unfold lookup_bytesOf_B2
    have hx := hr x (List.mem_of_mem_drop (i := i) (by rw [h]; exact List.mem_cons_self))
    rw [lidx_nat 0 (by simp; omega), Option.bind_some, lupd_ok (by omega) (by simp; omega), Option.bind_some, wu8_id hx.1 (by omega), Int.toNat_natCast]
    have e : (a.take i ++ List.replicate (a.length - i) 0).set i x = a.take (i + 1) ++ List.replicate (a.length - (i + 1)) 0 := by
      rw [List.set_append_right _ _ (by simp; omega), show a.length - i = (a.length - (i + 1)) + 1 by omega, List.replicate_succ]
      have e1 : i - (a.take i).length = 0 := by simp; omega
      rw [e1, List.set_cons_zero, List.take_succ_eq_append_getElem hlt, List.append_assoc]
      rw [List.drop_eq_getElem_cons hlt] at h
      rw [(List.cons.inj h).1]; rfl
    rw [e]
    exact bytes_L a ha hr xs (i + 1) (by rw [← List.drop_drop, h]; rfl) hlt
theorem chk_facts {c : List Ent} (h : chk c = true) : ∃ t, keyword_Encode 1 c = some (t, 0) ∧ tobs t = some (rowI c) ∧ (rowI c).length = 37 ∧ (∀ x ∈ rowI c, 0 ≤ x ∧ x < 256) ∧ lookup_bytesOf (rowI c) = some (t, true) ∧ keyword_Decode 1 t = some (c, 0) := by
  unfold chk at h
  cases h1 : keyword_Encode 1 c with
  | none => rw [h1] at h; cases h
  | some p =>
    obtain ⟨t, e⟩ := p
    rw [h1] at h
    simp only [Bool.and_eq_true, decide_eq_true_eq] at h
    obtain ⟨⟨rfl, h3⟩, h6⟩ := h
    have h2 : tobs t = some (toB t) := by unfold tobs; rw [if_pos (by omega)]
    have e : rowI c = toB t := by unfold rowI; rw [h1, Option.bind_some, h2]; rfl
    rw [e]
    have hl := toB_len t
    refine ⟨t, rfl, h2, by omega, fun x hx => toB_mem hx, ?_, h6⟩
    unfold lookup_bytesOf slices_ContainsFunc_Lintint slices_IndexFunc_Lintint
    rw [ixf_L _ _ 0 (fun x hx => by
      have := toB_mem hx
      unfold lookup_bytesOf_f1
      rw [decide_eq_false (by omega)]), Option.bind_some, Option.bind_some, if_neg (by decide), lmk_ok (by omega) (by omega), Option.bind_some]
    have := bytes_L (toB t) (by omega) (fun x hx => toB_mem hx) (toB t) 0 rfl (by omega)
    rw [ofB_toB] at this
    exact this
structure BkP (h : Hsh) (l : List Ent) (E : List (List Ent)) : Prop where
  len : (E.length : Int) = h.1
  f2 : ∀ b, b < E.length → E.getD b [] = [] ∨ ∃ e ∈ l, E.getD b [] = [e] ∧ (b : Int) ∈ homeL h (sumI e.1)
  f3 : ∀ b b' e e', b < E.length → b' < E.length → E.getD b [] = [e] → E.getD b' [] = [e'] → e.1 = e'.1 → b = b'
  f4 : ∀ e ∈ l, ∃ b, b < E.length ∧ E.getD b [] = [e]
  f5 : ∀ e ∈ l, ∀ e' ∈ l, e.1 = e'.1 → e = e'
theorem asc_inj {l : List Ent} (ha : AscE l) {i j : Nat} (hi : i < l.length) (hj : j < l.length) (h : (l.getD i (ByteArray.empty, 0)).1 = (l.getD j (ByteArray.empty, 0)).1) : i = j := by
  rw [List.getD_eq_getElem?_getD, List.getD_eq_getElem?_getD, List.getElem?_eq_getElem hi, List.getElem?_eq_getElem hj] at h
  have h' : (l[i]).1 = (l[j]).1 := h
  rcases Nat.lt_trichotomy i j with c | c | c
  · have := List.pairwise_iff_getElem.1 ha i j hi hj c
    rw [h'] at this
    exact absurd this (sLt_irr _)
  · exact c
  · have := List.pairwise_iff_getElem.1 ha j i hj hi c
    rw [h'] at this
    exact absurd this (sLt_irr _)
theorem bkp {x : Hsh × Int × List (List Ent)} {l : List Ent} (h : DirP x l) : BkP x.1 l x.2.2 := by
  obtain ⟨bs, b1, b2, b3, b4, b5⟩ := h.held
  have hmem : ∀ k, k < l.length → l.getD k (ByteArray.empty, 0) ∈ l := fun k hk => by
    rw [List.getD_eq_getElem?_getD, List.getElem?_eq_getElem hk]; exact List.getElem_mem _
  have hk := h.hk
  refine ⟨b4, fun b hb => ?_, fun b b' e e' hb hb' he he' hee => ?_, fun e he => ?_, fun e he e' he' hee => ?_⟩
  · rcases b5 b (by omega) with ⟨k, k1, k2, k3⟩ | ⟨k1, k2⟩
    · exact .inr ⟨_, hmem k (by omega), k3, by rw [← k2]; exact b3 k k1⟩
    · exact .inl k2
  · rcases b5 b (by omega) with ⟨k, k1, k2, k3⟩ | ⟨k1, k2⟩
    · rcases b5 b' (by omega) with ⟨q, q1, q2, q3⟩ | ⟨q1, q2⟩
      · rw [k3] at he
        rw [q3] at he'
        have e1 := (List.cons.inj he).1
        have e2 := (List.cons.inj he').1
        have := asc_inj h.asc (i := k) (j := q) (by omega) (by omega) (by rw [e1, e2]; exact hee)
        subst this
        omega
      · rw [q2] at he'; cases he'
    · rw [k2] at he; cases he
  · obtain ⟨k, hk1, rfl⟩ := List.mem_iff_getElem.1 he
    have hb := homeL_range hk _ _ (b3 k (by omega))
    refine ⟨(bs.getD k 0).toNat, by omega, ?_⟩
    rcases b5 (bs.getD k 0).toNat (by omega) with ⟨q, q1, q2, q3⟩ | ⟨q1, q2⟩
    · have e : q = k := by
        rw [Int.toNat_of_nonneg hb.1, List.getD_eq_getElem?_getD, List.getD_eq_getElem?_getD, List.getElem?_eq_getElem q1, List.getElem?_eq_getElem (show k < bs.length by omega)] at q2
        have q2' : bs[q] = bs[k] := q2
        rcases Nat.lt_trichotomy q k with c | c | c
        · exact absurd q2' (List.pairwise_iff_getElem.1 b2 q k _ _ c)
        · exact c
        · exact absurd q2'.symm (List.pairwise_iff_getElem.1 b2 k q _ _ c)
      subst e
      rw [q3, List.getD_eq_getElem?_getD, List.getElem?_eq_getElem hk1]; rfl
    · exact absurd (by omega) (q1 k (by omega))
  · obtain ⟨k, hk1, rfl⟩ := List.mem_iff_getElem.1 he
    obtain ⟨q, hq1, rfl⟩ := List.mem_iff_getElem.1 he'
    have := asc_inj h.asc (i := k) (j := q) hk1 hq1 (by
      rw [List.getD_eq_getElem?_getD, List.getD_eq_getElem?_getD, List.getElem?_eq_getElem hk1, List.getElem?_eq_getElem hq1]; exact hee)
    subst this
    rfl
theorem mget_mput {β : Type} (k : ByteArray) (v : β) (k' : ByteArray) : ∀ l : List (ByteArray × β), mget (mput l k v) k' = if k = k' then some v else mget l k'
  | [] => by simp [mput, mget]
  | (a, b) :: l => by
    have ih := mget_mput k v k' l
    by_cases h1 : a = k
    · subst h1
      simp only [mput, if_pos, mget]
      by_cases h2 : a = k'
      · simp [h2]
      · simp [h2]
    · simp only [mput, if_neg h1, mget]
      by_cases h2 : a = k'
      · subst h2
        rw [if_pos rfl, if_pos rfl, if_neg (fun h => h1 h.symm)]
      · rw [if_neg h2, if_neg h2, ih]
theorem kvalid_eq (e : Ent) : keyword_valid e = some (decide (EntOK e)) := by
  rw [show keyword_valid e = ref20_valid e from rfl, rvalid_eq]
theorem kasc_nil : keyword_ascends [] = some true := rfl
theorem kasc_one {e : Ent} (h : EntOK e) : keyword_ascends [e] = some true := by
  unfold keyword_ascends
  rw [keyword_ascends_L1]
  unfold keyword_ascends_B1
  rw [kvalid_eq, Option.bind_some, if_neg (nb_t h), if_neg (by omega), Option.bind_some, Option.bind_some, if_neg (by decide)]
  rfl
theorem kcheck_L {h : Hsh} (hk : HshOK h) {l : List Ent} {E : List (List Ent)} (hb : BkP h l E) (hv : ∀ e ∈ l, EntOK e) : ∀ (xs : List (List Ent)) (i : Nat) (v : List (ByteArray × Bool)), E.drop i = xs → (∀ k, (mget v k).getD false = true → ∃ b e, b < i ∧ b < E.length ∧ E.getD b [] = [e] ∧ e.1 = k) →
    keyword_Check_L2 h.2 xs i v h.1 1 = some 0
  | [], i, v, _, _ => rfl
  | c :: xs, i, v, hd, hs => by
    have hlt : i < E.length := by
      rcases Nat.lt_or_ge i E.length with h | h
      · exact h
      · rw [List.drop_eq_nil_of_le h] at hd; cases hd
    have hc : E.getD i [] = c := by
      rw [List.drop_eq_getElem_cons hlt] at hd
      rw [List.getD_eq_getElem?_getD, List.getElem?_eq_getElem hlt]
      exact (List.cons.inj hd).1
    have hd' : E.drop (i + 1) = xs := by rw [← List.drop_drop, hd]; rfl
    show keyword_Check_B2 h.2 (keyword_Check_L2 h.2 xs (i + 1)) c i v h.1 1 = _
    unfold keyword_Check_B2
    rcases hb.f2 i hlt with h1 | ⟨e, he, h1, h2⟩
    · rw [hc] at h1
      subst h1
      rw [if_neg (by simp), kasc_nil, Option.bind_some, Option.bind_some, if_neg (by decide)]
      exact kcheck_L hk hb hv xs (i + 1) v hd' fun k hk2 => by
        obtain ⟨b, e, g1, g2, g3, g4⟩ := hs k hk2
        exact ⟨b, e, by omega, g2, g3, g4⟩
    · have hc' := h1
      rw [hc] at h1
      subst h1
      rw [if_neg (by simp), kasc_one (hv e he), Option.bind_some, Option.bind_some, if_neg (by decide)]
      show keyword_Check_B1 _ _ _ _ _ _ _ _ = _
      unfold keyword_Check_B1
      rw [if_neg (fun hm => by
        obtain ⟨b, e', g1, g2, g3, g4⟩ := hs _ hm
        have := hb.f3 b i e' e g2 hlt g3 hc' g4
        omega), show ((h.1, h.2) : Hsh) = h from rfl, khomes_ok hk (by have := (hv e he).1.2; omega), Option.bind_some]
      obtain ⟨r, r1, r2⟩ := contains_ok (homeL h (sumI e.1)) (i : Int)
      rw [r1, Option.bind_some, r2.2 h2, Option.bind_some, if_neg (by decide)]
      refine kcheck_L hk hb hv xs (i + 1) _ hd' fun k hk2 => ?_
      rw [mget_mput] at hk2
      split at hk2
      · rename_i hek
        exact ⟨i, e, by omega, hlt, hc', hek⟩
      · obtain ⟨b, e', g1, g2, g3, g4⟩ := hs k hk2
        exact ⟨b, e', by omega, g2, g3, g4⟩
theorem kcheck_ok {x : Hsh × Int × List (List Ent)} {l : List Ent} (h : DirP x l) : keyword_Check x = some 0 := by
  unfold keyword_Check
  rw [ccheck h.hk, Option.bind_some, if_neg (by decide), h.one]
  rw [show keyword_slotted 1 = some true from rfl, Option.bind_some, Option.bind_some, if_neg (by
    have := (bkp h).len
    intro hc
    rcases hc with hc | hc
    · cases hc
    · exact hc this)]
  exact kcheck_L h.hk (bkp h) (fun e he => (h.good e he).ok) x.2.2 0 [] rfl (fun k hk => by simp [mget] at hk)
abbrev TR := (Int × Int × Int × (List (List Int))) × Int
theorem copy_L (kx : List Int → Int → Int → Int → Int → Int → Int → Option TR) (a b c d e f : Int) : ∀ (xs acc : List Int), (∀ x ∈ xs, 0 ≤ x ∧ x < 256) → acc.length + xs.length ≤ 1000 →
    lookup_Table_L3 kx a b c d e f xs acc = kx (acc ++ xs) a b c d e f
  | [], acc, _, _ => by simp [lookup_Table_L3]
  | x :: xs, acc, h, hl => by
    show lookup_Table_B3 kx a b c d e f (lookup_Table_L3 kx a b c d e f xs) x acc = _
    unfold lookup_Table_B3
    simp only [List.length_cons] at hl
    have := h x List.mem_cons_self
    rw [w64_id (by omega) (by omega), lapp_ok (by simp; omega), Option.bind_some, copy_L kx a b c d e f xs _ (fun y hy => h y (List.mem_cons_of_mem _ hy)) (by simp; omega)]
    simp
theorem rows_L (kx : List (List Int) → Int → Int → Int → Int → Int → Int → Option TR) (a b c d f : Int) : ∀ (xs : List (List Ent)) (acc : List (List Int)), (∀ x ∈ xs, chk x = true) → acc.length + xs.length ≤ 1000 →
    lookup_Table_L4 kx xs acc a b c d 1 f = kx (acc ++ xs.map rowI) a b c d 1 f
  | [], acc, _, _ => by simp [lookup_Table_L4]
  | x :: xs, acc, h, hl => by
    show lookup_Table_B4 kx (lookup_Table_L4 kx xs) x acc a b c d 1 f = _
    unfold lookup_Table_B4
    simp only [List.length_cons] at hl
    obtain ⟨t, t1, t2, t3, t4, t5, t6⟩ := chk_facts (h x List.mem_cons_self)
    rw [t1, Option.bind_some]
    dsimp only
    rw [if_neg (by decide), t2, Option.bind_some, copy_L _ _ _ _ _ _ _ _ _ t4 (by simp; omega)]
    unfold lookup_Table_J2
    rw [List.nil_append, lapp_ok (by simp; omega), Option.bind_some, rows_L kx a b c d f xs _ (fun y hy => h y (List.mem_cons_of_mem _ hy)) (by simp; omega)]
    simp
theorem rall_ok {l : List Int} (h : ∀ x ∈ l, 0 ≤ x ∧ x < 256) : residue_Field_All 257 l = some true := by
  unfold residue_Field_All slices_ContainsFunc_Lintint slices_IndexFunc_Lintint
  rw [ixf_L _ l 0 (fun x hx => by
    have := h x hx
    unfold residue_Field_All_f1 residue_Field_Has
    rw [Option.bind_some, decide_eq_true (by omega)]; rfl)]
  rfl
theorem tcheck_L : ∀ xs : List (List Int), (∀ r ∈ xs, r.length = 37 ∧ ∀ x ∈ r, 0 ≤ x ∧ x < 256) → table_Check_L1 257 37 xs = some 0
  | [], _ => rfl
  | r :: xs, h => by
    show table_Check_B1 257 37 (table_Check_L1 257 37 xs) r = _
    unfold table_Check_B1
    obtain ⟨h1, h2⟩ := h r List.mem_cons_self
    rw [if_neg (by omega), rall_ok h2, Option.bind_some, if_neg (by decide)]
    exact tcheck_L xs fun y hy => h y (List.mem_cons_of_mem _ hy)
theorem res257 : residue_Of 257 = some (257, true) := by kernel_rfl
theorem fld257 : field_Check 257 = some 0 := by kernel_rfl
theorem ref257 : ref03_Check 257 = some 0 := by kernel_rfl
theorem tclone_L (kx : Int → Int → Int → List (List Int) → Int → Int → Int → Int → Option TR) (a b c : Int) : ∀ (xs acc : List (List Int)), (∀ r ∈ xs, r.length ≤ 1000) → acc.length + xs.length ≤ 1000 →
    table_New_L2 kx a b c xs acc = kx a b c (acc ++ xs) 0 0 0 b
  | [], acc, _, _ => by simp [table_New_L2]
  | r :: xs, acc, h, hl => by
    show table_New_B2 kx a b c (table_New_L2 kx a b c xs) r acc = _
    unfold table_New_B2 slices_Clone_Lintint
    simp only [List.length_cons] at hl
    have := h r List.mem_cons_self
    rw [lapp_ok (by simp; omega), Option.bind_some, Option.bind_some, lapp_ok (by simp; omega), Option.bind_some, List.nil_append, tclone_L kx a b c xs _ (fun y hy => h y (List.mem_cons_of_mem _ hy)) (by simp; omega)]
    simp
theorem table_ok {x : Hsh × Int × List (List Ent)} {l : List Ent} (h : DirP x l) : lookup_Table 1 257 x = some ((1, 257, 37, x.2.2.map rowI), 0) ∧ (∀ c ∈ x.2.2, chk c = true) ∧ x.2.2.length ≤ 64 := by
  have hb := bkp h
  have hB := h.hk.2.1
  have hlen := hb.len
  have hc : ∀ c ∈ x.2.2, chk c = true := fun c hm => by
    obtain ⟨i, hi, rfl⟩ := List.mem_iff_getElem.1 hm
    have e : x.2.2.getD i [] = x.2.2[i] := by rw [List.getD_eq_getElem?_getD, List.getElem?_eq_getElem hi]; rfl
    rcases hb.f2 i hi with h1 | ⟨e', he, h1, h2⟩
    · rw [← e, h1]; exact chkN
    · rw [← e, h1]; exact chkE (h.good e' he)
  refine ⟨?_, hc, by omega⟩
  have hr : ∀ r ∈ x.2.2.map rowI, r.length = 37 ∧ ∀ y ∈ r, 0 ≤ y ∧ y < 256 := fun r hm => by
    obtain ⟨c, hm2, rfl⟩ := List.mem_map.1 hm
    obtain ⟨t, t1, t2, t3, t4, t5, t6⟩ := chk_facts (hc c hm2)
    exact ⟨t3, t4⟩
  unfold lookup_Table
  rw [kcheck_ok h, Option.bind_some, if_neg (by decide), fld257, Option.bind_some, if_neg (by decide), h.one]
  rw [show lookup_Width 1 = some 37 by kernel_rfl, Option.bind_some, if_neg (by decide), rows_L _ _ _ _ _ _ x.2.2 [] hc (by simp; omega), List.nil_append]
  unfold lookup_Table_J1
  rw [show lookup_Width 1 = some 37 by kernel_rfl, Option.bind_some]
  unfold table_New table_Check
  dsimp only
  rw [res257, Option.bind_some, if_neg (by decide), if_neg (by decide), if_neg (by decide), if_neg (by rw [List.length_map]; omega), tcheck_L _ hr, Option.bind_some, if_neg (by decide), tclone_L _ _ _ _ _ _ (fun r hm => by have := (hr r hm).1; omega) (by simp; omega)]
  rfl
theorem rin_L : ∀ l : List Int, (∀ x ∈ l, 0 ≤ x ∧ x < 256) → ref03_In_L1 257 l = some true
  | [], _ => rfl
  | x :: l, h => by
    show ref03_In_B1 257 (ref03_In_L1 257 l) x = _
    unfold ref03_In_B1
    have := h x List.mem_cons_self
    rw [if_neg (by omega)]
    exact rin_L l fun y hy => h y (List.mem_cons_of_mem _ hy)
theorem r14_L : ∀ xs : List (List Int), (∀ r ∈ xs, r.length = 37 ∧ ∀ x ∈ r, 0 ≤ x ∧ x < 256) → ref14_Check_L1 257 37 xs = some 0
  | [], _ => rfl
  | r :: xs, h => by
    show ref14_Check_B1 257 37 (ref14_Check_L1 257 37 xs) r = _
    unfold ref14_Check_B1 ref03_In
    obtain ⟨h1, h2⟩ := h r List.mem_cons_self
    rw [if_neg (by omega), ref257, Option.bind_some, if_neg (by decide), rin_L r h2, Option.bind_some, if_neg (by decide)]
    exact r14_L xs fun y hy => h y (List.mem_cons_of_mem _ hy)
def pickI (w : ByteArray) : List Ent → Int × Bool × Int
  | [] => (0, false, 0)
  | e :: c => if e.1 = w then (e.2, true, 0) else pickI w c
theorem kpick_L (rec : Option (Int × Bool × Int)) (w : ByteArray) : ∀ c : List Ent, rec = some (0, false, 0) → keyword_Pick_L1 rec w c = some (pickI w c)
  | [], h => h
  | e :: c, h => by
    show keyword_Pick_B1 rec w (keyword_Pick_L1 rec w c) e = _
    unfold keyword_Pick_B1
    simp only [pickI]
    split
    · rfl
    · exact kpick_L rec w c h
theorem read_ok {c : List Ent} (h : chk c = true) {w : ByteArray} (hw : KeyP w) : lookup_Read 1 w ([(0, rowI c, ([] : List Int))] : List (Int × (List Int) × (List Int))) = some (pickI w c) := by
  obtain ⟨t, t1, t2, t3, t4, t5, t6⟩ := chk_facts h
  unfold lookup_Read
  rw [lookup_Read_L6]
  unfold lookup_Read_B6
  dsimp only
  rw [if_neg (by decide), lookup_Read_L6]
  unfold lookup_Read_J5
  rw [lmk_ok (by omega) (by simp), Option.bind_some, lookup_Read_L4]
  unfold lookup_Read_B4
  dsimp only
  rw [t5, Option.bind_some]
  dsimp only
  rw [if_neg (by decide), lidx_nat ByteArray.empty (by simp), Option.bind_some, lupd_ok (by omega) (by simp), Option.bind_some, lookup_Read_L4]
  unfold lookup_Read_J3
  rw [show (List.replicate (([(0, rowI c, ([] : List Int))] : List (Int × (List Int) × (List Int))).length : Int).toNat ByteArray.empty).set ((0 : Nat) : Int).toNat t = [t] from rfl, lookup_Read_L2]
  unfold lookup_Read_B2
  rw [t6, Option.bind_some]
  dsimp only
  rw [if_neg (by decide), lapp_ok (by simp), Option.bind_some, List.nil_append, lookup_Read_L2]
  unfold lookup_Read_J1 keyword_Pick
  rw [kproper_eq, Option.bind_some, if_neg (nb_t hw), keyword_Pick_L2]
  unfold keyword_Pick_B2
  rw [kpick_L (keyword_Pick_L2 w []) w c rfl, Option.bind_some]
end Go.Proofs.Ytmfppphlhgneeaa
end

section
namespace Go.Proofs.Ytmfppphlhgneeaa
set_option linter.unusedVariables false
set_option maxRecDepth 100000
theorem inner_L (rec : Int → Int → Int → Int → Int → Int → Int → Option Bool) {h : Hsh} {l : List Ent} {E : List (List Ent)} (hb : BkP h l E) (hv : ∀ e ∈ l, EntOK e) {i : Nat} (hi : i < E.length) (hc : chk (E.getD i []) = true) (a b c d e f : Int) :
    ∀ (ys : List Ent) (v : Int), (∀ y ∈ ys, y ∈ l) → 0 ≤ v → v + ys.length ≤ 100000 → law35_LookupTables_L4 rec (i : Int) (rowI (E.getD i [])) E ys v a b c d e f = rec (v + (ys.countP fun y => decide (E.getD i [] = [y]) : Nat)) a b c d e f
  | [], v, _, _, _ => by simp [law35_LookupTables_L4]
  | y :: ys, v, hm, h0, h1 => by
    simp only [List.length_cons] at h1
    have hy := hm y List.mem_cons_self
    have ih := fun v' h0' h1' => inner_L rec hb hv hi hc a b c d e f ys v' (fun z hz => hm z (List.mem_cons_of_mem _ hz)) h0' h1'
    show law35_LookupTables_B4 rec (i : Int) _ E (law35_LookupTables_L4 rec (i : Int) _ E ys) y v a b c d e f = _
    unfold law35_LookupTables_B4
    rw [read_ok hc (hv y hy).1, Option.bind_some, lidx_nat [] hi, Option.bind_some, List.countP_cons]
    rcases hb.f2 i hi with g1 | ⟨e', he, g1, g2⟩
    · rw [g1] at ih ⊢
      rw [show pickI y.1 [] = (0, false, 0) from rfl]
      show law35_LookupTables_J2 (law35_LookupTables_L4 rec (i : Int) _ E ys) v 0 false 0 false y.1 y.2 a b c d e f = _
      unfold law35_LookupTables_J2
      rw [if_neg (by simp), if_neg (by decide), ih v h0 (by omega), if_neg (by simp)]
      simp
    · rw [g1] at ih ⊢
      simp only [pickI]
      by_cases hk : e'.1 = y.1
      · rw [if_pos hk]
        have hey := hb.f5 e' he y hy hk
        subst hey
        show law35_LookupTables_J2 (law35_LookupTables_L4 rec (i : Int) _ E ys) v e'.2 true 0 (decide (false = true ∨ e'.1 = e'.1)) e'.1 e'.2 a b c d e f = _
        unfold law35_LookupTables_J2
        rw [if_neg (by simp), if_pos rfl, w64_id (by omega) (by omega), ih (v + 1) (by omega) (by omega), if_pos (by simp)]
        congr 1
        omega
      · rw [if_neg hk]
        show law35_LookupTables_J2 (law35_LookupTables_L4 rec (i : Int) _ E ys) v 0 false 0 (decide (false = true ∨ e'.1 = y.1)) y.1 y.2 a b c d e f = _
        unfold law35_LookupTables_J2
        rw [if_neg (by simp [hk]), if_neg (by decide), ih v h0 (by omega), if_neg (by
          rw [decide_eq_true_eq]
          intro h2
          exact hk (by rw [(List.cons.inj h2).1]))]
        simp
theorem countP_lt (p : Ent → Nat) (i : Nat) : ∀ l : List Ent, (l.countP fun y => decide (p y < i)) + (l.countP fun y => decide (p y = i)) = l.countP fun y => decide (p y < i + 1)
  | [] => rfl
  | y :: l => by
    have ih := countP_lt p i l
    simp only [List.countP_cons, decide_eq_true_eq]
    rcases Nat.lt_trichotomy (p y) i with h | h | h
    · rw [if_pos h, if_neg (by omega), if_pos (by omega)]; omega
    · rw [if_neg (by omega), if_pos h, if_pos (by omega)]; omega
    · rw [if_neg (by omega), if_neg (by omega), if_neg (by omega)]; omega
theorem outer_L {h : Hsh} {l : List Ent} {E : List (List Ent)} (hb : BkP h l E) (hv : ∀ e ∈ l, EntOK e) (hl : l.length ≤ 1000) (hc : ∀ c ∈ E, chk c = true) (p : Ent → Nat) (hp : ∀ e ∈ l, p e < E.length ∧ E.getD (p e) [] = [e]) (a b c d e f : Int) :
    ∀ (xs : List (List Int)) (i : Nat), (E.map rowI).drop i = xs → i ≤ E.length → law35_LookupTables_L5 (law35_LookupTables_J1 l) l E xs i ((l.countP fun y => decide (p y < i) : Nat) : Int) a b c d e f = some true
  | [], i, hd, hi => by
    have hle : (E.map rowI).length ≤ i := List.drop_eq_nil_iff.1 hd
    rw [List.length_map] at hle
    obtain rfl : i = E.length := by omega
    rw [law35_LookupTables_L5]
    unfold law35_LookupTables_J1
    rw [List.countP_eq_length.2 (fun y hy => decide_eq_true (hp y hy).1), decide_eq_true rfl]
  | x :: xs, i, hd, hi => by
    have hlt : i < E.length := by
      rcases Nat.lt_or_ge i E.length with h | h
      · exact h
      · rw [List.drop_eq_nil_of_le (by rw [List.length_map]; exact h)] at hd; cases hd
    have hx : x = rowI (E.getD i []) := by
      rw [List.drop_eq_getElem_cons (by rw [List.length_map]; exact hlt)] at hd
      rw [List.getD_eq_getElem?_getD, List.getElem?_eq_getElem hlt, ← (List.cons.inj hd).1, List.getElem_map]; rfl
    have hd' : (E.map rowI).drop (i + 1) = xs := by rw [← List.drop_drop, hd]; rfl
    show law35_LookupTables_B5 (law35_LookupTables_J1 l) l E (law35_LookupTables_L5 (law35_LookupTables_J1 l) l E xs (i + 1)) x i _ a b c d e f = _
    unfold law35_LookupTables_B5
    have hcm : chk (E.getD i []) = true := hc _ (by rw [List.getD_eq_getElem?_getD, List.getElem?_eq_getElem hlt]; exact List.getElem_mem _)
    have hcl : (l.countP fun y => decide (p y < i)) ≤ l.length := List.countP_le_length
    rw [hx, inner_L _ hb hv hlt hcm a b c d e f l _ (fun y hy => hy) (by omega) (by omega)]
    have ecount : (l.countP fun y => decide (E.getD i [] = [y])) = l.countP fun y => decide (p y = i) := List.countP_congr fun y hy => by
      rw [decide_eq_true_eq, decide_eq_true_eq]
      obtain ⟨h1, h2⟩ := hp y hy
      constructor
      · intro h3; exact hb.f3 _ _ y y h1 hlt h2 h3 rfl
      · intro h3; rw [← h3]; exact h2
    rw [ecount]
    have := countP_lt p i l
    rw [show (((l.countP fun y => decide (p y < i) : Nat) : Int) + ((l.countP fun y => decide (p y = i) : Nat) : Int)) = ((l.countP fun y => decide (p y < i + 1) : Nat) : Int) by omega]
    exact outer_L hb hv hl hc p hp a b c d e f xs (i + 1) hd' (by omega)
theorem law_tables {t : List Int} (ht : ∀ x ∈ t, 0 ≤ x ∧ x ≤ 255) : law35_LookupTables t = some true := by
  unfold law35_LookupTables
  rw [sane35, Option.bind_some, if_neg (by decide)]
  obtain ⟨d, h1, h2⟩ := dnew ht
  rw [h1, Option.bind_some]
  obtain ⟨x, l, e, x1, x2, x3⟩ := dir_ok h2
  rw [x1, Option.bind_some]
  dsimp only
  obtain ⟨t1, t2, t3⟩ := table_ok x2
  have hb := bkp x2
  have hlen := hb.len
  have hr : ∀ r ∈ x.2.2.map rowI, r.length = 37 ∧ ∀ y ∈ r, 0 ≤ y ∧ y < 256 := fun r hm => by
    obtain ⟨c, hm2, rfl⟩ := List.mem_map.1 hm
    obtain ⟨t, t1, t2, t3, t4, t5, t6⟩ := chk_facts (t2 c hm2)
    exact ⟨t3, t4⟩
  rw [t1, Option.bind_some]
  dsimp only
  rw [if_neg (by rw [List.length_map]; omega), show lookup_Width 1 = some 37 by kernel_rfl, Option.bind_some, Option.bind_some, if_neg (by simp)]
  have h14 : ref14_Check (1, 257, 37, x.2.2.map rowI) = some 0 := by
    unfold ref14_Check
    dsimp only
    rw [if_neg (by decide), ref257, Option.bind_some, if_neg (by decide), if_neg (by decide), if_neg (by rw [List.length_map]; omega)]
    exact r14_L _ hr
  rw [h14, Option.bind_some, Option.bind_some, if_neg (by decide)]
  obtain ⟨p, hp⟩ := Classical.axiomOfChoice (r := fun (e : Ent) (b : Nat) => e ∈ l → b < x.2.2.length ∧ x.2.2.getD b [] = [e]) (fun e => (Classical.em (e ∈ l)).elim (fun h => by
    obtain ⟨b, h1⟩ := hb.f4 e h
    exact ⟨b, fun _ => h1⟩) (fun h => ⟨0, fun h' => absurd h' h⟩))
  have := outer_L hb (fun e he => (x2.good e he).ok) (by have := x2.few; omega) t2 p hp 1 257 37 x.1.1 x.2.1 e.2 (x.2.2.map rowI) 0 rfl (by omega)
  rw [show (l.countP fun y => decide (p y < 0)) = 0 from List.countP_eq_zero.2 (fun y _ => by simp)] at this
  exact this
end Go.Proofs.Ytmfppphlhgneeaa
end
