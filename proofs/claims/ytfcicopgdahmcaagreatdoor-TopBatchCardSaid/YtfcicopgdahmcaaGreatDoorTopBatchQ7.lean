/- What the proof needs, gathered by wip/gen/shake.py. -/
import Derived.Calls
import Derived.Deep.Quiet
import Derived.Below
import Derived.Laws.AppendOwn
import Derived.WalkKit
import Derived.Laws.OwnMore
import Derived.Deep.Slices
import Derived.ChangeOld
import Derived.ArgAppend
import Derived.RangeFuncIn
import Derived.RangeFuncRecord
import Derived.RangeFuncLeaves
import Derived.Laws.MakeOwn
import Derived.IntWalk
import Derived.Laws.IdiomStrings
import Derived.Laws.Cover3
import Derived.Laws.CopyOwn
import Derived.MapKept
import Derived.RangeFuncNested
import Derived.Test.YtfcicopgdahmcaaGreatDoorRows
import Derived.LaidEql
import Derived.Stop.Asserts
import Derived.RowKitTokens
import Derived.Test.YtfcicopgdahmcaaGreatDoorCards
import Derived.LaidLaws
import Derived.Look8
import Derived.MakeChecks
import Derived.Test.YtfcicopgdahmcaaGreatDoorTie
import Derived.LaidMore
import Derived.Lay
import Derived.SevenTiedAt
import Derived.Stop.Joined
import Derived.ProofKit
import Derived.OpenShut
import Derived.ShutString
import Derived.Test.YtfcicopgdahmcaaGreatDoorTopBatchQ6

section
namespace Go.Proofs.YtfcicopgdahmcaaGreatDoor
set_option linter.unusedVariables false
def at' {α : Type} (d : α) (l : List α) (b : Int) : α := l.getD b.toNat d
theorem at_idx {α : Type} (d : α) {l : List α} {b : Int} (h0 : 0 ≤ b) (h1 : b < l.length) : lidx l b = some (at' d l b) := lidx_ok d h0 h1
theorem at_set {α : Type} (d : α) {l : List α} {b c : Int} {y : α} (h0 : 0 ≤ b) (h1 : b < l.length) (hc : 0 ≤ c) : at' d (l.set b.toNat y) c = if c = b then y else at' d l c := by
  unfold at'
  rw [List.getD_eq_getElem?_getD, List.getElem?_set]
  by_cases h : c = b
  · subst h; rw [if_pos rfl, if_pos rfl, if_pos (by omega)]; rfl
  · rw [if_neg (by omega), if_neg h, List.getD_eq_getElem?_getD]
theorem at_mem {α : Type} (d : α) {l : List α} {b : Int} (h0 : 0 ≤ b) (h1 : b < l.length) : at' d l b ∈ l := by
  unfold at'
  rw [List.getD_eq_getElem?_getD, List.getElem?_eq_getElem (by omega)]
  exact List.getElem_mem _
theorem at_of_mem {α : Type} (d : α) {l : List α} {x : α} (h : x ∈ l) : ∃ b : Int, 0 ≤ b ∧ b < l.length ∧ at' d l b = x := by
  obtain ⟨i, hi, rfl⟩ := List.getElem_of_mem h
  refine ⟨i, by omega, by omega, ?_⟩
  unfold at'
  rw [Int.toNat_natCast, List.getD_eq_getElem?_getD, List.getElem?_eq_getElem hi]; rfl
theorem count_setN {α : Type} [DecidableEq α] (d j y : α) : ∀ (l : List α) (n : Nat), n < l.length → (l.set n y).count j + (if l.getD n d = j then 1 else 0) = l.count j + (if y = j then 1 else 0)
  | [], n, h => by simp at h
  | x :: l, 0, h => by
    simp only [List.set_cons_zero, List.getD_cons_zero, List.count_cons, beq_iff_eq]
    omega
  | x :: l, n + 1, h => by
    have := count_setN d j y l n (by simpa using h)
    simp only [List.set_cons_succ, List.getD_cons_succ, List.count_cons]
    omega
theorem count_set' {α : Type} [DecidableEq α] (d : α) (j y : α) {l : List α} {b : Int} (h0 : 0 ≤ b) (h1 : b < l.length) : (l.set b.toNat y).count j + (if at' d l b = j then 1 else 0) = l.count j + (if y = j then 1 else 0) :=
  count_setN d j y l b.toNat (by omega)
theorem count_false_lt {l : List Bool} {b : Int} (h0 : 0 ≤ b) (h1 : b < l.length) (h : at' false l b = false) : (l.set b.toNat true).count false + 1 = l.count false := by
  have := count_set' false false true h0 h1
  rw [h] at this
  simpa using this
theorem count_le_of {s t : List Bool} (hl : s.length = t.length) (h : ∀ b : Int, 0 ≤ b → b < s.length → at' false s b = true → at' false t b = true) : t.count false ≤ s.count false := by
  induction s generalizing t with
  | nil => cases t with
    | nil => simp
    | cons _ _ => simp at hl
  | cons x s ih =>
    cases t with
    | nil => simp at hl
    | cons y t =>
      simp only [List.length_cons, Nat.add_right_cancel_iff] at hl
      have h1 := ih hl fun b h0 hb ht => by
        have := h (b + 1) (by omega) (by simp; omega)
        have e : (b + 1).toNat = b.toNat + 1 := by omega
        simp only [at', e, List.getD_cons_succ] at this
        exact this ht
      have h2 := h 0 (by omega) (by simp only [List.length_cons]; omega)
      simp only [at', Int.toNat_zero, List.getD_cons_zero] at h2
      simp only [List.count_cons]
      cases x <;> cases y
      · simp; omega
      · simp; omega
      · exact absurd (h2 rfl) (by simp)
      · simp; omega
def HomesOK (B : Int) (homes : List (List Int)) : Prop := ∀ l ∈ homes, ∀ b ∈ l, 0 ≤ b ∧ b < B
def BkOK (B : Int) (homes : List (List Int)) (bk : List Int) : Prop := (bk.length : Int) = B ∧ ∀ v ∈ bk, -1 ≤ v ∧ v < homes.length
abbrev Bk := List Int
structure Won (B : Int) (homes : List (List Int)) (fixed seen : List Bool) (i : Int) (bk bk' : Bk) : Prop where
  ok : BkOK B homes bk'
  still : ∀ b, 0 ≤ b → b < B → (at' false seen b = true ∨ at' false fixed b = true) → at' (-1) bk' b = at' (-1) bk b
  kept : ∀ b, 0 ≤ b → b < B → 0 ≤ at' (-1) bk b → 0 ≤ at' (-1) bk' b
  edge : ∀ b, 0 ≤ b → b < B → at' (-1) bk' b = at' (-1) bk b ∨ (0 ≤ at' (-1) bk' b ∧ b ∈ at' [] homes (at' (-1) bk' b))
  count : ∀ j, 0 ≤ j → bk'.count j = bk.count j + if i = j then 1 else 0
structure Lost (B : Int) (homes : List (List Int)) (fixed seen seen' : List Bool) (hs : List Int) (bk : Bk) : Prop where
  all : ∀ b ∈ hs, at' false fixed b = true ∨ at' false seen' b = true
  closed : ∀ b, 0 ≤ b → b < B → at' false seen' b = true → at' false seen b = false → 0 ≤ at' (-1) bk b ∧ at' false fixed b = false ∧ ∀ c ∈ at' [] homes (at' (-1) bk b), at' false fixed c = true ∨ at' false seen' c = true
def SeenLe (B : Int) (s t : List Bool) : Prop := ∀ b, 0 ≤ b → b < B → at' false s b = true → at' false t b = true
theorem place_loop (B : Int) (homes : List (List Int)) (fixed : List Bool) (hh : HomesOK B homes) (hf : (fixed.length : Int) = B) (i : Int) (hi : 0 ≤ i ∧ i < homes.length) (m : Nat)
    (ih : ∀ (i : Int) (seen : List Bool) (bk : Bk), 0 ≤ i → i < homes.length → (seen.length : Int) = B → BkOK B homes bk → seen.count false < m → ∃ r bk' seen', cuckoo_placing_place_R m (homes, bk, fixed) i seen = some (r, bk', seen') ∧ (seen'.length : Int) = B ∧ SeenLe B seen seen' ∧
      (r = true → Won B homes fixed seen i bk bk') ∧ (r = false → bk' = bk ∧ Lost B homes fixed seen seen' (at' [] homes i) bk)) :
    ∀ (hs : List Int) (seen : List Bool) (bk : Bk), (∀ b ∈ hs, b ∈ at' [] homes i) → (seen.length : Int) = B → BkOK B homes bk → seen.count false < m + 1 →
      ∃ r bk' seen', cuckoo_placing_place_L1 (cuckoo_placing_place_R m) i homes fixed hs seen bk = some (r, bk', seen') ∧ (seen'.length : Int) = B ∧ SeenLe B seen seen' ∧
        (r = true → Won B homes fixed seen i bk bk') ∧ (r = false → bk' = bk ∧ Lost B homes fixed seen seen' hs bk)
  | [], seen, bk, _, hs, hb, _ => ⟨false, bk, seen, rfl, hs, fun _ _ _ h => h, by simp, fun _ => ⟨rfl, by simp, fun b _ _ h1 h2 => by rw [h1] at h2; cases h2⟩⟩
  | b :: hs, seen, bk, hm, hs', hb, hc => by
    have hbi : b ∈ at' [] homes i := hm b List.mem_cons_self
    obtain ⟨b0, bB⟩ := hh _ (at_mem [] hi.1 hi.2) b hbi
    have ih2 := fun seen bk => place_loop B homes fixed hh hf i hi m ih hs seen bk (fun c h => hm c (List.mem_cons_of_mem _ h))
    rw [cuckoo_placing_place_L1]
    unfold cuckoo_placing_place_B1
    rw [at_idx false b0 (by omega), at_idx false b0 (by omega)]
    simp only [Option.bind_some]
    have hskip : (at' false seen b = true ∨ at' false fixed b = true) → ∃ r bk' seen', cuckoo_placing_place_L1 (cuckoo_placing_place_R m) i homes fixed hs seen bk = some (r, bk', seen') ∧ (seen'.length : Int) = B ∧ SeenLe B seen seen' ∧
        (r = true → Won B homes fixed seen i bk bk') ∧ (r = false → bk' = bk ∧ Lost B homes fixed seen seen' (b :: hs) bk) := fun hsf => by
      obtain ⟨r, bk', seen', e, h1, h2, h3, h4⟩ := ih2 seen bk hs' hb hc
      refine ⟨r, bk', seen', e, h1, h2, h3, fun hr => ⟨(h4 hr).1, fun c hc' => ?_, (h4 hr).2.closed⟩⟩
      rcases List.mem_cons.1 hc' with rfl | hc'
      · rcases hsf with h | h
        · exact .inr (h2 _ b0 bB h)
        · exact .inl h
      · exact (h4 hr).2.all c hc'
    by_cases h1 : at' false seen b = true
    · rw [if_pos h1]; simp only [Option.bind_some, if_true]; exact hskip (.inl h1)
    · rw [if_neg h1]
      simp only [Option.bind_some]
      by_cases h2 : at' false fixed b = true
      · rw [if_pos h2]; exact hskip (.inr h2)
      · rw [if_neg h2, at_idx (-1) b0 (by rw [hb.1]; exact bB)]
        simp only [Option.bind_some]
        have h1' : at' false seen b = false := by simpa using h1
        have h2' : at' false fixed b = false := by simpa using h2
        have hbl : b < bk.length := by rw [hb.1]; exact bB
        by_cases h3 : at' (-1) bk b < 0
        · rw [if_pos h3, lupd_ok b0 hbl]
          simp only [Option.bind_some]
          refine ⟨true, _, seen, rfl, hs', fun _ _ _ h => h, fun _ => ⟨⟨by simpa using hb.1, fun v hv => ?_⟩, fun c c0 cB hc' => ?_, fun c c0 cB hc' => ?_, fun c c0 cB => ?_, fun j hj => ?_⟩, by simp⟩
          · rcases List.mem_or_eq_of_mem_set hv with h | rfl
            · exact hb.2 v h
            · omega
          · rw [at_set (-1) b0 hbl c0]
            split
            · rename_i e; subst e; rcases hc' with h | h
              · rw [h1'] at h; cases h
              · rw [h2'] at h; cases h
            · rfl
          · rw [at_set (-1) b0 hbl c0]; split
            · exact hi.1
            · exact hc'
          · rw [at_set (-1) b0 hbl c0]; split
            · rename_i e; subst e; exact .inr ⟨hi.1, hbi⟩
            · exact .inl rfl
          · have := count_set' (-1) j i b0 hbl
            rw [if_neg (by omega : ¬ at' (-1) bk b = j)] at this
            simpa using this
        · rw [if_neg h3, lupd_ok b0 (by omega)]
          simp only [Option.bind_some]
          have hlt : b < seen.length := by omega
          have ho := hb.2 _ (at_mem (-1) b0 hbl)
          obtain ⟨r, bk1, seen1, e1, l1, m1, w1, f1⟩ := ih (at' (-1) bk b) (seen.set b.toNat true) bk (by omega) ho.2 (by simpa using hs') hb (by have := count_false_lt b0 hlt h1'; omega)
          rw [e1]
          simp only [Option.bind_some]
          have hsb : at' false (seen.set b.toNat true) b = true := by rw [at_set false b0 hlt b0, if_pos rfl]
          have hle : SeenLe B seen (seen.set b.toNat true) := fun c c0 cB h => by rw [at_set false b0 hlt c0]; split; rfl; exact h
          cases r with
          | true =>
            have hw := w1 rfl
            have hb1 : b < bk1.length := by rw [hw.ok.1]; exact bB
            rw [if_pos rfl, at_idx (-1) b0 hb1]
            simp only [Option.bind_some]
            rw [lupd_ok b0 hb1]
            simp only [Option.bind_some]
            have hst : at' (-1) bk1 b = at' (-1) bk b := hw.still b b0 bB (.inl hsb)
            refine ⟨true, _, seen1, rfl, l1, fun c c0 cB h => m1 c c0 cB (hle c c0 cB h), fun _ => ⟨⟨by simpa using hw.ok.1, fun v hv => ?_⟩, fun c c0 cB hc' => ?_, fun c c0 cB hc' => ?_, fun c c0 cB => ?_, fun j hj => ?_⟩, by simp⟩
            · rcases List.mem_or_eq_of_mem_set hv with h | rfl
              · exact hw.ok.2 v h
              · omega
            · rw [at_set (-1) b0 hb1 c0]
              split
              · rename_i e; subst e; rcases hc' with h | h
                · rw [h1'] at h; cases h
                · rw [h2'] at h; cases h
              · exact hw.still c c0 cB (hc'.imp (hle c c0 cB) id)
            · rw [at_set (-1) b0 hb1 c0]; split
              · exact hi.1
              · exact hw.kept c c0 cB hc'
            · rw [at_set (-1) b0 hb1 c0]; split
              · rename_i e; subst e; exact .inr ⟨hi.1, hbi⟩
              · exact hw.edge c c0 cB
            · have h5 := count_set' (-1) j i b0 hb1
              have h6 := hw.count j hj
              rw [hst] at h5
              omega
          | false =>
            rw [if_neg (by simp)]
            obtain ⟨rfl, hlost⟩ := f1 rfl
            have hcle := count_le_of (s := seen.set b.toNat true) (t := seen1) (by rw [List.length_set]; omega) (fun c c0 cl h => m1 c c0 (by simp at cl; omega) h)
            have hcl := count_false_lt b0 hlt h1'
            obtain ⟨r, bk2, seen2, e2, l2, m2, w2, f2⟩ := ih2 seen1 bk1 l1 hb (by omega)
            refine ⟨r, bk2, seen2, e2, l2, fun c c0 cB h => m2 c c0 cB (m1 c c0 cB (hle c c0 cB h)), fun hr => ?_, fun hr => ?_⟩
            · have hw := w2 hr
              exact ⟨hw.ok, fun c c0 cB hc' => hw.still c c0 cB (hc'.imp (fun h => m1 c c0 cB (hle c c0 cB h)) id), hw.kept, hw.edge, hw.count⟩
            · obtain ⟨rfl, hl2⟩ := f2 hr
              refine ⟨rfl, fun c hc' => ?_, fun c c0 cB hs2 hs0 => ?_⟩
              · rcases List.mem_cons.1 hc' with rfl | hc'
                · exact .inr (m2 _ b0 bB (m1 _ b0 bB hsb))
                · exact hl2.all c hc'
              · have hup : ∀ x ∈ at' [] homes (at' (-1) bk2 c), 0 ≤ at' (-1) bk2 c → (at' false fixed x = true ∨ at' false seen1 x = true) → at' false fixed x = true ∨ at' false seen2 x = true := fun x hx h0 h => by
                  have hv := hb.2 _ (at_mem (-1) c0 (by rw [hb.1]; exact cB))
                  obtain ⟨x0, xB⟩ := hh _ (at_mem [] h0 hv.2) x hx
                  exact h.imp id (m2 x x0 xB)
                by_cases hs1 : at' false seen1 c = true
                · by_cases hcb : c = b
                  · subst hcb
                    refine ⟨by omega, h2', fun x hx => hup x hx (by omega) (hlost.all x hx)⟩
                  · have hs3 : at' false (seen.set b.toNat true) c = false := by rw [at_set false b0 hlt c0, if_neg hcb]; exact hs0
                    obtain ⟨g1, g2, g3⟩ := hlost.closed c c0 cB hs1 hs3
                    exact ⟨g1, g2, fun x hx => hup x hx g1 (g3 x hx)⟩
                · exact hl2.closed c c0 cB hs2 (by simpa using hs1)
theorem place_ok (B : Int) (homes : List (List Int)) (fixed : List Bool) (hh : HomesOK B homes) (hf : (fixed.length : Int) = B) : ∀ (m : Nat) (i : Int) (seen : List Bool) (bk : Bk), 0 ≤ i → i < homes.length → (seen.length : Int) = B → BkOK B homes bk → seen.count false < m →
    ∃ r bk' seen', cuckoo_placing_place_R m (homes, bk, fixed) i seen = some (r, bk', seen') ∧ (seen'.length : Int) = B ∧ SeenLe B seen seen' ∧ (r = true → Won B homes fixed seen i bk bk') ∧ (r = false → bk' = bk ∧ Lost B homes fixed seen seen' (at' [] homes i) bk)
  | 0, i, seen, bk, _, _, _, _, h => by omega
  | m + 1, i, seen, bk, h0, h1, hs, hb, hc => by
    rw [cuckoo_placing_place_R]
    unfold cuckoo_placing_place_B2
    rw [at_idx [] h0 h1]
    simp only [Option.bind_some]
    exact place_loop B homes fixed hh hf i ⟨h0, h1⟩ m (place_ok B homes fixed hh hf m) _ seen bk (fun _ h => h) hs hb hc
end Go.Proofs.YtfcicopgdahmcaaGreatDoor
namespace Go.Proofs.YtfcicopgdahmcaaGreatDoor
set_option linter.unusedVariables false
theorem pig : ∀ {l m : List Int}, l.Nodup → (∀ x ∈ l, x ∈ m) → l.length ≤ m.length
  | [], m, _, _ => by simp
  | x :: l, m, hn, hs => by
    obtain ⟨h1, h2⟩ := List.nodup_cons.1 hn
    have hx := hs x List.mem_cons_self
    have h3 := pig (l := l) (m := m.erase x) h2 fun y hy => by
      have hne : y ≠ x := fun e => h1 (e ▸ hy)
      exact (List.mem_erase_of_ne hne).2 (hs y (List.mem_cons_of_mem _ hy))
    have h4 := List.length_erase_of_mem hx
    have h5 : 0 < m.length := List.length_pos_of_mem hx
    simp only [List.length_cons]; omega
theorem nodup_map {α β : Type} {f : α → β} : ∀ {l : List α}, l.Nodup → (∀ x ∈ l, ∀ y ∈ l, f x = f y → x = y) → (l.map f).Nodup
  | [], _, _ => by simp
  | x :: l, hn, hi => by
    obtain ⟨h1, h2⟩ := List.nodup_cons.1 hn
    rw [List.map_cons, List.nodup_cons]
    refine ⟨fun hm => ?_, nodup_map h2 fun a ha b hb => hi a (List.mem_cons_of_mem _ ha) b (List.mem_cons_of_mem _ hb)⟩
    obtain ⟨y, hy, e⟩ := List.mem_map.1 hm
    have := hi y (List.mem_cons_of_mem _ hy) x List.mem_cons_self e
    exact h1 (this ▸ hy)
theorem at_count {l : List Int} {b c j : Int} (hb : 0 ≤ b ∧ b < l.length) (hc : 0 ≤ c ∧ c < l.length) (h1 : at' (-1) l b = j) (h2 : at' (-1) l c = j) (hne : b ≠ c) : 2 ≤ l.count j := by
  have h3 := count_set' (-1) j (j + 1) hb.1 hb.2
  rw [if_pos h1, if_neg (by omega)] at h3
  have h4 : at' (-1) (l.set b.toNat (j + 1)) c = j := by rw [at_set (-1) hb.1 hb.2 hc.1, if_neg (fun e => hne e.symm)]; exact h2
  have h5 := at_mem (-1) (l := l.set b.toNat (j + 1)) hc.1 (by simpa using hc.2)
  rw [h4] at h5
  have := List.count_pos_iff.2 h5
  omega
theorem at_count1 {l : List Int} {b j : Int} (hb : 0 ≤ b ∧ b < l.length) (h1 : at' (-1) l b = j) : 1 ≤ l.count j := List.count_pos_iff.2 (h1 ▸ at_mem (-1) hb.1 hb.2)
def Places (homes : List (List Int)) (fixed : List Bool) (a : Int) (f : Int → Int) : Prop :=
  (∀ j, a ≤ j → j < homes.length → f j ∈ at' [] homes j ∧ at' false fixed (f j) = false) ∧ ∀ j k, a ≤ j → j < homes.length → a ≤ k → k < homes.length → f j = f k → j = k
def Placeable (homes : List (List Int)) (fixed : List Bool) (a : Int) : Prop := ∃ f, Places homes fixed a f
structure Stand (B : Int) (homes : List (List Int)) (fixed : List Bool) (a i : Int) (bk : Bk) : Prop where
  ok : BkOK B homes bk
  le : ∀ j, 0 ≤ j → bk.count j ≤ 1
  one : ∀ j, a ≤ j → j < i → bk.count j = 1
  none : ∀ j, i ≤ j → bk.count j = 0
  free : ∀ b, 0 ≤ b → b < B → at' false fixed b = false → 0 ≤ at' (-1) bk b → a ≤ at' (-1) bk b ∧ b ∈ at' [] homes (at' (-1) bk b)
  fix : ∀ b, 0 ≤ b → b < B → at' false fixed b = true → at' (-1) bk b < a
theorem Stand.places {B : Int} {homes : List (List Int)} {fixed : List Bool} {a : Int} {bk : Bk} (ha : 0 ≤ a) (h : Stand B homes fixed a homes.length bk) : Placeable homes fixed a := by
  classical
  have hex : ∀ j, a ≤ j → j < homes.length → ∃ b, 0 ≤ b ∧ b < B ∧ at' (-1) bk b = j := fun j h1 h2 => by
    have hm : j ∈ bk := List.count_pos_iff.1 (by rw [h.one j h1 h2]; omega)
    obtain ⟨b, h3, h4, h5⟩ := at_of_mem (-1) hm
    exact ⟨b, h3, by rw [← h.ok.1]; exact h4, h5⟩
  refine ⟨fun j => if hj : ∃ b, 0 ≤ b ∧ b < B ∧ at' (-1) bk b = j then hj.choose else 0, fun j h1 h2 => ?_, fun j k h1 h2 h3 h4 e => ?_⟩
  · have hj := hex j h1 h2
    have := hj.choose_spec
    simp only [dif_pos hj]
    obtain ⟨b0, bB, hb⟩ := this
    by_cases hfx : at' false fixed hj.choose = true
    · have := h.fix _ b0 bB hfx; omega
    · have hfx' : at' false fixed hj.choose = false := by simpa using hfx
      refine ⟨?_, hfx'⟩
      have := (h.free _ b0 bB hfx' (by omega)).2
      rwa [hb] at this
  · have hj := hex j h1 h2
    have hk := hex k h3 h4
    simp only [dif_pos hj, dif_pos hk] at e
    rw [← hj.choose_spec.2.2, ← hk.choose_spec.2.2, e]
theorem no_way {B : Int} {homes : List (List Int)} {fixed seen seen' : List Bool} {a i : Int} {bk : Bk} (hh : HomesOK B homes) (hs : Stand B homes fixed a i bk) (ha : 0 ≤ a ∧ a ≤ i) (hi : i < homes.length) (h0 : ∀ b, 0 ≤ b → b < B → at' false seen b = false)
    (hl : Lost B homes fixed seen seen' (at' [] homes i) bk) : ¬ Placeable homes fixed a := by
  rintro ⟨f, hf1, hf2⟩
  let R : List Int := ((List.range B.toNat).map fun (b : Nat) => (b : Int)).filter fun b => at' false seen' b
  have hR : ∀ b, b ∈ R ↔ (0 ≤ b ∧ b < B) ∧ at' false seen' b = true := fun b => by
    simp only [R, List.mem_filter, List.mem_map, List.mem_range]
    constructor
    · rintro ⟨⟨n, hn, rfl⟩, h⟩; exact ⟨⟨by omega, by omega⟩, h⟩
    · rintro ⟨⟨h1, h2⟩, h⟩; exact ⟨⟨b.toNat, by omega, by omega⟩, h⟩
  have hRn : R.Nodup := List.Pairwise.filter _ (nodup_map List.nodup_range fun x _ y _ e => by omega)
  have hcl : ∀ b ∈ R, 0 ≤ at' (-1) bk b ∧ at' false fixed b = false ∧ ∀ c ∈ at' [] homes (at' (-1) bk b), at' false fixed c = true ∨ at' false seen' c = true := fun b hb => by
    obtain ⟨⟨b0, bB⟩, h⟩ := (hR b).1 hb
    exact hl.closed b b0 bB h (h0 b b0 bB)
  have hin : ∀ b ∈ R, a ≤ at' (-1) bk b ∧ at' (-1) bk b < i := fun b hb => by
    obtain ⟨⟨b0, bB⟩, h⟩ := (hR b).1 hb
    obtain ⟨g1, g2, _⟩ := hcl b hb
    refine ⟨(hs.free b b0 bB g2 g1).1, ?_⟩
    rcases Int.lt_or_le (at' (-1) bk b) i with h | h
    · exact h
    · have h1 := hs.none _ h
      have h2 := at_count1 (l := bk) ⟨b0, by rw [hs.ok.1]; exact bB⟩ rfl
      omega
  -- the items that are in the way, and the new one
  have hXn : (i :: R.map fun b => at' (-1) bk b).Nodup := by
    refine List.nodup_cons.2 ⟨fun hm => ?_, nodup_map hRn fun x hx y hy e => ?_⟩
    · obtain ⟨b, hb, e⟩ := List.mem_map.1 hm
      have := (hin b hb).2; omega
    · rcases Decidable.em (x = y) with h | h
      · exact h
      · obtain ⟨⟨x0, xB⟩, _⟩ := (hR x).1 hx
        obtain ⟨⟨y0, yB⟩, _⟩ := (hR y).1 hy
        have h1 := at_count (l := bk) ⟨x0, by rw [hs.ok.1]; exact xB⟩ ⟨y0, by rw [hs.ok.1]; exact yB⟩ rfl e.symm h
        have h2 := hs.one _ (hin x hx).1 (hin x hx).2
        omega
  have hXr : ∀ x ∈ (i :: R.map fun b => at' (-1) bk b), (a ≤ x ∧ x < homes.length) ∧ f x ∈ R := fun x hx => by
    rcases List.mem_cons.1 hx with rfl | hx
    · obtain ⟨h1, h2⟩ := hf1 x ha.2 hi
      refine ⟨⟨ha.2, hi⟩, (hR _).2 ⟨hh _ (at_mem [] (by omega) hi) _ h1, ?_⟩⟩
      rcases hl.all _ h1 with h | h
      · rw [h2] at h; cases h
      · exact h
    · obtain ⟨b, hb, rfl⟩ := List.mem_map.1 hx
      have hr := hin b hb
      obtain ⟨h1, h2⟩ := hf1 _ hr.1 (by omega)
      refine ⟨⟨hr.1, by omega⟩, (hR _).2 ⟨hh _ (at_mem [] (by omega) (by omega)) _ h1, ?_⟩⟩
      rcases (hcl b hb).2.2 _ h1 with h | h
      · rw [h2] at h; cases h
      · exact h
  have h1 := pig (nodup_map (f := f) hXn fun x hx y hy e => hf2 x y (hXr x hx).1.1 (hXr x hx).1.2 (hXr y hy).1.1 (hXr y hy).1.2 e) (m := R) (fun y hy => by
    obtain ⟨x, hx, rfl⟩ := List.mem_map.1 hy
    exact (hXr x hx).2)
  simp at h1
  omega
theorem Stand.won {B : Int} {homes : List (List Int)} {fixed seen : List Bool} {a i : Int} {bk bk' : Bk} (hs : Stand B homes fixed a i bk) (ha : 0 ≤ a ∧ a ≤ i) (hw : Won B homes fixed seen i bk bk') : Stand B homes fixed a (i + 1) bk' where
  ok := hw.ok
  le j h := by
    rw [hw.count j h]
    by_cases he : i = j
    · rw [if_pos he, hs.none j (by omega)]; omega
    · rw [if_neg he]; exact hs.le j h
  one j h1 h2 := by
    rw [hw.count j (by omega)]
    by_cases h : i = j
    · rw [if_pos h, hs.none j (by omega)]
    · rw [if_neg h, hs.one j h1 (by omega)]
  none j h := by rw [hw.count j (by omega), if_neg (by omega), hs.none j (by omega)]
  free b b0 bB hf hb := by
    rcases hw.edge b b0 bB with h | ⟨_, h⟩
    · rw [h] at hb ⊢; exact hs.free b b0 bB hf hb
    · refine ⟨?_, h⟩
      -- it is i, or stood somewhere
      rcases Int.lt_or_le (at' (-1) bk' b) a with hlt | hge
      · exfalso
        have hne : i ≠ at' (-1) bk' b := by omega
        have h1 := hw.count _ hb
        rw [if_neg hne] at h1
        have h2 := at_count1 (l := bk') ⟨b0, by rw [hw.ok.1]; exact bB⟩ rfl
        have hm : at' (-1) bk' b ∈ bk := List.count_pos_iff.1 (by omega)
        obtain ⟨c, c0, cB, hc⟩ := at_of_mem (-1) hm
        have cB' : c < B := by rw [← hs.ok.1]; exact cB
        by_cases hfc : at' false fixed c = true
        · -- c is fixed, and holds it still; so do two buckets
          have h3 := hw.still c c0 cB' (.inr hfc)
          have hbc : b ≠ c := fun e => by subst e; rw [hf] at hfc; cases hfc
          have h4 := at_count (l := bk') ⟨b0, by rw [hw.ok.1]; exact bB⟩ ⟨c0, by rw [hw.ok.1]; exact cB'⟩ rfl (by rw [h3, hc]) hbc
          have h5 := hs.le _ hb
          omega
        · have := (hs.free c c0 cB' (by simpa using hfc) (by rw [hc]; exact hb)).1
          rw [hc] at this; omega
      · exact hge
  fix b b0 bB hf := by rw [hw.still b b0 bB (.inr hf)]; exact hs.fix b b0 bB hf
theorem all_L (B : Int) (homes : List (List Int)) (fixed : List Bool) (hh : HomesOK B homes) (hf : (fixed.length : Int) = B) (hB : B ≤ 1000) (hn : (homes.length : Int) ≤ 100000) (a : Int) (ha : 0 ≤ a) :
    ∀ (m : Nat) (i : Int) (bk : Bk), a ≤ i → i ≤ homes.length → (homes.length : Int) - i < m → Stand B homes fixed a i bk →
      ∃ r bk', cuckoo_placing_all_L1 homes fixed m i bk = some (r, bk') ∧ (r = true → Stand B homes fixed a homes.length bk' ∧ ∀ b, 0 ≤ b → b < B → at' false fixed b = true → at' (-1) bk' b = at' (-1) bk b) ∧ (r = true ↔ Placeable homes fixed a)
  | 0, i, bk, _, h2, h3, _ => by omega
  | m + 1, i, bk, h1, h2, h3, hs => by
    rw [cuckoo_placing_all_L1]
    unfold cuckoo_placing_all_B1
    by_cases hi : i < homes.length
    · rw [if_pos hi]
      have hbl := hs.ok.1
      have hmk : lmk (bk.length : Int) false = some (List.replicate bk.length false) := by
        unfold lmk; rw [if_pos (by omega), Int.toNat_natCast]
      rw [hmk]
      simp only [Option.bind_some]
      have h0 : ∀ b, 0 ≤ b → b < B → at' false (List.replicate bk.length false) b = false := fun b b0 bB => by
        unfold at'
        rw [List.getD_eq_getElem?_getD, List.getElem?_replicate]; split <;> rfl
      obtain ⟨r, bk1, seen1, e, l1, m1, w1, f1⟩ := place_ok B homes fixed hh hf big i (List.replicate bk.length false) bk (by omega) hi (by simpa using hbl) hs.ok (by
        have := List.count_le_length (a := false) (l := List.replicate bk.length false)
        rw [List.length_replicate] at this
        simp only [big]; omega)
      unfold cuckoo_placing_place
      rw [e]
      simp only [Option.bind_some]
      cases r with
      | true =>
        simp only [Bool.not_true, Bool.false_eq_true, if_false]
        rw [w64_id (by omega) (by omega)]
        have hw := w1 rfl
        obtain ⟨r, bk2, e2, g1, g2⟩ := all_L B homes fixed hh hf hB hn a ha m (i + 1) bk1 (by omega) (by omega) (by omega) (hs.won ⟨ha, h1⟩ hw)
        exact ⟨r, bk2, e2, fun hr => ⟨(g1 hr).1, fun b b0 bB hb => by rw [(g1 hr).2 b b0 bB hb, hw.still b b0 bB (.inr hb)]⟩, g2⟩
      | false =>
        simp only [Bool.not_false, if_true]
        obtain ⟨rfl, hl⟩ := f1 rfl
        exact ⟨false, bk1, rfl, by simp, by simp [no_way hh hs ⟨ha, h1⟩ hi h0 hl]⟩
    · rw [if_neg hi]
      have : i = homes.length := by omega
      subst this
      exact ⟨true, bk, rfl, fun _ => ⟨hs, fun _ _ _ _ => rfl⟩, by simp [hs.places ha]⟩
theorem all_ok {B : Int} {homes : List (List Int)} {fixed : List Bool} (hh : HomesOK B homes) (hf : (fixed.length : Int) = B) (hB : B ≤ 1000) (hn : (homes.length : Int) ≤ 100000) {a : Int} (ha : 0 ≤ a ∧ a ≤ homes.length) {bk : Bk} (hs : Stand B homes fixed a a bk) :
    ∃ r bk', cuckoo_placing_all (homes, bk, fixed) a = some (r, bk') ∧ (r = true → Stand B homes fixed a homes.length bk' ∧ ∀ b, 0 ≤ b → b < B → at' false fixed b = true → at' (-1) bk' b = at' (-1) bk b) ∧ (r = true ↔ Placeable homes fixed a) := by
  unfold cuckoo_placing_all
  exact all_L B homes fixed hh hf hB hn a ha.1 big a bk (Int.le_refl _) ha.2 (by simp only [big]; omega) hs
end Go.Proofs.YtfcicopgdahmcaaGreatDoor
namespace Go.Proofs.YtfcicopgdahmcaaGreatDoor
set_option linter.unusedVariables false
structure Fst (B : Int) (homes : List (List Int)) (fixed : List Bool) (i : Int) (bk : Bk) : Prop where
  ok : BkOK B homes bk
  len : (fixed.length : Int) = B
  le : ∀ j, 0 ≤ j → bk.count j ≤ 1
  fix : ∀ b, 0 ≤ b → b < B → (at' false fixed b = true ↔ 0 ≤ at' (-1) bk b)
  lt : ∀ b, 0 ≤ b → b < B → at' (-1) bk b < i
theorem Fst.stand {B : Int} {homes : List (List Int)} {fixed : List Bool} {i : Int} {bk : Bk} (h : Fst B homes fixed i bk) : Stand B homes fixed i i bk where
  ok := h.ok
  le := h.le
  one j h1 h2 := by omega
  none j hj := by
    rcases Nat.eq_zero_or_pos (bk.count j) with h0 | h0
    · exact h0
    · obtain ⟨b, b0, bB, e⟩ := at_of_mem (-1) (List.count_pos_iff.1 h0)
      have := h.lt b b0 (by rw [← h.ok.1]; exact bB)
      omega
  free b b0 bB hf hb := by have := (h.fix b b0 bB).2 hb; rw [hf] at this; cases this
  fix b b0 bB _ := h.lt b b0 bB
theorem set_at {α : Type} (d : α) {l : List α} {b : Int} {y : α} (h0 : 0 ≤ b) (h1 : b < l.length) (h : at' d l b = y) : l.set b.toNat y = l := by
  have hlt : b.toNat < l.length := by omega
  have : l[b.toNat] = y := by
    rw [← h]; unfold at'; rw [List.getD_eq_getElem?_getD, List.getElem?_eq_getElem hlt]; rfl
  rw [← this]; exact List.set_getElem_self hlt
theorem rest_loop {B : Int} {homes : List (List Int)} {fixed : List Bool} {i : Int} {bk : Bk} (h : Fst B homes fixed i bk) (kx : List Int → Option Bool) : ∀ (xs : List Int) (n : Nat), bk.drop n = xs → cuckoo_placing_rest_L2 kx fixed xs n bk = kx bk
  | [], n, _ => rfl
  | x :: xs, n, hd => by
    have hn : n < bk.length := by
      rcases Nat.lt_or_ge n bk.length with h | h
      · exact h
      · rw [List.drop_eq_nil_of_le h] at hd; cases hd
    have hd' : bk.drop (n + 1) = xs := by rw [← List.drop_drop, hd]; rfl
    have hb := h.ok.1
    have hl := h.len
    rw [cuckoo_placing_rest_L2]
    unfold cuckoo_placing_rest_B2
    rw [at_idx false (by omega) (by omega)]
    simp only [Option.bind_some]
    by_cases hf : at' false fixed (n : Int) = true
    · rw [hf]; simp only [Bool.not_true, Bool.false_eq_true, if_false]
      exact rest_loop h kx xs (n + 1) hd'
    · have hf' : at' false fixed (n : Int) = false := by simpa using hf
      rw [hf']; simp only [Bool.not_false, if_true]
      have hneg : at' (-1) bk (n : Int) = -1 := by
        have h1 : ¬ 0 ≤ at' (-1) bk (n : Int) := fun hh => hf ((h.fix n (by omega) (by omega)).2 hh)
        have h2 := (h.ok.2 _ (at_mem (-1) (l := bk) (b := (n : Int)) (by omega) (by omega))).1
        omega
      rw [at_idx (-1) (by omega) (by omega), lupd_ok (by omega) (by omega)]
      simp only [Option.bind_some]
      rw [set_at (-1) (by omega) (by omega) hneg]
      exact rest_loop h kx xs (n + 1) hd'
theorem rest_ok {B : Int} {homes : List (List Int)} {fixed : List Bool} {i : Int} {bk : Bk} (hh : HomesOK B homes) (hB : B ≤ 1000) (hn : (homes.length : Int) ≤ 100000) (hi : 0 ≤ i ∧ i ≤ homes.length) (h : Fst B homes fixed i bk) :
    ∃ r, cuckoo_placing_rest (homes, bk, fixed) i = some r ∧ (r = true ↔ Placeable homes fixed i) := by
  obtain ⟨r, bk', e, _, h2⟩ := all_ok hh h.len hB hn hi h.stand
  refine ⟨r, ?_, h2⟩
  have hb := h.ok.1
  unfold cuckoo_placing_rest slices_Clone_Lintint
  rw [lapp_ok (by simp; omega)]
  simp only [Option.bind_some, List.nil_append]
  rw [rest_loop h _ bk 0 rfl]
  unfold cuckoo_placing_rest_J1
  rw [e]; rfl
theorem Fst.take {B : Int} {homes : List (List Int)} {fixed : List Bool} {i b : Int} {bk : Bk} (h : Fst B homes fixed i bk) (hi : 0 ≤ i ∧ i < homes.length) (hb : 0 ≤ b ∧ b < B) (hf : at' false fixed b = false) : Fst B homes (fixed.set b.toNat true) (i + 1) (bk.set b.toNat i) := by
  have hbl : b < bk.length := by rw [h.ok.1]; exact hb.2
  have hfl : b < fixed.length := by rw [h.len]; exact hb.2
  have hneg : ¬ 0 ≤ at' (-1) bk b := fun hh => by have := (h.fix b hb.1 hb.2).2 hh; rw [hf] at this; cases this
  refine ⟨⟨by simpa using h.ok.1, fun v hv => ?_⟩, by simpa using h.len, fun j hj => ?_, fun c c0 cB => ?_, fun c c0 cB => ?_⟩
  · rcases List.mem_or_eq_of_mem_set hv with h1 | rfl
    · exact h.ok.2 v h1
    · omega
  · have h1 := count_set' (-1) j i hb.1 hbl
    rw [if_neg (by omega : ¬ at' (-1) bk b = j)] at h1
    by_cases he : i = j
    · rw [if_pos he] at h1
      have := h.stand.none j (by omega)
      omega
    · rw [if_neg he] at h1; have := h.le j hj; omega
  · rw [at_set false hb.1 hfl c0, at_set (-1) hb.1 hbl c0]
    by_cases he : c = b
    · rw [if_pos he, if_pos he]; simp; exact hi.1
    · rw [if_neg he, if_neg he]; exact h.fix c c0 cB
  · rw [at_set (-1) hb.1 hbl c0]; split
    · omega
    · have := h.lt c c0 cB; omega
theorem Placeable.step {homes : List (List Int)} {fixed : List Bool} {i : Int} {B : Int} (hh : HomesOK B homes) (hf : (fixed.length : Int) = B) (hi : 0 ≤ i ∧ i < homes.length) :
    Placeable homes fixed i ↔ ∃ b ∈ at' [] homes i, at' false fixed b = false ∧ Placeable homes (fixed.set b.toNat true) (i + 1) := by
  constructor
  · rintro ⟨f, h1, h2⟩
    obtain ⟨hm, hfr⟩ := h1 i (Int.le_refl _) hi.2
    obtain ⟨b0, bB⟩ := hh _ (at_mem [] hi.1 hi.2) _ hm
    refine ⟨f i, hm, hfr, f, fun j hj hn => ?_, fun j k hj hn hk hkn e => h2 j k (by omega) hn (by omega) hkn e⟩
    obtain ⟨hm2, hfr2⟩ := h1 j (by omega) hn
    obtain ⟨c0, cB⟩ := hh _ (at_mem [] (by omega) hn) _ hm2
    refine ⟨hm2, ?_⟩
    rw [at_set false b0 (by omega) c0, if_neg]
    · exact hfr2
    · intro e; have := h2 j i (by omega) hn (Int.le_refl _) hi.2 e; omega
  · rintro ⟨b, hm, hfr, f, h1, h2⟩
    obtain ⟨b0, bB⟩ := hh _ (at_mem [] hi.1 hi.2) _ hm
    have hne : ∀ j, i + 1 ≤ j → j < homes.length → f j ≠ b := fun j hj hn e => by
      obtain ⟨hm2, hfr2⟩ := h1 j hj hn
      rw [e, at_set false b0 (by omega) b0, if_pos rfl] at hfr2; cases hfr2
    refine ⟨fun j => if j = i then b else f j, fun j hj hn => ?_, fun j k hj hn hk hkn e => ?_⟩
    · by_cases he : j = i
      · subst he; simp only [if_true]; exact ⟨hm, hfr⟩
      · simp only [if_neg he]
        obtain ⟨hm2, hfr2⟩ := h1 j (by omega) hn
        obtain ⟨c0, cB⟩ := hh _ (at_mem [] (by omega) hn) _ hm2
        rw [at_set false b0 (by omega) c0, if_neg (hne j (by omega) hn)] at hfr2
        exact ⟨hm2, hfr2⟩
    · by_cases he : j = i <;> by_cases hek : k = i
      · omega
      · simp only [he, if_true, if_neg hek] at e; exact absurd e.symm (hne k (by omega) hkn)
      · simp only [hek, if_true, if_neg he] at e; exact absurd e (hne j (by omega) hn)
      · simp only [if_neg he, if_neg hek] at e; exact h2 j k (by omega) hn (by omega) hkn e
def Greedy (homes : List (List Int)) : Int → List (List Int) → List Bool → Bk → Prop
  | _, [], _, _ => True
  | i, h :: hs, fixed, bk => ∃ pre b post, h = pre ++ b :: post ∧ at' false fixed b = false ∧ at' (-1) bk b = i ∧ (∀ c ∈ pre, at' false fixed c = true ∨ ¬ Placeable homes (fixed.set c.toNat true) (i + 1)) ∧
    Placeable homes (fixed.set b.toNat true) (i + 1) ∧ Greedy homes (i + 1) hs (fixed.set b.toNat true) bk
theorem first_L1 {B : Int} {homes : List (List Int)} (hh : HomesOK B homes) (hB : B ≤ 1000) (hn : (homes.length : Int) ≤ 100000) (i : Int) (hi : 0 ≤ i ∧ i < homes.length) (rec : List Int → List Bool → Option (Bool × List Int × List Bool)) {fixed : List Bool} {bk : Bk} (h : Fst B homes fixed i bk) :
    ∀ hs : List Int, (∀ b ∈ hs, 0 ≤ b ∧ b < B) →
      (cuckoo_placing_first_L1 rec i homes hs bk fixed = some (false, bk, fixed) ∧ ∀ c ∈ hs, at' false fixed c = true ∨ ¬ Placeable homes (fixed.set c.toNat true) (i + 1)) ∨
      ∃ pre b post, hs = pre ++ b :: post ∧ at' false fixed b = false ∧ (∀ c ∈ pre, at' false fixed c = true ∨ ¬ Placeable homes (fixed.set c.toNat true) (i + 1)) ∧ Placeable homes (fixed.set b.toNat true) (i + 1) ∧
        cuckoo_placing_first_L1 rec i homes hs bk fixed = rec (bk.set b.toNat i) (fixed.set b.toNat true)
  | [], _ => .inl ⟨rfl, by simp⟩
  | b :: hs, hr => by
    obtain ⟨b0, bB⟩ := hr b List.mem_cons_self
    have hbl : b < bk.length := by rw [h.ok.1]; exact bB
    have hfl : b < fixed.length := by rw [h.len]; exact bB
    have ih := first_L1 hh hB hn i hi rec h hs fun c hc => hr c (List.mem_cons_of_mem _ hc)
    have hskip : (at' false fixed b = true ∨ ¬ Placeable homes (fixed.set b.toNat true) (i + 1)) → cuckoo_placing_first_L1 rec i homes (b :: hs) bk fixed = cuckoo_placing_first_L1 rec i homes hs bk fixed →
        (cuckoo_placing_first_L1 rec i homes (b :: hs) bk fixed = some (false, bk, fixed) ∧ ∀ c ∈ b :: hs, at' false fixed c = true ∨ ¬ Placeable homes (fixed.set c.toNat true) (i + 1)) ∨
      ∃ pre b' post, b :: hs = pre ++ b' :: post ∧ at' false fixed b' = false ∧ (∀ c ∈ pre, at' false fixed c = true ∨ ¬ Placeable homes (fixed.set c.toNat true) (i + 1)) ∧ Placeable homes (fixed.set b'.toNat true) (i + 1) ∧
        cuckoo_placing_first_L1 rec i homes (b :: hs) bk fixed = rec (bk.set b'.toNat i) (fixed.set b'.toNat true) := fun hno e => by
      rw [e]
      rcases ih with ⟨h1, h2⟩ | ⟨pre, b', post, h1, h2, h3, h4, h5⟩
      · exact .inl ⟨h1, fun c hc => by rcases List.mem_cons.1 hc with rfl | hc; exact hno; exact h2 c hc⟩
      · exact .inr ⟨b :: pre, b', post, by rw [h1]; rfl, h2, fun c hc => by rcases List.mem_cons.1 hc with rfl | hc; exact hno; exact h3 c hc, h4, h5⟩
    by_cases hf : at' false fixed b = true
    · refine hskip (.inl hf) ?_
      rw [cuckoo_placing_first_L1]
      unfold cuckoo_placing_first_B1
      rw [at_idx false b0 hfl, hf]; simp only [Option.bind_some, if_true]
    · have hf' : at' false fixed b = false := by simpa using hf
      have hneg : at' (-1) bk b = -1 := by
        have h1 : ¬ 0 ≤ at' (-1) bk b := fun hh => hf ((h.fix b b0 bB).2 hh)
        have h2 := (h.ok.2 _ (at_mem (-1) b0 hbl)).1
        omega
      obtain ⟨r, e, hr2⟩ := rest_ok hh hB hn (i := i + 1) (by omega) (h.take hi ⟨b0, bB⟩ hf')
      have heq : cuckoo_placing_first_L1 rec i homes (b :: hs) bk fixed = if r = true then rec (bk.set b.toNat i) (fixed.set b.toNat true) else cuckoo_placing_first_L1 rec i homes hs bk fixed := by
        rw [cuckoo_placing_first_L1]
        unfold cuckoo_placing_first_B1
        rw [at_idx false b0 hfl, hf']
        simp only [Option.bind_some, Bool.false_eq_true, if_false]
        rw [lupd_ok b0 hfl, at_idx (-1) b0 hbl, lupd_ok b0 hbl]
        simp only [Option.bind_some]
        rw [w64_id (by omega) (by omega), e]
        simp only [Option.bind_some]
        rw [at_idx false b0 (by simpa using hfl), lupd_ok b0 (by simpa using hfl), at_idx (-1) b0 (by simpa using hbl), lupd_ok b0 (by simpa using hbl)]
        simp only [Option.bind_some, List.set_set]
        rw [set_at false b0 hfl hf', set_at (-1) b0 hbl hneg]
      cases r with
      | true => rw [if_pos rfl] at heq; exact .inr ⟨[], b, hs, rfl, hf', by simp, hr2.1 rfl, heq⟩
      | false => rw [if_neg (by simp)] at heq; exact hskip (.inr fun hp => by have := hr2.2 hp; cases this) heq
theorem first_L2 {B : Int} {homes : List (List Int)} (hh : HomesOK B homes) (hB : B ≤ 1000) (hn : (homes.length : Int) ≤ 100000) : ∀ (hs : List (List Int)) (n : Nat) (fixed : List Bool) (bk : Bk), homes.drop n = hs → Fst B homes fixed n bk → n ≤ homes.length →
    ∃ r bk' fixed', cuckoo_placing_first_L2 homes hs n bk fixed = some (r, bk', fixed') ∧ (r = true ↔ Placeable homes fixed n) ∧ (r = true → Fst B homes fixed' homes.length bk' ∧ (∀ b, 0 ≤ b → b < B → at' false fixed b = true → at' (-1) bk' b = at' (-1) bk b) ∧ Greedy homes n hs fixed bk')
  | [], n, fixed, bk, hd, h, hle => by
    have : homes.length ≤ n := List.drop_eq_nil_iff.1 hd
    have e : n = homes.length := by omega
    subst e
    exact ⟨true, bk, fixed, rfl, by simp; exact h.stand.places (by omega), fun _ => ⟨h, fun _ _ _ _ => rfl, trivial⟩⟩
  | l :: hs, n, fixed, bk, hd, h, hle => by
    have hlt : n < homes.length := by
      rcases Nat.lt_or_ge n homes.length with h | h
      · exact h
      · rw [List.drop_eq_nil_of_le h] at hd; cases hd
    have hd' : homes.drop (n + 1) = hs := by rw [← List.drop_drop, hd]; rfl
    have hl : at' [] homes (n : Int) = l := by
      unfold at'
      rw [Int.toNat_natCast, List.getD_eq_getElem?_getD, List.getElem?_eq_getElem hlt]
      rw [List.drop_eq_getElem_cons hlt] at hd
      exact (List.cons.inj hd).1
    have hi : 0 ≤ (n : Int) ∧ (n : Int) < homes.length := ⟨by omega, by omega⟩
    have hlr : ∀ b ∈ l, 0 ≤ b ∧ b < B := hl ▸ hh _ (at_mem [] hi.1 hi.2)
    rw [cuckoo_placing_first_L2]
    unfold cuckoo_placing_first_B2
    have hst := Placeable.step hh h.len hi
    rw [hl] at hst
    rcases first_L1 hh hB hn n hi (cuckoo_placing_first_L2 homes hs (n + 1)) h l hlr with ⟨h1, h2⟩ | ⟨pre, b, post, h1, h2, h3, h4, h5⟩
    · refine ⟨false, bk, fixed, h1, ?_, by simp⟩
      rw [hst]
      simp only [Bool.false_eq_true, false_iff, not_exists, not_and]
      intro b hb hf hp
      rcases h2 b hb with h | h
      · rw [hf] at h; cases h
      · exact h hp
    · obtain ⟨b0, bB⟩ := hlr b (by rw [h1]; simp)
      have hfl : b < fixed.length := by rw [h.len]; exact bB
      have ht := h.take hi ⟨b0, bB⟩ h2
      obtain ⟨r, bk', fixed', e, g1, g2⟩ := first_L2 hh hB hn hs (n + 1) (fixed.set b.toNat true) (bk.set b.toNat (n : Int)) hd' (by exact_mod_cast ht) (by omega)
      have hp : Placeable homes (fixed.set b.toNat true) ((n + 1 : Nat) : Int) := by exact_mod_cast h4
      have hr := g1.2 hp
      refine ⟨r, bk', fixed', by rw [h5]; exact e, ⟨fun _ => hst.2 ⟨b, by rw [h1]; simp, h2, h4⟩, fun _ => hr⟩, fun hr => ?_⟩
      obtain ⟨k1, k2, k3⟩ := g2 hr
      have hbl : b < bk.length := by rw [h.ok.1]; exact bB
      refine ⟨k1, fun c c0 cB hc => ?_, pre, b, post, h1, h2, ?_, h3, h4, by exact_mod_cast k3⟩
      · have hcb : c ≠ b := fun e => by subst e; rw [h2] at hc; cases hc
        rw [k2 c c0 cB (by rw [at_set false b0 hfl c0, if_neg hcb]; exact hc), at_set (-1) b0 hbl c0, if_neg hcb]
      · rw [k2 b b0 bB (by rw [at_set false b0 hfl b0, if_pos rfl]), at_set (-1) b0 hbl b0, if_pos rfl]
end Go.Proofs.YtfcicopgdahmcaaGreatDoor
namespace Go.Proofs.YtfcicopgdahmcaaGreatDoor
set_option linter.unusedVariables false
def toL (v : Int) : List Int := if v < 0 then [] else [v]
structure Rel (B : Int) (fixed : List Bool) (used : List Int) (bk : Bk) (inn : List (List Int)) : Prop where
  ul : (used.length : Int) = B
  il : (inn.length : Int) = B
  u : ∀ b, 0 ≤ b → b < B → at' 0 used b = if at' false fixed b = true then 1 else 0
  n : ∀ b, 0 ≤ b → b < B → at' [] inn b = if at' false fixed b = true then [] else toL (at' (-1) bk b)
def SeenR (B : Int) (fixed s t : List Bool) : Prop := (t.length : Int) = B ∧ ∀ b, 0 ≤ b → b < B → at' false fixed b = false → at' false t b = at' false s b
theorem SeenR.set {B : Int} {fixed s t : List Bool} (h : SeenR B fixed s t) {b : Int} (hb : 0 ≤ b ∧ b < B) (hs : (s.length : Int) = B) : SeenR B fixed (s.set b.toNat true) (t.set b.toNat true) :=
  ⟨by simpa using h.1, fun c c0 cB hf => by rw [at_set false hb.1 (by rw [h.1]; exact hb.2) c0, at_set false hb.1 (by rw [hs]; exact hb.2) c0, h.2 c c0 cB hf]⟩
theorem Rel.set {B : Int} {fixed : List Bool} {used : List Int} {bk : Bk} {inn : List (List Int)} (h : Rel B fixed used bk inn) (hbl : (bk.length : Int) = B) {b i : Int} (hb : 0 ≤ b ∧ b < B) (hf : at' false fixed b = false) (hi : 0 ≤ i) : Rel B fixed used (bk.set b.toNat i) (inn.set b.toNat [i]) :=
  ⟨h.ul, by simpa using h.il, h.u, fun c c0 cB => by
    rw [at_set [] hb.1 (by rw [h.il]; exact hb.2) c0, at_set (-1) hb.1 (by omega) c0]
    by_cases e : c = b
    · subst e; rw [if_pos rfl, if_pos rfl, hf]; simp [toL]; omega
    · rw [if_neg e, if_neg e]; exact h.n c c0 cB⟩
end Go.Proofs.YtfcicopgdahmcaaGreatDoor
namespace Go.Proofs.YtfcicopgdahmcaaGreatDoor
set_option linter.unusedVariables false
def UsedOf (B : Int) (fixed : List Bool) (used : List Int) : Prop := (used.length : Int) = B ∧ (fixed.length : Int) = B ∧ ∀ b, 0 ≤ b → b < B → at' 0 used b = if at' false fixed b = true then 1 else 0
theorem at_rep {α : Type} (d x : α) {n : Nat} {b : Int} (h0 : 0 ≤ b) (h1 : b < n) : at' d (List.replicate n x) b = x := by
  unfold at'; rw [List.getD_eq_getElem?_getD, List.getElem?_replicate, if_pos (by omega)]; rfl
theorem UsedOf.take {B : Int} {fixed : List Bool} {used : List Int} (h : UsedOf B fixed used) {b : Int} (hb : 0 ≤ b ∧ b < B) : UsedOf B (fixed.set b.toNat true) (used.set b.toNat 1) :=
  ⟨by simpa using h.1, by simpa using h.2.1, fun c c0 cB => by
    rw [at_set 0 hb.1 (by rw [h.1]; exact hb.2) c0, at_set false hb.1 (by rw [h.2.1]; exact hb.2) c0]
    by_cases e : c = b
    · rw [if_pos e, if_pos e]; rfl
    · rw [if_neg e, if_neg e]; exact h.2.2 c c0 cB⟩
end Go.Proofs.YtfcicopgdahmcaaGreatDoor
namespace Go.Proofs.YtfcicopgdahmcaaGreatDoor
set_option linter.unusedVariables false
abbrev Hsh := Int × List (Int × Int)
def PairOK (p : Int × Int) : Prop := 0 ≤ p.1 ∧ p.1 < 2147483647 ∧ 0 ≤ p.2 ∧ p.2 < 2147483647
def HshOK (h : Hsh) : Prop := 1 ≤ h.1 ∧ h.1 ≤ 64 ∧ 1 ≤ h.2.length ∧ h.2.length ≤ 4 ∧ ∀ p ∈ h.2, PairOK p
def ItemOK (n : Int) : Prop := 0 ≤ n ∧ n < 2147483647
def homeL (h : Hsh) (n : Int) : List Int := h.2.map fun p => (p.1 * n + p.2) % 2147483647 % h.1
theorem check_L : ∀ ps : List (Int × Int), (cuckoo_Check_L1 ps = some 0 ∧ ∀ p ∈ ps, PairOK p) ∨ (cuckoo_Check_L1 ps = some 2 ∧ ¬ ∀ p ∈ ps, PairOK p)
  | [] => .inl ⟨rfl, by simp⟩
  | p :: ps => by
    rw [cuckoo_Check_L1]
    unfold cuckoo_Check_B1
    split
    · rename_i h
      refine .inr ⟨rfl, fun ha => ?_⟩
      have := ha p List.mem_cons_self
      unfold PairOK at this; omega
    · rename_i h
      have hp : PairOK p := by unfold PairOK; omega
      rcases check_L ps with ⟨e, h1⟩ | ⟨e, h1⟩
      · exact .inl ⟨e, fun q hq => by rcases List.mem_cons.1 hq with rfl | hq; exact hp; exact h1 q hq⟩
      · exact .inr ⟨e, fun ha => h1 fun q hq => ha q (List.mem_cons_of_mem _ hq)⟩
theorem check_ok (h : Hsh) : (cuckoo_Check h = some 0 ∧ HshOK h) ∨ (cuckoo_Check h = some 2 ∧ ¬ HshOK h) := by
  unfold cuckoo_Check
  split
  · rename_i hh
    refine .inr ⟨rfl, fun ha => ?_⟩
    unfold HshOK at ha; omega
  · rename_i hh
    rcases check_L h.2 with ⟨e, h1⟩ | ⟨e, h1⟩
    · exact .inl ⟨e, by omega, by omega, by omega, by omega, h1⟩
    · exact .inr ⟨e, fun ha => h1 ha.2.2.2.2⟩
theorem home_at {a b n B : Int} (ha : PairOK (a, b)) (hn : ItemOK n) (hB : 1 ≤ B) : Int.tmod (Int.tmod (w64 ((w64 (a * n)) + b)) 2147483647) B = (a * n + b) % 2147483647 % B := by
  unfold PairOK at ha; unfold ItemOK at hn
  dsimp only at ha
  have h1 : 0 ≤ a * n := Int.mul_nonneg ha.1 hn.1
  have h2 : a * n ≤ 2147483647 * 2147483647 := Int.mul_le_mul (by omega) (by omega) hn.1 (by omega)
  have e1 : (a * n + b).tmod 2147483647 = (a * n + b) % 2147483647 := Int.tmod_eq_emod_of_nonneg (by omega)
  rw [w64_id (x := a * n) (by omega) (by omega), w64_id (by omega) (by omega), e1, Int.tmod_eq_emod_of_nonneg (Int.emod_nonneg _ (by omega))]
theorem homes_L {B n : Int} (hB : 1 ≤ B) (hn : ItemOK n) : ∀ (ps : List (Int × Int)) (acc : List Int), (∀ p ∈ ps, PairOK p) → acc.length + ps.length ≤ 100 → cuckoo_homes_L1 n B ps acc = some (acc ++ ps.map fun p => (p.1 * n + p.2) % 2147483647 % B)
  | [], acc, _, _ => by simp [cuckoo_homes_L1]
  | p :: ps, acc, hp, hl => by
    rw [cuckoo_homes_L1]
    unfold cuckoo_homes_B1
    simp only [List.length_cons] at hl
    rw [nz_ok (by omega), lapp_ok (by simp; omega)]
    simp only [Option.bind_some]
    rw [homes_L hB hn ps _ (fun q hq => hp q (List.mem_cons_of_mem _ hq)) (by simp; omega), home_at (hp p List.mem_cons_self) hn hB]
    simp
theorem homes_ok {h : Hsh} (hk : HshOK h) {n : Int} (hn : ItemOK n) : cuckoo_homes h n = some (homeL h n) := by
  unfold cuckoo_homes
  have h4 := hk.2.2.2.1
  rw [homes_L hk.1 hn h.2 [] hk.2.2.2.2 (by simp; omega)]
  rfl
theorem homeL_range {h : Hsh} (hk : HshOK h) (n : Int) : ∀ b ∈ homeL h n, 0 ≤ b ∧ b < h.1 := fun b hb => by
  obtain ⟨p, _, rfl⟩ := List.mem_map.1 hb
  have := hk.1
  exact ⟨Int.emod_nonneg _ (by omega), Int.emod_lt_of_pos _ (by omega)⟩
theorem homesOK {h : Hsh} (hk : HshOK h) (l : List Int) : HomesOK h.1 (l.map (homeL h)) := fun x hx b hb => by
  obtain ⟨n, _, rfl⟩ := List.mem_map.1 hx
  exact homeL_range hk n b hb
theorem ask_L : ∀ (l : List Int) (i : Nat), (∃ r : Int, slices_IndexFunc_Lintint_L1 cuckoo_asked_f1 l i = some r ∧ (0 ≤ r ↔ ∃ n ∈ l, ¬ ItemOK n))
  | [], i => ⟨-1, rfl, by simp⟩
  | n :: l, i => by
    rw [slices_IndexFunc_Lintint_L1]
    unfold slices_IndexFunc_Lintint_B1 cuckoo_asked_f1 cuckoo_item
    simp only [Option.bind_some]
    by_cases hn : ItemOK n
    · have hd : (decide ((0 ≤ n) ∧ (n < 2147483647))) = true := decide_eq_true hn
      rw [hd]
      simp only [Bool.not_true, Bool.false_eq_true, if_false]
      obtain ⟨r, e, h⟩ := ask_L l (i + 1)
      refine ⟨r, e, h.trans ⟨fun ⟨m, hm, h⟩ => ⟨m, List.mem_cons_of_mem _ hm, h⟩, fun ⟨m, hm, h⟩ => ?_⟩⟩
      rcases List.mem_cons.1 hm with rfl | hm
      · exact absurd hn h
      · exact ⟨m, hm, h⟩
    · have hd : (decide ((0 ≤ n) ∧ (n < 2147483647))) = false := decide_eq_false hn
      rw [hd]
      simp only [Bool.not_false, if_true]
      exact ⟨i, rfl, fun _ => ⟨n, List.mem_cons_self, hn⟩, fun _ => by omega⟩
theorem asked_ok (h : Hsh) (l : List Int) : (cuckoo_asked h l = some 2 ∧ ¬ HshOK h) ∨ (cuckoo_asked h l = some 1 ∧ HshOK h ∧ ∃ n ∈ l, ¬ ItemOK n) ∨ (cuckoo_asked h l = some 0 ∧ HshOK h ∧ ∀ n ∈ l, ItemOK n) := by
  unfold cuckoo_asked
  rcases check_ok h with ⟨e, hk⟩ | ⟨e, hk⟩
  · rw [e]
    simp only [Option.bind_some]
    rw [if_neg (by simp)]
    unfold slices_ContainsFunc_Lintint slices_IndexFunc_Lintint
    obtain ⟨r, e2, h2⟩ := ask_L l 0
    rw [e2]
    simp only [Option.bind_some]
    by_cases hr : 0 ≤ r
    · rw [if_pos (decide_eq_true hr)]; exact .inr (.inl ⟨rfl, hk, h2.1 hr⟩)
    · rw [if_neg (by simp [hr])]
      refine .inr (.inr ⟨rfl, hk, fun n hn => ?_⟩)
      rcases Classical.em (ItemOK n) with h | h
      · exact h
      · exact absurd (h2.2 ⟨n, hn, h⟩) hr
  · rw [e]
    simp only [Option.bind_some]
    rw [if_pos (by simp)]
    exact .inl ⟨rfl, hk⟩
theorem start_L {h : Hsh} (hk : HshOK h) (bk : List Int) (fx : List Bool) : ∀ (l : List Int) (acc : List (List Int)), (∀ n ∈ l, ItemOK n) → acc.length + l.length ≤ 16777216 → cuckoo_start_L1 h.1 h.2 bk fx l acc = some (acc ++ l.map (homeL h), bk, fx)
  | [], acc, _, _ => by simp [cuckoo_start_L1]
  | n :: l, acc, hn, hl => by
    rw [cuckoo_start_L1]
    unfold cuckoo_start_B1
    simp only [List.length_cons] at hl
    rw [homes_ok (h := (h.1, h.2)) hk (hn n List.mem_cons_self)]
    simp only [Option.bind_some]
    rw [lapp_ok (by simp; omega)]
    simp only [Option.bind_some]
    rw [start_L hk bk fx l _ (fun m hm => hn m (List.mem_cons_of_mem _ hm)) (by simp; omega)]
    simp
theorem start_L3 (kx : List Int → Int → Option (List (List Int) × List Int × List Bool)) (z : Int) : ∀ (xs : List Int) (n N : Nat), n + xs.length = N → cuckoo_start_L3 kx z xs n (List.replicate n (-1) ++ xs) = kx (List.replicate N (-1)) z
  | [], n, N, h => by simp at h; subst h; simp [cuckoo_start_L3]
  | x :: xs, n, N, h => by
    rw [cuckoo_start_L3]
    unfold cuckoo_start_B3
    simp only [List.length_cons] at h
    rw [at_idx (-1) (by omega) (by simp; omega), lupd_ok (by omega) (by simp; omega)]
    simp only [Option.bind_some]
    have e : (List.replicate n (-1 : Int) ++ x :: xs).set (n : Int).toNat (-1) = List.replicate (n + 1) (-1) ++ xs := by
      rw [Int.toNat_natCast, List.set_append_right _ _ (by simp)]
      simp [List.replicate_succ']
    rw [e]
    exact start_L3 kx z xs (n + 1) N (by omega)
theorem start_ok {h : Hsh} (hk : HshOK h) {l : List Int} (hl : ∀ n ∈ l, ItemOK n) (hlen : l.length ≤ 16777216) : cuckoo_start h l = some (l.map (homeL h), List.replicate h.1.toNat (-1), List.replicate h.1.toNat false) := by
  unfold cuckoo_start
  have h1 := hk.1; have h2 := hk.2.1
  have hm0 : lmk h.1 (0 : Int) = some (List.replicate h.1.toNat 0) := by unfold lmk; rw [if_pos (by omega)]
  have hm1 : lmk h.1 false = some (List.replicate h.1.toNat false) := by unfold lmk; rw [if_pos (by omega)]
  rw [hm0, hm1]
  simp only [Option.bind_some]
  unfold cuckoo_start_J4
  have := start_L3 (cuckoo_start_J2 l h.2 (List.replicate h.1.toNat false)) h.1 (List.replicate h.1.toNat 0) 0 h.1.toNat (by simp)
  simp only [List.replicate_zero, List.nil_append] at this
  rw [this]
  unfold cuckoo_start_J2
  have := start_L hk (List.replicate h.1.toNat (-1)) (List.replicate h.1.toNat false) l [] hl (by simpa using hlen)
  simpa using this
end Go.Proofs.YtfcicopgdahmcaaGreatDoor
namespace Go.Proofs.YtfcicopgdahmcaaGreatDoor
set_option linter.unusedVariables false
def nofix (h : Hsh) : List Bool := List.replicate h.1.toNat false
theorem fst0 {h : Hsh} (hk : HshOK h) (homes : List (List Int)) : Fst h.1 homes (nofix h) 0 (List.replicate h.1.toNat (-1)) := by
  have h1 := hk.1
  refine ⟨⟨by simp; omega, fun v hv => by rw [(List.mem_replicate.1 hv).2]; omega⟩, by simp [nofix]; omega, fun j hj => by rw [List.count_replicate, if_neg (by simp; omega)]; omega, fun b b0 bB => ?_, fun b b0 bB => ?_⟩
  · unfold nofix; rw [at_rep _ _ b0 (by omega), at_rep _ _ b0 (by omega)]; simp
  · rw [at_rep _ _ b0 (by omega)]; omega
end Go.Proofs.YtfcicopgdahmcaaGreatDoor
namespace Go.Proofs.YtfcicopgdahmcaaGreatDoor
set_option maxRecDepth 100000
end Go.Proofs.YtfcicopgdahmcaaGreatDoor
namespace Go.Proofs.YtfcicopgdahmcaaGreatDoor
set_option linter.unusedVariables false
theorem hashing_L {l : List Int} (hl : l.length ≤ 1000) (z : Int) : ∀ (m fuel : Nat) (d : List Int × Int) (ps : List (Int × Int)), m < fuel → m ≤ 3 → ps.length + m ≤ 100 → Dk l d → (∀ p ∈ ps, PairOK p) →
    ∃ qs e, make_Hashing_L2 make_Hashing_J1 z fuel ((m : Int) - 1) d.1 d.2 ps = some ((z, qs), e) ∧ Dk l e ∧ qs.length = ps.length + m ∧ ∀ p ∈ qs, PairOK p
  | 0, fuel + 1, d, ps, _, _, _, hd, hp => by
    rw [make_Hashing_L2]
    unfold make_Hashing_B2
    rw [if_neg (by omega)]
    exact ⟨ps, (d.1, d.2), rfl, hd, by simp, hp⟩
  | m + 1, fuel + 1, d, ps, hf, hm, hps, hd, hp => by
    rw [make_Hashing_L2]
    unfold make_Hashing_B2
    rw [if_pos (by omega)]
    obtain ⟨v, e1, h1, a1, b1, c1⟩ := next_ok hl (d := (d.1, d.2)) hd (n := 1000) (by omega)
    rw [h1]
    simp only [Option.bind_some]
    obtain ⟨w, e2, h2, a2, b2, c2⟩ := next_ok hl c1 (n := 1000) (by omega)
    rw [h2]
    simp only [Option.bind_some]
    rw [lapp_ok (by simp; omega)]
    simp only [Option.bind_some]
    rw [w64_id (by omega) (by omega), show ((m + 1 : Nat) : Int) - 1 - 1 = (m : Int) - 1 from by omega]
    obtain ⟨qs, e, k1, k2, k3, k4⟩ := hashing_L hl z m fuel e2 (ps ++ [(v, w)]) (by omega) (by omega) (by rw [List.length_append, List.length_singleton]; omega) c2 (fun p hp' => by
      rcases List.mem_append.1 hp' with h | h
      · exact hp p h
      · rw [List.mem_singleton.1 h]; unfold PairOK; dsimp only; omega)
    exact ⟨qs, e, k1, k2, by rw [k3]; simp; omega, k4⟩
theorem hashing_ok {l : List Int} (hl : l.length ≤ 1000) {d : List Int × Int} (hd : Dk l d) : ∃ h e, make_Hashing d = some (h, e) ∧ HshOK h ∧ h.1 ≤ 8 ∧ Dk l e := by
  unfold make_Hashing
  obtain ⟨v, e1, h1, a1, b1, c1⟩ := next_ok hl hd (n := 8) (by omega)
  rw [h1]
  simp only [Option.bind_some]
  obtain ⟨k, e2, h2, a2, b2, c2⟩ := next_ok hl c1 (n := 3) (by omega)
  rw [h2]
  simp only [Option.bind_some]
  rw [w64_id (by omega) (by omega)]
  obtain ⟨qs, e, k1, k2, k3, k4⟩ := hashing_L hl (1 + v) (k.toNat + 1) big e2 [] (by simp only [big]; omega) (by omega) (by simp; omega) c2 (by simp)
  rw [show (((k.toNat + 1 : Nat) : Int) - 1) = k from by omega] at k1
  exact ⟨(1 + v, qs), e, k1, ⟨by dsimp only; omega, by dsimp only; omega, by dsimp only; simp at k3; omega, by dsimp only; simp at k3; omega, k4⟩, by dsimp only; omega, k2⟩
end Go.Proofs.YtfcicopgdahmcaaGreatDoor
namespace Go.Proofs.YtfcicopgdahmcaaGreatDoor
set_option linter.unusedVariables false
def PlacesL (ls : List (List Int)) (fixed : List Bool) : Prop := ∃ ps : List (Int × List Int), ps.map (·.2) = ls ∧ (∀ p ∈ ps, p.1 ∈ p.2 ∧ at' false fixed p.1 = false) ∧ (ps.map (·.1)).Nodup
theorem perm_lift {α β : Type} (f : α → β) {l m : List β} (h : l.Perm m) : ∀ ps : List α, ps.map f = l → ∃ qs : List α, qs.Perm ps ∧ qs.map f = m := by
  induction h with
  | nil => intro ps hp; exact ⟨ps, List.Perm.refl _, hp⟩
  | cons x _ ih =>
    intro ps hp
    cases ps with
    | nil => simp at hp
    | cons p ps =>
      simp only [List.map_cons, List.cons.injEq] at hp
      obtain ⟨qs, h1, h2⟩ := ih ps hp.2
      exact ⟨p :: qs, h1.cons p, by simp [hp.1, h2]⟩
  | swap x y l =>
    intro ps hp
    cases ps with
    | nil => simp at hp
    | cons p ps =>
      cases ps with
      | nil => simp at hp
      | cons q ps =>
        simp only [List.map_cons, List.cons.injEq] at hp
        exact ⟨q :: p :: ps, List.Perm.swap p q ps, by simp [hp.1, hp.2.1, hp.2.2]⟩
  | trans _ _ ih1 ih2 =>
    intro ps hp
    obtain ⟨qs, h1, h2⟩ := ih1 ps hp
    obtain ⟨rs, h3, h4⟩ := ih2 qs h2
    exact ⟨rs, h3.trans h1, h4⟩
theorem PlacesL.perm {l m : List (List Int)} {fixed : List Bool} (h : l.Perm m) : PlacesL l fixed → PlacesL m fixed := by
  rintro ⟨ps, h1, h2, h3⟩
  obtain ⟨qs, k1, k2⟩ := perm_lift _ h ps h1
  exact ⟨qs, k2, fun p hp => h2 p (k1.mem_iff.1 hp), (k1.map _).nodup_iff.2 h3⟩
theorem PlacesL.sub {l m : List (List Int)} {fixed : List Bool} (h : m.Sublist l) : PlacesL l fixed → PlacesL m fixed := by
  rintro ⟨ps, h1, h2, h3⟩
  subst h1
  obtain ⟨qs, k1, k2⟩ := List.sublist_map_iff.1 h
  exact ⟨qs, k2.symm, fun p hp => h2 p (k1.subset hp), h3.sublist (k1.map _)⟩
end Go.Proofs.YtfcicopgdahmcaaGreatDoor
namespace Go.Proofs.YtfcicopgdahmcaaGreatDoor
set_option linter.unusedVariables false
theorem index_L (x : Int) : ∀ (l : List Int) (i : Nat), ∃ r, slices_Index_Lintint_L1 x l i = some r ∧ (0 ≤ r ↔ x ∈ l)
  | [], i => ⟨-1, rfl, by simp⟩
  | y :: l, i => by
    rw [slices_Index_Lintint_L1]
    unfold slices_Index_Lintint_B1
    by_cases h : x = y
    · rw [if_pos h]; exact ⟨i, rfl, by simp [h]⟩
    · rw [if_neg h]
      obtain ⟨r, e, hr⟩ := index_L x l (i + 1)
      exact ⟨r, e, by rw [hr]; simp [h]⟩
theorem contains_ok (l : List Int) (x : Int) : ∃ r, slices_Contains_Lintint l x = some r ∧ (r = true ↔ x ∈ l) := by
  unfold slices_Contains_Lintint slices_Index_Lintint
  obtain ⟨r, e, hr⟩ := index_L x l 0
  rw [e]
  exact ⟨decide (0 ≤ r), rfl, by simp [hr]⟩
theorem indexb_L (x : Bool) : ∀ (l : List Bool) (i : Nat), ∃ r, slices_Index_Lboolbool_L1 x l i = some r ∧ (0 ≤ r ↔ x ∈ l)
  | [], i => ⟨-1, rfl, by simp⟩
  | y :: l, i => by
    rw [slices_Index_Lboolbool_L1]
    unfold slices_Index_Lboolbool_B1
    by_cases h : x = y
    · rw [if_pos h]; exact ⟨i, rfl, by simp [h]⟩
    · rw [if_neg h]
      obtain ⟨r, e, hr⟩ := indexb_L x l (i + 1)
      exact ⟨r, e, by rw [hr]; simp [h]⟩
theorem containsb_ok (l : List Bool) (x : Bool) : ∃ r, slices_Contains_Lboolbool l x = some r ∧ (r = true ↔ x ∈ l) := by
  unfold slices_Contains_Lboolbool slices_Index_Lboolbool
  obtain ⟨r, e, hr⟩ := indexb_L x l 0
  rw [e]
  exact ⟨decide (0 ≤ r), rfl, by simp [hr]⟩
theorem greedy_has {homes : List (List Int)} {bk : Bk} : ∀ (hs : List (List Int)) (i : Int) (fixed : List Bool), Greedy homes i hs fixed bk → ∀ k : Nat, k < hs.length → ∃ b ∈ hs.getD k [], at' (-1) bk b = i + k
  | [], i, fixed, _, k, h => by simp at h
  | l :: hs, i, fixed, ⟨pre, b, post, e1, f1, a1, n1, p1, g1⟩, k, hk => by
    cases k with
    | zero => exact ⟨b, by simp [e1], by simpa using a1⟩
    | succ k =>
      obtain ⟨c, h1, h2⟩ := greedy_has hs (i + 1) _ g1 k (by simpa using hk)
      exact ⟨c, by simpa using h1, by rw [h2]; push_cast; omega⟩
structure Asg (B : Int) (homes : List (List Int)) (bk : Bk) : Prop where
  ok : BkOK B homes bk
  le : ∀ j, 0 ≤ j → bk.count j ≤ 1
  has : ∀ j : Int, 0 ≤ j → j < homes.length → ∃ b, 0 ≤ b ∧ b < B ∧ b ∈ at' [] homes j ∧ at' (-1) bk b = j
theorem asg_of {B : Int} {homes : List (List Int)} (hh : HomesOK B homes) {fixed f0 : List Bool} {bk : Bk} {n : Int} (h : Fst B homes fixed n bk) (hg : Greedy homes 0 homes f0 bk) : Asg B homes bk := by
  refine ⟨h.ok, h.le, fun j h0 h1 => ?_⟩
  obtain ⟨b, hb, e⟩ := greedy_has homes 0 f0 hg j.toNat (by omega)
  have hb' : b ∈ at' [] homes j := hb
  have := hh _ (at_mem [] h0 h1) b hb'
  exact ⟨b, this.1, this.2, hb', by rw [e]; omega⟩
theorem Asg.edge {B : Int} {homes : List (List Int)} {bk : Bk} (h : Asg B homes bk) {b : Int} (b0 : 0 ≤ b) (bB : b < B) (hn : 0 ≤ at' (-1) bk b) : b ∈ at' [] homes (at' (-1) bk b) := by
  have hb := h.ok.1
  have hv := h.ok.2 _ (at_mem (-1) (l := bk) b0 (by omega))
  obtain ⟨c, c0, cB, hc, e⟩ := h.has _ hn hv.2
  by_cases hbc : b = c
  · rw [hbc] at e ⊢; rw [e]; rw [hbc] at hc; rw [e] at hc; exact hc
  · have := at_count (l := bk) ⟨b0, by omega⟩ ⟨c0, by omega⟩ rfl e hbc
    have := h.le _ hn
    omega
theorem fits_L {h : Hsh} (hk : HshOK h) {l : List Int} (hl : ∀ n ∈ l, ItemOK n) {bk : Bk} (ha : Asg h.1 (l.map (homeL h)) bk) (kx : List Bool → Int → Option Bool) : ∀ (xs : List Int) (i : Nat) (v : List Bool), bk.drop i = xs → v.length = l.length → (∀ j : Int, 0 ≤ j → j < l.length → (at' false v j = true ↔ ∃ c : Int, 0 ≤ c ∧ c < i ∧ c < h.1 ∧ at' (-1) bk c = j)) →
    ∃ v', cuckoo_Fits_L2 kx l h.1 h.2 xs i v = kx v' h.1 ∧ v'.length = l.length ∧ ∀ j : Int, 0 ≤ j → j < l.length → at' false v' j = true
  | [], i, v, hd, hv, hs => by
    have hi : bk.length ≤ i := List.drop_eq_nil_iff.1 hd
    have hb := ha.ok.1
    refine ⟨v, rfl, hv, fun j h0 h1 => (hs j h0 h1).2 ?_⟩
    obtain ⟨b, b0, bB, _, e⟩ := ha.has j h0 (by simpa using h1)
    exact ⟨b, b0, by omega, bB, e⟩
  | x :: xs, i, v, hd, hv, hs => by
    have hi : i < bk.length := by
      rcases Nat.lt_or_ge i bk.length with h | h
      · exact h
      · rw [List.drop_eq_nil_of_le h] at hd; cases hd
    have hd' : bk.drop (i + 1) = xs := by rw [← List.drop_drop, hd]; rfl
    have hx : at' (-1) bk (i : Int) = x := by
      unfold at'
      rw [Int.toNat_natCast, List.getD_eq_getElem?_getD, List.getElem?_eq_getElem hi]
      rw [List.drop_eq_getElem_cons hi] at hd
      exact (List.cons.inj hd).1
    have hb := ha.ok.1
    have hv2 := ha.ok.2 _ (at_mem (-1) (l := bk) (b := (i : Int)) (by omega) (by omega))
    rw [hx] at hv2
    rw [cuckoo_Fits_L2]
    unfold cuckoo_Fits_B2
    by_cases h1 : x = -1
    · rw [if_pos h1]
      refine fits_L hk hl ha kx xs (i + 1) v hd' hv fun j h0 hj => (hs j h0 hj).trans ⟨fun ⟨c, c0, ci, cB, e⟩ => ⟨c, c0, by omega, cB, e⟩, fun ⟨c, c0, ci, cB, e⟩ => ⟨c, c0, ?_, cB, e⟩⟩
      by_cases hc : c = i
      · subst hc; rw [hx] at e; omega
      · omega
    · rw [if_neg h1]
      have hln : x < l.length := by simpa using hv2.2
      have hx0 : 0 ≤ x := by omega
      rw [if_neg (by omega), at_idx false hx0 (by omega)]
      simp only [Option.bind_some]
      have hns : at' false v x = false := by
        rcases hq : at' false v x with _ | _
        · rfl
        · obtain ⟨c, c0, ci, cB, e⟩ := (hs x hx0 hln).1 hq
          have := at_count (l := bk) ⟨c0, by omega⟩ ⟨by omega, by omega⟩ e hx (by omega : c ≠ (i : Int))
          have := ha.le x hx0
          omega
      rw [hns]
      simp only [Bool.false_eq_true, if_false]
      have hit : at' 0 l x ∈ l := at_mem 0 hx0 hln
      rw [at_idx 0 hx0 hln]
      simp only [Option.bind_some]
      rw [homes_ok (h := (h.1, h.2)) hk (hl _ hit)]
      simp only [Option.bind_some]
      obtain ⟨r, e, hr⟩ := contains_ok (homeL (h.1, h.2) (at' 0 l x)) (i : Int)
      have hedge := ha.edge (b := (i : Int)) (by omega) (by omega) (by rw [hx]; exact hx0)
      rw [hx] at hedge
      have hm : at' [] (l.map (homeL h)) x = homeL h (at' 0 l x) := by
        unfold at'
        rw [List.getD_eq_getElem?_getD, List.getElem?_map, List.getD_eq_getElem?_getD, List.getElem?_eq_getElem (by omega)]; rfl
      rw [hm] at hedge
      have hrt : r = true := hr.2 hedge
      subst hrt
      rw [e]
      simp only [Option.bind_some, Bool.not_true, Bool.false_eq_true, if_false]
      rw [lupd_ok hx0 (by omega)]
      simp only [Option.bind_some]
      refine fits_L hk hl ha kx xs (i + 1) _ hd' (by simpa using hv) fun j h0 hj => ?_
      rw [at_set false hx0 (by omega) h0]
      by_cases hjx : j = x
      · rw [if_pos hjx]
        exact ⟨fun _ => ⟨i, by omega, by omega, by omega, by rw [hx, hjx]⟩, fun _ => rfl⟩
      · rw [if_neg hjx]
        refine (hs j h0 hj).trans ⟨fun ⟨c, c0, ci, cB, e⟩ => ⟨c, c0, by omega, cB, e⟩, fun ⟨c, c0, ci, cB, e⟩ => ⟨c, c0, ?_, cB, e⟩⟩
        by_cases hc : c = i
        · subst hc; rw [hx] at e; omega
        · omega
theorem fits_yes {h : Hsh} (hk : HshOK h) {l : List Int} (hl : ∀ n ∈ l, ItemOK n) (hlen : l.length ≤ 100000) {bk : Bk} (ha : Asg h.1 (l.map (homeL h)) bk) : cuckoo_Fits h l bk = some true := by
  unfold cuckoo_Fits
  rcases asked_ok h l with ⟨_, hc⟩ | ⟨_, _, n, hn, hc⟩ | ⟨e, _, _⟩
  · exact absurd hk hc
  · exact absurd (hl n hn) hc
  · rw [e]
    simp only [Option.bind_some]
    have hb := ha.ok.1
    have hm : lmk (l.length : Int) false = some (List.replicate l.length false) := by unfold lmk; rw [if_pos (by omega), Int.toNat_natCast]
    rw [if_neg (by omega), hm]
    simp only [Option.bind_some]
    obtain ⟨v', e2, h2, h3⟩ := fits_L hk hl ha cuckoo_Fits_J1 bk 0 (List.replicate l.length false) rfl (by simp) (fun j h0 hj => by
      rw [at_rep _ _ h0 (by omega)]
      constructor
      · intro h; cases h
      · rintro ⟨c, c0, ci, _⟩; omega)
    rw [e2]
    unfold cuckoo_Fits_J1
    obtain ⟨r, e3, hr⟩ := containsb_ok v' false
    rw [e3]
    have : r = false := by
      cases r with
      | false => rfl
      | true =>
        obtain ⟨b, b0, bl, hb2⟩ := at_of_mem false (hr.1 rfl)
        have := h3 b b0 (by omega)
        rw [hb2] at this; cases this
    rw [this]; rfl
end Go.Proofs.YtfcicopgdahmcaaGreatDoor
end

section
namespace Go.Proofs.YtfcicopgdahmcaaGreatDoor
set_option linter.unusedVariables false
theorem nodup_of_count : ∀ {l : List Int}, (∀ x, l.count x ≤ 1) → l.Nodup
  | [], _ => List.nodup_nil
  | x :: l, h => by
    refine List.nodup_cons.2 ⟨fun hm => ?_, nodup_of_count fun y => ?_⟩
    · have := h x
      rw [List.count_cons_self] at this
      have := List.count_pos_iff.2 hm
      omega
    · have := h y
      rw [List.count_cons] at this
      omega
theorem Asg.used {B : Int} {homes : List (List Int)} {bk : Bk} (h : Asg B homes bk) : (bk.filter fun x => decide (0 ≤ x)).length = homes.length := by
  have hn : (bk.filter fun x => decide (0 ≤ x)).Nodup := nodup_of_count fun x => by
    by_cases hx : 0 ≤ x
    · have h1 := (List.filter_sublist (p := fun x => decide (0 ≤ x)) (l := bk)).count_le x
      have := h.le x hx
      omega
    · have : (bk.filter fun x => decide (0 ≤ x)).count x = 0 := List.count_eq_zero.2 fun hm => by
        have := (List.mem_filter.1 hm).2
        simp at this; omega
      omega
  have hb := h.ok.1
  have h1 := pig hn (m := (List.range homes.length).map fun (i : Nat) => (i : Int)) fun x hx => by
    obtain ⟨h2, h3⟩ := List.mem_filter.1 hx
    have := (h.ok.2 x h2).2
    have h4 : 0 ≤ x := by simpa using h3
    exact List.mem_map.2 ⟨x.toNat, List.mem_range.2 (by omega), by omega⟩
  have h2 := pig (l := (List.range homes.length).map fun (i : Nat) => (i : Int)) (m := bk.filter fun x => decide (0 ≤ x)) (nodup_map List.nodup_range fun x _ y _ e => by omega) fun x hx => by
    obtain ⟨i, hi, rfl⟩ := List.mem_map.1 hx
    obtain ⟨b, b0, bB, _, e⟩ := h.has i (by omega) (by have := List.mem_range.1 hi; omega)
    refine List.mem_filter.2 ⟨?_, by simp⟩
    rw [← e]; exact at_mem (-1) b0 (by omega)
  simp at h1 h2
  omega
end Go.Proofs.YtfcicopgdahmcaaGreatDoor
end

section
namespace Go.Proofs.YtfcicopgdahmcaaGreatDoor
set_option linter.unusedVariables false
def combos : Nat → List Int → List (List Int)
  | 0, _ => [[]]
  | _ + 1, [] => []
  | k + 1, x :: l => (combos k l).map (x :: ·) ++ combos (k + 1) l
def rg : Nat → Nat → List Int
  | _, 0 => []
  | lo, n + 1 => (lo : Int) :: rg (lo + 1) n
theorem rg_len : ∀ (n lo : Nat), (rg lo n).length = n
  | 0, _ => rfl
  | n + 1, lo => by simp [rg, rg_len n]
theorem rg_mem : ∀ (n lo : Nat) (x : Int), x ∈ rg lo n ↔ lo ≤ x ∧ x < (lo : Int) + n
  | 0, lo, x => by simp [rg]
  | n + 1, lo, x => by
    simp only [rg, List.mem_cons, rg_mem n (lo + 1) x]
    omega
end Go.Proofs.YtfcicopgdahmcaaGreatDoor
end

section
namespace Go.Proofs.YtfcicopgdahmcaaGreatDoor
set_option linter.unusedVariables false
def ch : Nat → Nat → Nat
  | _, 0 => 1
  | 0, _ + 1 => 0
  | n + 1, k + 1 => ch n k + ch n (k + 1)
def after (items : Nat) : List Int → List (List Int)
  | [] => []
  | x :: s => (after items s).map (x :: ·) ++ combos (s.length + 1) (rg (x.toNat + 1) (items - (x.toNat + 1)))
theorem lidx_app {a b : List Int} {i : Int} (h : (a.length : Int) ≤ i) : lidx (a ++ b) i = lidx b (i - a.length) := by
  unfold lidx
  rw [if_pos (by omega), if_pos (by omega), List.getElem?_append_right (by omega)]
  congr 1; omega
theorem rg_snoc : ∀ (n lo : Nat), rg lo (n + 1) = rg lo n ++ [((lo + n : Nat) : Int)]
  | 0, lo => rfl
  | n + 1, lo => by
    rw [rg, rg_snoc n (lo + 1)]
    simp only [rg, List.cons_append]
    congr 3; omega
end Go.Proofs.YtfcicopgdahmcaaGreatDoor
end

section
namespace Go.Proofs.YtfcicopgdahmcaaGreatDoor
set_option linter.unusedVariables false
def layB (h : Hsh) (n : Nat) (b : Int) : List Int := (rg 0 n).filter fun i => decide (b ∈ homeL h i)
def lay (h : Hsh) (n : Nat) : List (List Int) := (rg 0 h.1.toNat).map (layB h n)
theorem at_map {α β : Type} (d : α) (e : β) (f : α → β) {l : List α} {i : Int} (h0 : 0 ≤ i) (h1 : i < l.length) : at' e (l.map f) i = f (at' d l i) := by
  unfold at'
  rw [List.getD_eq_getElem?_getD, List.getD_eq_getElem?_getD, List.getElem?_map, List.getElem?_eq_getElem (by omega : i.toNat < l.length)]; rfl
theorem getD_rg : ∀ (n lo k : Nat), k < n → (rg lo n).getD k 0 = ((lo + k : Nat) : Int)
  | n + 1, lo, 0, _ => by simp [rg]
  | n + 1, lo, k + 1, hk => by rw [rg, List.getD_cons_succ, getD_rg n (lo + 1) k (by omega)]; congr 1; omega
theorem at_rg {n lo : Nat} {i : Int} (h0 : 0 ≤ i) (h1 : i < n) : at' 0 (rg lo n) i = lo + i := by
  unfold at'
  rw [getD_rg n lo i.toNat (by omega)]
  omega
theorem lay_len (h : Hsh) (n : Nat) : (lay h n).length = h.1.toNat := by unfold lay; simp [rg_len]
theorem lay_at {h : Hsh} {n : Nat} {b : Int} (b0 : 0 ≤ b) (bB : b < h.1) : at' [] (lay h n) b = layB h n b := by
  unfold lay
  rw [at_map 0 [] _ b0 (by rw [rg_len]; omega), at_rg b0 (by omega)]
  simp
theorem ext_at {α : Type} (d : α) {l m : List α} (hl : l.length = m.length) (h : ∀ b : Int, 0 ≤ b → b < l.length → at' d l b = at' d m b) : l = m := by
  apply List.ext_getElem hl
  intro n h1 h2
  have := h n (by omega) (by omega)
  unfold at' at this
  rw [Int.toNat_natCast, List.getD_eq_getElem?_getD, List.getD_eq_getElem?_getD, List.getElem?_eq_getElem h1, List.getElem?_eq_getElem h2] at this
  exact this
theorem layB_succ (h : Hsh) (n : Nat) (b : Int) : layB h (n + 1) b = layB h n b ++ if b ∈ homeL h n then [(n : Int)] else [] := by
  unfold layB
  have := rg_snoc n 0
  rw [Nat.zero_add] at this
  rw [this, List.filter_append]
  by_cases hb : b ∈ homeL h n <;> simp [hb]
theorem layB_lt {h : Hsh} {n : Nat} {b x : Int} (hx : x ∈ layB h n b) : 0 ≤ x ∧ x < n := by
  have := (rg_mem n 0 x).1 (List.mem_filter.1 hx).1
  omega
theorem layB_mem {h : Hsh} {n : Nat} {b x : Int} : x ∈ layB h n b ↔ (0 ≤ x ∧ x < n) ∧ b ∈ homeL h x := by
  unfold layB
  rw [List.mem_filter, rg_mem]; simp
theorem layB_len (h : Hsh) (n : Nat) (b : Int) : (layB h n b).length ≤ n := by
  have := List.length_filter_le (fun i => decide (b ∈ homeL h i)) (rg 0 n)
  rw [rg_len] at this
  exact this
def Mid (h : Hsh) (n : Nat) (dn : List Int) (v : List (List Int)) : Prop := (v.length : Int) = h.1 ∧ ∀ b, 0 ≤ b → b < h.1 → at' [] v b = layB h n b ++ if b ∈ dn then [(n : Int)] else []
theorem Mid.put {h : Hsh} {n : Nat} {dn : List Int} {v : List (List Int)} (m : Mid h n dn v) {b : Int} (b0 : 0 ≤ b) (bB : b < h.1) (hb : b ∉ dn) : Mid h n (dn ++ [b]) (v.set b.toNat (at' [] v b ++ [(n : Int)])) := by
  have hl := m.1
  refine ⟨by simpa using m.1, fun c c0 cB => ?_⟩
  rw [at_set [] b0 (by omega) c0]
  by_cases e : c = b
  · subst e
    rw [if_pos rfl, m.2 c c0 cB, if_neg hb]; simp
  · rw [if_neg e, m.2 c c0 cB]
    congr 1
    simp [e]
theorem Mid.skip {h : Hsh} {n : Nat} {dn : List Int} {v : List (List Int)} (m : Mid h n dn v) {b : Int} (hb : b ∈ dn) : Mid h n (dn ++ [b]) v := by
  refine ⟨m.1, fun c c0 cB => ?_⟩
  rw [m.2 c c0 cB]
  congr 1
  by_cases e : c = b
  · subst e; simp [hb]
  · simp [e]
theorem lay_L1 {h : Hsh} {n : Nat} (hn : n ≤ 1024) (rec : Int → List (List Int) → Int → Option (List (List Int) × Int)) (z : Int) : ∀ (bs dn : List Int) (v : List (List Int)), (∀ b ∈ bs, 0 ≤ b ∧ b < h.1) → Mid h n dn v →
    ∃ w, cuckoo_Layout_L1 rec (n : Int) z bs v = rec ((n + 1 : Nat) : Int) w z ∧ Mid h n (dn ++ bs) w
  | [], dn, v, _, m => ⟨v, by rw [cuckoo_Layout_L1, w64_id (by omega) (by omega)]; rfl, by simpa using m⟩
  | b :: bs, dn, v, hb, m => by
    obtain ⟨b0, bB⟩ := hb b List.mem_cons_self
    have hl := m.1
    have hv := m.2 b b0 bB
    have hlb := layB_len h n b
    rw [cuckoo_Layout_L1]
    unfold cuckoo_Layout_B1
    rw [at_idx [] b0 (by omega)]
    simp only [Option.bind_some]
    by_cases hd : b ∈ dn
    · rw [if_pos hd] at hv
      have h1 : ((at' [] v b).length : Int) = (layB h n b).length + 1 := by rw [hv]; simp
      have h2 : lidx (at' [] v b) (w64 (((at' [] v b).length : Int) - 1)) = some (n : Int) := by
        rw [w64_id (by omega) (by omega), hv, lidx_app (by simp)]
        unfold lidx
        rw [if_pos (by simp)]
        simp
      rw [if_neg (by omega), h2]
      simp only [Option.bind_some]
      rw [if_neg (by simp)]
      obtain ⟨w, e, hw⟩ := lay_L1 hn rec z bs (dn ++ [b]) v (fun c hc => hb c (List.mem_cons_of_mem _ hc)) (m.skip hd)
      exact ⟨w, e, by simpa using hw⟩
    · rw [if_neg hd, List.append_nil] at hv
      have hc : ((if ((at' [] v b).length : Int) = 0 then some true else (lidx (at' [] v b) (w64 (((at' [] v b).length : Int) - 1))).bind fun u383 => some (decide (u383 ≠ (n : Int)))) : Option Bool) = some true := by
        by_cases h0 : ((at' [] v b).length : Int) = 0
        · rw [if_pos h0]
        · rw [if_neg h0, w64_id (by rw [hv]; omega) (by rw [hv]; omega), at_idx 0 (by omega) (by omega)]
          simp only [Option.bind_some]
          have hm : at' 0 (at' [] v b) (((at' [] v b).length : Int) - 1) ∈ at' [] v b := at_mem 0 (by omega) (by omega)
          generalize at' 0 (at' [] v b) (((at' [] v b).length : Int) - 1) = x at hm ⊢
          rw [hv] at hm
          have := layB_lt hm
          congr 1
          simp; omega
      rw [hc, Option.bind_some, if_pos rfl, lapp_ok (by rw [hv]; simp; omega)]
      simp only [Option.bind_some]
      rw [lupd_ok b0 (by omega)]
      simp only [Option.bind_some]
      obtain ⟨w, e, hw⟩ := lay_L1 hn rec z bs (dn ++ [b]) _ (fun c hc => hb c (List.mem_cons_of_mem _ hc)) (m.put b0 bB hd)
      exact ⟨w, e, by simpa using hw⟩
theorem Mid.next {h : Hsh} {n : Nat} {w : List (List Int)} (m : Mid h n ([] ++ homeL h n) w) : Mid h (n + 1) [] w := by
  refine ⟨m.1, fun b b0 bB => ?_⟩
  rw [m.2 b b0 bB, layB_succ]; simp
theorem Mid.done {h : Hsh} (hk : HshOK h) {n : Nat} {w : List (List Int)} (m : Mid h n [] w) : w = lay h n := by
  have hl := m.1
  have := hk.1
  refine ext_at [] (by rw [lay_len]; omega) fun b b0 bB => ?_
  rw [m.2 b b0 (by omega), lay_at b0 (by omega)]; simp
theorem lay_L2 {h : Hsh} (hk : HshOK h) {items : Nat} (hi : items ≤ 1024) : ∀ (r n fuel : Nat) (v : List (List Int)), n + r = items → r < fuel → Mid h n [] v → cuckoo_Layout_L2 (items : Int) h.2 fuel (n : Int) v h.1 = some (lay h items, 0)
  | 0, n, fuel, v, hn, hf, m => by
    obtain ⟨fuel, rfl⟩ : ∃ k, fuel = k + 1 := ⟨fuel - 1, by omega⟩
    rw [cuckoo_Layout_L2]
    unfold cuckoo_Layout_B2
    rw [if_neg (by omega), m.done hk, show n = items from by omega]
  | r + 1, n, fuel, v, hn, hf, m => by
    obtain ⟨fuel, rfl⟩ : ∃ k, fuel = k + 1 := ⟨fuel - 1, by omega⟩
    rw [cuckoo_Layout_L2]
    unfold cuckoo_Layout_B2
    rw [if_pos (by omega), homes_ok (h := (h.1, h.2)) hk (by unfold ItemOK; omega)]
    simp only [Option.bind_some]
    obtain ⟨w, e, hw⟩ := lay_L1 (h := h) (n := n) (by omega) (cuckoo_Layout_L2 (items : Int) h.2 fuel) h.1 (homeL h n) [] v (homeL_range hk n) m
    rw [show homeL (h.1, h.2) (n : Int) = homeL h n from rfl, e]
    exact lay_L2 hk hi r (n + 1) fuel w (by omega) (by omega) hw.next
theorem mid0 {h : Hsh} (hk : HshOK h) : Mid h 0 [] (List.replicate h.1.toNat ([] : List Int)) := by
  have := hk.1
  refine ⟨by simp; omega, fun b b0 bB => ?_⟩
  rw [at_rep _ _ b0 (by omega)]; simp [layB, rg]
def Rst (h : Hsh) (l : List Int) : Nat → List Bool → List Int → Prop
  | _, v, [] => ∀ j : Int, 0 ≤ j → j < l.length → at' false v j = true
  | i, v, x :: xs => (x = -1 ∧ Rst h l (i + 1) v xs) ∨ (0 ≤ x ∧ x < l.length ∧ at' false v x = false ∧ (i : Int) ∈ homeL h (at' 0 l x) ∧ Rst h l (i + 1) (v.set x.toNat true) xs)
theorem Rst.all {h : Hsh} {l : List Int} : ∀ (xs : List Int) (i : Nat) (v : List Bool), v.length = l.length → Rst h l i v xs →
    (∀ y ∈ xs, -1 ≤ y ∧ y < l.length) ∧ (∀ j : Int, 0 ≤ j → j < l.length → xs.count j + (if at' false v j = true then 1 else 0) = 1) ∧ (∀ k : Nat, k < xs.length → 0 ≤ xs.getD k 0 → ((i + k : Nat) : Int) ∈ homeL h (at' 0 l (xs.getD k 0)))
  | [], i, v, hv, hr => ⟨by simp, fun j h0 h1 => by rw [hr j h0 h1]; simp, fun k hk => by simp at hk⟩
  | x :: xs, i, v, hv, hr => by
    rcases hr with ⟨h1, hr⟩ | ⟨x0, xl, hf, hm, hr⟩
    · obtain ⟨a, b, c⟩ := Rst.all xs (i + 1) v hv hr
      refine ⟨fun y hy => ?_, fun j h0 h2 => ?_, fun k hk h0 => ?_⟩
      · rcases List.mem_cons.1 hy with rfl | hy
        · omega
        · exact a y hy
      · rw [List.count_cons]
        have : (x == j) = false := by simp; omega
        rw [this]
        simpa using b j h0 h2
      · cases k with
        | zero => simp only [List.getD_cons_zero] at h0; omega
        | succ k =>
          simp only [List.getD_cons_succ, List.length_cons] at h0 hk ⊢
          have := c k (by omega) h0
          rwa [show i + 1 + k = i + (k + 1) from by omega] at this
    · obtain ⟨a, b, c⟩ := Rst.all xs (i + 1) (v.set x.toNat true) (by simpa using hv) hr
      refine ⟨fun y hy => ?_, fun j h0 h2 => ?_, fun k hk h0 => ?_⟩
      · rcases List.mem_cons.1 hy with rfl | hy
        · omega
        · exact a y hy
      · have := b j h0 h2
        rw [at_set false x0 (by omega) h0] at this
        rw [List.count_cons]
        by_cases e : j = x
        · subst e
          rw [if_pos rfl] at this
          rw [hf]; simp at this ⊢; exact this
        · rw [if_neg e] at this
          have e2 : (x == j) = false := by simp; omega
          rw [e2]; simpa using this
      · cases k with
        | zero => simpa using hm
        | succ k =>
          simp only [List.getD_cons_succ, List.length_cons] at h0 hk ⊢
          have := c k (by omega) h0
          rwa [show i + 1 + k = i + (k + 1) from by omega] at this
def ixL (x : Int) : List Int → Int → Int
  | [], _ => -1
  | y :: l, i => if x = y then i else ixL x l (i + 1)
theorem index_ix (x : Int) : ∀ (l : List Int) (i : Nat), slices_Index_Lintint_L1 x l i = some (ixL x l i)
  | [], _ => rfl
  | y :: l, i => by
    rw [slices_Index_Lintint_L1, ixL]
    unfold slices_Index_Lintint_B1
    by_cases h : x = y
    · rw [if_pos h, if_pos h]
    · rw [if_neg h, if_neg h, index_ix x l (i + 1), show ((i + 1 : Nat) : Int) = (i : Int) + 1 from by omega]
theorem index_ok (l : List Int) (x : Int) : slices_Index_Lintint l x = some (ixL x l 0) := index_ix x l 0
theorem ix_mem {x : Int} : ∀ {l : List Int} {i : Int}, x ∈ l → i ≤ ixL x l i ∧ ixL x l i < i + l.length ∧ l.getD (ixL x l i - i).toNat 0 = x
  | y :: l, i, h => by
    rw [ixL]
    by_cases e : x = y
    · rw [if_pos e]
      simp [e]; omega
    · rw [if_neg e]
      obtain ⟨h1, h2, h3⟩ := ix_mem (l := l) (i := i + 1) (by
        rcases List.mem_cons.1 h with h | h
        · exact absurd h e
        · exact h)
      refine ⟨by omega, by simp only [List.length_cons]; omega, ?_⟩
      rw [show (ixL x l (i + 1) - i).toNat = (ixL x l (i + 1) - (i + 1)).toNat + 1 from by omega, List.getD_cons_succ]
      exact h3
theorem ix_app {x : Int} : ∀ {l m : List Int} {i : Int}, x ∈ l → ixL x (l ++ m) i = ixL x l i
  | y :: l, m, i, h => by
    rw [List.cons_append, ixL, ixL]
    by_cases e : x = y
    · rw [if_pos e, if_pos e]
    · rw [if_neg e, if_neg e, ix_app (by
        rcases List.mem_cons.1 h with h | h
        · exact absurd h e
        · exact h)]
theorem ix_at {x : Int} {l : List Int} (h : x ∈ l) : 0 ≤ ixL x l 0 ∧ ixL x l 0 < l.length ∧ at' 0 l (ixL x l 0) = x := by
  obtain ⟨h1, h2, h3⟩ := ix_mem (i := 0) h
  exact ⟨h1, by omega, by unfold at'; simpa using h3⟩
theorem ix_count {x : Int} : ∀ {l : List Int} {b i : Int}, l.count x ≤ 1 → 0 ≤ b → b < l.length → at' (-1) l b = x → ixL x l i = i + b
  | [], b, i, _, h0, h1, _ => by simp at h1; omega
  | y :: l, b, i, hn, h0, h1, h => by
    rw [ixL]
    by_cases e : b = 0
    · subst e
      have : y = x := h
      rw [if_pos this.symm]; omega
    · have hb : at' (-1) l (b - 1) = x := by
        rw [← h]; unfold at'
        rw [show b.toNat = (b - 1).toNat + 1 from by omega, List.getD_cons_succ]
      simp only [List.length_cons] at h1
      have hm : x ∈ l := hb ▸ at_mem (-1) (by omega) (by omega)
      have hc := List.count_pos_iff.2 hm
      rw [List.count_cons] at hn
      have hxy : ¬ x = y := fun hxy => by rw [hxy] at hn hc; simp at hn; omega
      rw [if_neg hxy, ix_count (l := l) (by omega) (by omega) (by omega) hb]
      omega
end Go.Proofs.YtfcicopgdahmcaaGreatDoor
end

section
namespace Go.Proofs.YtfcicopgdahmcaaGreatDoor
set_option linter.unusedVariables false
def spL (f : Int → Int → Int) : List Int → Nat → List Int
  | [], _ => []
  | x :: xs, i => f i x :: spL f xs (i + 1)
theorem spL_len (f : Int → Int → Int) : ∀ (l : List Int) (i : Nat), (spL f l i).length = l.length
  | [], _ => rfl
  | x :: xs, i => by simp [spL, spL_len f xs]
theorem spL_at (f : Int → Int → Int) : ∀ (l : List Int) (i : Nat) (j : Int), 0 ≤ j → j < l.length → at' 0 (spL f l i) j = f (i + j) (at' 0 l j)
  | [], i, j, h0, h1 => by simp at h1; omega
  | x :: xs, i, j, h0, h1 => by
    simp only [List.length_cons] at h1
    by_cases e : j = 0
    · subst e; simp [at', spL]
    · have := spL_at f xs (i + 1) (j - 1) (by omega) (by omega)
      unfold at' at this ⊢
      rw [show j.toNat = (j - 1).toNat + 1 from by omega, spL, List.getD_cons_succ, List.getD_cons_succ, this]
      congr 1; omega
def spot (ls : List (List Int)) (bk : List Int) (i x : Int) : Int := ixL x (at' [] ls (ixL i bk 0)) 0
theorem max_bd : ∀ (l : List Int) (v : Int), (∀ x ∈ l, 0 ≤ x ∧ x < 1024) → v < 1024 → v ≤ l.foldl max v ∧ l.foldl max v < 1024 ∧ ∀ x ∈ l, x ≤ l.foldl max v
  | [], v, _, hv => ⟨Int.le_refl _, hv, by simp⟩
  | x :: l, v, h, hv => by
    have hx := h x List.mem_cons_self
    obtain ⟨h1, h2, h3⟩ := max_bd l (max v x) (fun y hy => h y (List.mem_cons_of_mem _ hy)) (by omega)
    refine ⟨by simp only [List.foldl_cons]; omega, h2, fun y hy => ?_⟩
    simp only [List.foldl_cons]
    rcases List.mem_cons.1 hy with rfl | hy
    · omega
    · exact h3 y hy
theorem Asg.ix {B : Int} {homes : List (List Int)} {bk : Bk} (h : Asg B homes bk) {j : Int} (h0 : 0 ≤ j) (h1 : j < homes.length) : ∃ b, 0 ≤ b ∧ b < B ∧ b ∈ at' [] homes j ∧ at' (-1) bk b = j ∧ ixL j bk 0 = b := by
  obtain ⟨b, b0, bB, hm, e⟩ := h.has j h0 h1
  have := h.ok.1
  exact ⟨b, b0, bB, hm, e, by rw [ix_count (h.le j h0) b0 (by omega) e]; omega⟩
theorem spots_L1 {ls : List (List Int)} {bk l : List Int} (hl : l.length ≤ 1000) (hix : ∀ j : Int, 0 ≤ j → j < l.length → 0 ≤ ixL j bk 0 ∧ ixL j bk 0 < ls.length) : ∀ (xs : List Int) (i : Nat) (acc : List Int), i + xs.length = l.length → acc.length = i →
    cuckoo_Spots_L1 ls bk xs i acc = some (acc ++ spL (spot ls bk) xs i, 0)
  | [], i, acc, _, _ => by rw [cuckoo_Spots_L1]; simp [spL]
  | x :: xs, i, acc, hi, ha => by
    simp only [List.length_cons] at hi
    obtain ⟨h1, h2⟩ := hix i (by omega) (by omega)
    rw [cuckoo_Spots_L1]
    unfold cuckoo_Spots_B1
    rw [index_ok, Option.bind_some, at_idx [] h1 h2, Option.bind_some, index_ok, Option.bind_some, lapp_ok (by simp; omega), Option.bind_some]
    rw [spots_L1 hl hix xs (i + 1) _ (by omega) (by simp; omega)]
    simp [spL, spot]
end Go.Proofs.YtfcicopgdahmcaaGreatDoor
end

section
namespace Go.Proofs.YtfcicopgdahmcaaGreatDoor
set_option linter.unusedVariables false
theorem rg_app : ∀ (a b lo : Nat), rg lo (a + b) = rg lo a ++ rg (lo + a) b
  | 0, b, lo => by simp [rg]
  | a + 1, b, lo => by
    rw [show a + 1 + b = (a + b) + 1 from by omega, rg, rg_app a b (lo + 1), rg, List.cons_append, show lo + 1 + a = lo + (a + 1) from by omega]
theorem layB_app (h : Hsh) {m n : Nat} (hm : m ≤ n) (b : Int) : ∃ r, layB h n b = layB h m b ++ r := by
  unfold layB
  have := rg_app m (n - m) 0
  rw [show m + (n - m) = n from by omega] at this
  rw [this, List.filter_append]
  exact ⟨_, rfl⟩
def cB (B : Int) (l : List Int) : Nat := ((rg 0 B.toNat).filter fun b => decide (b ∈ l)).length
end Go.Proofs.YtfcicopgdahmcaaGreatDoor
end

section
namespace Go.Proofs.YtfcicopgdahmcaaGreatDoor
theorem layout_c {h : Hsh} (hk : HshOK h) {n : Nat} (hn : n ≤ 1024) : cuckoo_Layout h n = some (lay h n, 0) := by
  have h1 := hk.1; have h2 := hk.2.1
  have hm : lmk h.1 ([] : List Int) = some (List.replicate h.1.toNat []) := by unfold lmk; rw [if_pos (by omega)]
  have e0 : cuckoo_Check h = some 0 := by
    rcases check_ok h with ⟨e, _⟩ | ⟨_, hq⟩
    · exact e
    · exact absurd hk hq
  unfold cuckoo_Layout
  rw [e0, Option.bind_some, if_neg (by simp), if_neg (by omega), hm, Option.bind_some]
  exact lay_L2 hk hn n 0 big _ (by omega) (by simp only [big]; omega) (mid0 hk)
theorem max_c (kx : Int → Int → Option (List Int × Int)) (z : Int) : ∀ (l : List Int) (v : Int), (∀ x ∈ l, 0 ≤ x ∧ x < 1024) → cuckoo_Spots_L3 kx z l v = kx (l.foldl max v) z
  | [], v, _ => rfl
  | x :: l, v, h => by
    have hx := h x List.mem_cons_self
    rw [cuckoo_Spots_L3]
    unfold cuckoo_Spots_B3
    rw [if_neg (by omega)]
    exact max_c kx z l (max v x) fun y hy => h y (List.mem_cons_of_mem _ hy)
theorem spots_c {h : Hsh} (hk : HshOK h) {l : List Int} (hl : l.length ≤ 1000) (hr : ∀ x ∈ l, 0 ≤ x ∧ x < 1024) {bk : List Int} (hf : cuckoo_Fits h l bk = some true) (hA : Asg h.1 (l.map (homeL h)) bk) :
    ∃ m : Nat, m ≤ 1024 ∧ (∀ x ∈ l, x < m) ∧ (∀ k : Int, 0 ≤ k → (∀ x ∈ l, x < k) → m ≤ k) ∧ cuckoo_Spots h l bk = some (spL (spot (lay h m) bk) l 0, 0) := by
  have e0 : cuckoo_Check h = some 0 := by
    rcases check_ok h with ⟨e, _⟩ | ⟨_, hq⟩
    · exact e
    · exact absurd hk hq
  obtain ⟨b1, b2, b3⟩ := max_bd l (-1) hr (by omega)
  have hleast : ∀ k : Int, 0 ≤ k → (∀ x ∈ l, x < k) → l.foldl max (-1) < k := by
    have : ∀ (l : List Int) (v k : Int), v < k → (∀ x ∈ l, x < k) → l.foldl max v < k := by
      intro l
      induction l with
      | nil => intro v k h _; exact h
      | cons x l ih =>
        intro v k h1 h2
        have := h2 x List.mem_cons_self
        exact ih (max v x) k (by omega) fun y hy => h2 y (List.mem_cons_of_mem _ hy)
    intro k h0 h1
    exact this l (-1) k (by omega) h1
  have hB := hA.ok.1
  have hb2 := hk.2.1
  generalize hmx : l.foldl max (-1) = mx at b1 b2 b3 hleast
  have hm : mx + 1 = (((mx + 1).toNat : Nat) : Int) := by omega
  refine ⟨(mx + 1).toNat, by omega, fun x hx => by have := b3 x hx; omega, fun k h0 h1 => by have := hleast k h0 h1; omega, ?_⟩
  unfold cuckoo_Spots
  rw [e0, Option.bind_some, if_neg (by simp), max_c _ h.1 l (-1) hr, hmx]
  unfold cuckoo_Spots_J2
  rw [show (h.1, h.2) = h from rfl, hf, Option.bind_some, if_neg (by simp), w64_id (by omega) (by omega), hm, layout_c hk (by omega), Option.bind_some]
  rw [spots_L1 hl (fun j h0 h1 => by
    obtain ⟨b, b0, bB, _, _, e⟩ := hA.ix h0 (by simpa using h1)
    rw [e, lay_len]; omega) l 0 [] (by omega) rfl]
  rfl
theorem assign_c {h : Hsh} (hk : HshOK h) {l : List Int} (hl : l.length ≤ 100000) (hx : ∀ n ∈ l, ItemOK n) (hlen : (l.length : Int) ≤ h.1) :
    cuckoo_Assign h l = some ([], 15) ∨ ∃ bk fixed, cuckoo_Assign h l = some (bk, 0) ∧ Fst h.1 (l.map (homeL h)) fixed l.length bk ∧ Greedy (l.map (homeL h)) 0 (l.map (homeL h)) (nofix h) bk := by
  have hC2 : cuckoo_asked h l = some 0 → cuckoo_Assign h l = if h.1 < (l.length : Int) then some ([], 4) else (cuckoo_start h l).bind fun u13 => (cuckoo_placing_first u13).bind fun u43 => if ((!u43.1) = true) then (some (([] : List Int), 15)) else some (u43.2.1, 0) := fun he => by
    unfold cuckoo_Assign; rw [he]; simp only [Option.bind_some]; rw [if_neg (by simp)]
  rcases asked_ok h l with ⟨_, hq⟩ | ⟨_, _, n, hn, hb⟩ | ⟨e, _, _⟩
  · exact absurd hk hq
  · exact absurd (hx n hn) hb
  · have h5 := hC2 e
    rw [if_neg (by omega)] at h5
    have h1 := hk.1; have h2 := hk.2.1
    have hh := homesOK hk l
    obtain ⟨r, bk, fixed, e1, g1, g2⟩ := first_L2 hh (by omega) (by simp; omega) (l.map (homeL h)) 0 (nofix h) (List.replicate h.1.toNat (-1)) rfl (fst0 hk _) (Nat.zero_le _)
    have hcf : cuckoo_placing_first (l.map (homeL h), List.replicate h.1.toNat (-1), List.replicate h.1.toNat false) = some (r, bk, fixed) := e1
    rw [start_ok hk hx (by omega), Option.bind_some, hcf, Option.bind_some] at h5
    cases r with
    | false => exact .inl (by simpa using h5)
    | true =>
      obtain ⟨k1, k2, k3⟩ := g2 rfl
      have hk3 : Greedy (l.map (homeL h)) 0 (l.map (homeL h)) (nofix h) bk := by exact_mod_cast k3
      have hk1 : Fst h.1 (l.map (homeL h)) fixed l.length bk := by simpa using k1
      exact .inr ⟨bk, fixed, by simpa using h5, hk1, hk3⟩
end Go.Proofs.YtfcicopgdahmcaaGreatDoor
end

section
namespace Go.Proofs.YtfcicopgdahmcaaGreatDoor
open Alg (Cg Pr)
theorem tawake : top_awake = some true := by kernel_rfl
theorem Ans.uncons {p : Int} {w : Nat} {R qs As : List (List Int)} {q a : List Int} (h : Ans p w R (q :: qs) (a :: As)) : parity_Answer p (w : Int) R q = some (a, 0) ∧ Ans p w R qs As := by
  refine ⟨h.ans 0 (by simp), { len := by simpa using h.len, rw := (Rw.cons.1 h.rw).2, ans := fun k hk => h.ans (k + 1) (by simpa using hk), sum := fun k hk => h.sum (k + 1) (by simpa using hk) }⟩
theorem tb_L6 (kx : List (Bool × List Int) → Option Bool) {p : Int} {w : Nat} {R : List (List Int)} : ∀ (qs As : List (List Int)) (acc : List (Bool × List Int)), Ans p w R qs As → acc.length + qs.length ≤ 1000 →
    top_TopBatch_L6 kx R (w : Int) p qs acc = kx (acc ++ As.map fun a => (true, a))
  | [], As, acc, h, _ => by
    have : As = [] := List.length_eq_zero_iff.1 (by simpa using h.len)
    subst this; simp [top_TopBatch_L6]
  | q :: qs, [], acc, h, _ => by have := h.len; simp at this
  | q :: qs, a :: As, acc, h, h2 => by
    obtain ⟨h3, h4⟩ := h.uncons
    simp only [List.length_cons] at h2
    rw [top_TopBatch_L6]
    unfold top_TopBatch_B6
    rw [h3, Option.bind_some, if_neg (by simp), lapp_ok (by simp; omega), Option.bind_some, tb_L6 kx qs As _ h4 (by simp; omega)]
    simp
theorem tb_L10 (kx : List (List Int) → Option Bool) {R : List (List Int)} : ∀ (xs : List Int) (acc : List (List Int)), (∀ x ∈ xs, 0 ≤ x ∧ x < R.length) → acc.length + xs.length ≤ 1000 →
    top_TopBatch_L10 kx R xs acc = kx (acc ++ xs.map fun x => gr R x.toNat)
  | [], acc, _, _ => by simp [top_TopBatch_L10]
  | x :: xs, acc, h, h2 => by
    simp only [List.length_cons] at h2
    have hx := h x List.mem_cons_self
    rw [top_TopBatch_L10]
    unfold top_TopBatch_B10
    rw [lidx_ok [] hx.1 hx.2, Option.bind_some, lapp_ok (by simp; omega), Option.bind_some, tb_L10 kx xs _ (fun y hy => h y (List.mem_cons_of_mem _ hy)) (by simp; omega)]
    simp [gr]
theorem tb_ask {l : List Int} (hl : l.length ≤ 1000) {p : Int} (hf : Fd p) {w : Nat} (hw : w ≤ 64) {part : List (List Int)} (hn : 1 ≤ part.length ∧ part.length ≤ 1024) (hR : Rw p w part) {bk : List Int} {b : Nat} {fnd : List (List Int)} {idx : Nat} (hi : idx < part.length) {d : Int} (hd : Dk l (l, d)) {v : Int} (hb : lidx bk (b : Int) = some v)
    (rec : Int → List (List Int) → List Int → Int → Option Bool) (c : Int) :
    ∃ d2, Dk l (l, d2) ∧ top_TopBatch_J8 rec c (b : Int) (w : Int) l d bk p part fnd (idx : Int) = if 0 ≤ v then (lidx fnd v).bind fun _ => (lupd fnd v (gr part idx)).bind fun f2 => rec (w64 (c + 1)) f2 l d2 else rec (w64 (c + 1)) fnd l d2 := by
  have hp := hf.rng
  unfold top_TopBatch_J8
  have hm : part.length * (2 - 1) ≤ 1024 * 9 := Nat.mul_le_mul hn.2 (by omega)
  rw [show (2 : Int) = ((2 : Nat) : Int) from rfl, limits_eq hf hn (by omega), Option.bind_some]
  obtain ⟨T, e, e1, e2, e3, e4⟩ := seed_ok hl hd hp (m := part.length * (2 - 1)) (by omega)
  rw [e1, Option.bind_some]
  obtain ⟨qs, t, q1, q2⟩ := queries_ok hf hn (s := 2) (by omega) hi e3 e2
  rw [q1, Option.bind_some]
  unfold top_TopBatch_J7
  rw [if_neg (by simp)]
  obtain ⟨As, hA⟩ := ans_ok hf hw hR q2.rw
  rw [tb_L6 _ qs As [] hA (by have := q2.len; simp; omega)]
  unfold top_TopBatch_J5
  rw [List.nil_append, pdec_ok hf hw hR (by omega) hi q2 hA, Option.bind_some, if_neg (by simp), hb]
  simp only [Option.bind_some]
  obtain ⟨g1, g2⟩ := e
  obtain ⟨rfl, e5⟩ := e4
  exact ⟨g2, ⟨rfl, e5⟩, rfl⟩
def full (L : List (List Int)) : Nat := (L.filter fun x => decide (0 < x.length)).length
theorem full_cons (x : List Int) (L : List (List Int)) : full (x :: L) = (if 0 < x.length then 1 else 0) + full L := by
  unfold full
  rw [List.filter_cons]
  split
  · rename_i h; rw [if_pos (by simpa using h)]; simp; omega
  · rename_i h; rw [if_neg (by simpa using h)]; simp
theorem full_le (L : List (List Int)) : full L ≤ L.length := List.length_filter_le _ _
theorem tb_L1 (z : Int) : ∀ (L : List (List Int)) (v : Int), 0 ≤ v → v + L.length ≤ 1000 → top_TopBatch_L1 z L v = some (decide (z = v + full L))
  | [], v, _, _ => by simp [top_TopBatch_L1, full]
  | x :: L, v, h1, h2 => by
    simp only [List.length_cons] at h2
    rw [top_TopBatch_L1]
    unfold top_TopBatch_B1
    rw [full_cons]
    by_cases h : 0 < x.length
    · rw [if_pos (by omega), if_pos h, w64_id (by omega) (by omega), tb_L1 z L _ (by omega) (by omega)]
      congr 1; exact decide_eq_decide.2 (by omega)
    · rw [if_neg (by omega), if_neg h, tb_L1 z L _ (by omega) (by omega)]
      congr 1; exact decide_eq_decide.2 (by omega)
theorem tb_L3 (kx : Option Bool) {R found : List (List Int)} {wanted : List Int} (hl : found.length = wanted.length) (hr : ∀ x ∈ wanted, 0 ≤ x ∧ x < R.length) (h : ∀ k, k < wanted.length → gr found k = gr R (wanted.getD k 0).toNat) : ∀ (xs : List Int) (k : Nat), wanted.drop k = xs → top_TopBatch_L3 kx found R xs k = kx
  | [], _, _ => rfl
  | x :: xs, k, hd => by
    have hk : k < wanted.length := by
      rcases Nat.lt_or_ge k wanted.length with h2 | h2
      · exact h2
      · rw [List.drop_of_length_le h2] at hd; cases hd
    have hx : x = wanted.getD k 0 := by
      have := List.drop_eq_getElem_cons hk
      rw [hd] at this
      rw [(List.cons.inj this).1]; simp [List.getD_eq_getElem?_getD, hk]
    have hm : x ∈ wanted := List.mem_of_mem_drop (i := k) (by rw [hd]; exact List.mem_cons_self)
    rw [top_TopBatch_L3]
    unfold top_TopBatch_B3
    rw [lidx_nat [] (by omega), Option.bind_some, lidx_ok [] (hr x hm).1 (hr x hm).2, Option.bind_some]
    have e : found.getD k [] = R.getD x.toNat [] := by rw [hx]; exact h k hk
    rw [e, same_refl, Option.bind_some, if_neg (by simp)]
    exact tb_L3 kx hl hr h xs (k + 1) (by rw [← List.drop_drop, hd]; rfl)
theorem tb_L11 {t : List Int} (ht : t.length ≤ 1000) {p : Int} (hf : Fd p) {w : Nat} (hw : w ≤ 64) {h : Hsh} (hk : HshOK h) {n : Nat} (hn : n ≤ 1000) {R : List (List Int)} (hRl : R.length = n) (hR : Rw p w R) {l : List Int} (hl : l.length ≤ 1000) {m : Nat} (hmn : m ≤ n) (hm : ∀ x ∈ l, 0 ≤ x ∧ x < m) {bk : List Int} (hA : Asg h.1 (l.map (homeL h)) bk)
    (kx : Int → List (List Int) → List Int → Int → Option Bool) : ∀ (xs : List (List Int)) (b : Nat) (c : Int) (fnd : List (List Int)) (d : Int), (lay h n).drop b = xs → 0 ≤ c → c + xs.length ≤ 1000 → fnd.length = l.length → Dk t (t, d) →
      (∀ j : Nat, j < l.length → (∃ b0 : Int, 0 ≤ b0 ∧ b0 < b ∧ at' (-1) bk b0 = j) → gr fnd j = gr R (l.getD j 0).toNat) →
    ∃ f2 d2, top_TopBatch_L11 kx (w : Int) bk p (spL (spot (lay h m) bk) l 0) R xs b c fnd t d = kx (c + full xs) f2 t d2 ∧ f2.length = l.length ∧ ∀ j : Nat, j < l.length → (∃ b0 : Int, 0 ≤ b0 ∧ b0 < h.1 ∧ at' (-1) bk b0 = j) → gr f2 j = gr R (l.getD j 0).toNat
  | [], b, c, fnd, d, hd, h0, hc, hl2, hdk, hi => by
    have hb : h.1.toNat ≤ b := by have := congrArg List.length hd; simp [lay_len] at this; omega
    exact ⟨fnd, d, by simp [top_TopBatch_L11, full], hl2, fun j hj ⟨b0, h1, h2, h3⟩ => hi j hj ⟨b0, h1, by omega, h3⟩⟩
  | its :: xs, b, c, fnd, d, hd, h0, hc, hl2, hdk, hi => by
    simp only [List.length_cons] at hc
    have hb : b < (lay h n).length := by
      rcases Nat.lt_or_ge b (lay h n).length with h2 | h2
      · exact h2
      · rw [List.drop_of_length_le h2] at hd; cases hd
    have hbB : (b : Int) < h.1 := by rw [lay_len] at hb; omega
    have hits : its = layB h n b := by
      have e1 := lay_at (h := h) (n := n) (b := (b : Int)) (by omega) hbB
      rw [← e1]
      have := List.drop_eq_getElem_cons hb
      rw [hd] at this
      rw [(List.cons.inj this).1]
      simp [at', List.getD_eq_getElem?_getD, hb]
    have hB := hA.ok.1
    have hv2 := hA.ok.2 _ (at_mem (-1) (l := bk) (b := (b : Int)) (by omega) (by omega))
    simp only [List.length_map] at hv2
    have hbk : lidx bk (b : Int) = some (at' (-1) bk (b : Int)) := at_idx (-1) (by omega) (by omega)
    generalize hv : at' (-1) bk (b : Int) = v at hv2 hbk
    have hilen : its.length ≤ n := by rw [hits]; exact layB_len h n b
    -- the item that is placed here
    have place : 0 ≤ v → at' 0 l v ∈ its ∧ at' 0 (spL (spot (lay h m) bk) l 0) v = ixL (at' 0 l v) its 0 := fun hv0 => by
      have hit := hm _ (at_mem 0 (l := l) (b := v) hv0 hv2.2)
      have hedge := hA.edge (b := (b : Int)) (by omega) (by omega) (by rw [hv]; exact hv0)
      rw [hv, at_map 0 [] _ hv0 hv2.2] at hedge
      have hmem : at' 0 l v ∈ layB h m b := layB_mem.2 ⟨hit, hedge⟩
      obtain ⟨r, hr⟩ := layB_app h hmn (b : Int)
      refine ⟨by rw [hits, hr]; exact List.mem_append_left _ hmem, ?_⟩
      rw [spL_at _ _ _ _ hv0 hv2.2]
      unfold spot
      rw [show ((0 : Nat) : Int) + v = v by omega, ix_count (hA.le v hv0) (by omega) (by omega) hv, Int.zero_add, lay_at (by omega) (by omega), hits, hr, ix_app hmem]
    have hRits : ∀ x ∈ its, 0 ≤ x ∧ x < R.length := fun x hx => by rw [hits] at hx; have := layB_lt hx; omega
    rw [top_TopBatch_L11]
    unfold top_TopBatch_B11
    by_cases he : (its.length : Int) = 0
    · rw [if_pos he, hbk, Option.bind_some]
      have hv1 : v = -1 := by
        rcases Int.lt_or_le v 0 with h1 | h1
        · omega
        · have := (place h1).1
          have hnil : its = [] := List.length_eq_zero_iff.1 (by omega)
          rw [hnil] at this; cases this
      rw [if_neg (by omega)]
      obtain ⟨f2, d2, i1, i2, i3⟩ := tb_L11 ht hf hw hk hn hRl hR hl hmn hm hA kx xs (b + 1) c fnd d (by rw [← List.drop_drop, hd]; rfl) h0 (by omega) hl2 hdk (fun j hj ⟨b0, h1, h2, h3⟩ => by
        rcases Int.lt_or_le b0 b with h4 | h4
        · exact hi j hj ⟨b0, h1, h4, h3⟩
        · rw [show b0 = (b : Int) by omega, hv] at h3; omega)
      exact ⟨f2, d2, by rw [i1, full_cons, if_neg (by omega), Nat.zero_add], i2, i3⟩
    · rw [if_neg he, tb_L10 _ its [] hRits (by simp; omega), List.nil_append]
      unfold top_TopBatch_J9
      have hpl : (its.map fun x => gr R x.toNat).length = its.length := by simp
      have hpR : Rw p w (its.map fun x => gr R x.toNat) := fun r hr => by
        obtain ⟨x, hx, rfl⟩ := List.mem_map.1 hr
        have hxr := hRits x hx
        refine hR _ ?_
        have : gr R x.toNat = R[x.toNat]'(by omega) := by simp [gr, List.getD_eq_getElem?_getD, show x.toNat < R.length by omega]
        rw [this]; exact List.getElem_mem _
      rw [hbk, Option.bind_some]
      have hw1 : w64 (c + 1) = c + 1 := w64_id (by omega) (by omega)
      by_cases hv0 : 0 ≤ v
      · obtain ⟨p1, p2⟩ := place hv0
        obtain ⟨i0, i1, i2⟩ := ix_at p1
        rw [if_pos hv0, Option.bind_some, at_idx 0 hv0 (by rw [spL_len]; exact hv2.2), Option.bind_some, p2]
        obtain ⟨q, hq⟩ : ∃ q : Nat, ixL (at' 0 l v) its 0 = q := ⟨(ixL (at' 0 l v) its 0).toNat, by omega⟩
        rw [hq] at i1 i2 ⊢
        obtain ⟨d2, g1, g2⟩ := tb_ask ht hf hw (part := its.map fun x => gr R x.toNat) (by rw [hpl]; omega) hpR (b := b) (fnd := fnd) (idx := q) (by rw [hpl]; omega) hdk hbk (top_TopBatch_L11 kx (w : Int) bk p (spL (spot (lay h m) bk) l 0) R xs (b + 1)) c
        rw [g2, if_pos hv0, hw1]
        rw [lidx_ok [] hv0 (by omega), Option.bind_some, lupd_ok hv0 (by omega), Option.bind_some]
        have hrow : gr (its.map fun x => gr R x.toNat) q = gr R (l.getD v.toNat 0).toNat := by
          have hq2 : q < its.length := by omega
          have e1 : at' 0 its (q : Int) = its[q] := by simp [at', List.getD_eq_getElem?_getD, hq2]
          rw [e1] at i2
          have e2 : gr (its.map fun x => gr R x.toNat) q = gr R (its[q]).toNat := by
            show (its.map fun x => gr R x.toNat).getD q [] = _
            rw [List.getD_eq_getElem?_getD, List.getElem?_map, List.getElem?_eq_getElem hq2]; rfl
          rw [e2, i2]; rfl
        obtain ⟨f2, d3, j1, j2, j3⟩ := tb_L11 ht hf hw hk hn hRl hR hl hmn hm hA kx xs (b + 1) (c + 1) (fnd.set v.toNat (gr (its.map fun x => gr R x.toNat) q)) d2 (by rw [← List.drop_drop, hd]; rfl) (by omega) (by omega) (by simpa using hl2) g1 (fun j hj ⟨b0, h1, h2, h3⟩ => by
          show (fnd.set v.toNat _).getD j [] = _
          rw [List.getD_eq_getElem?_getD, List.getElem?_set]
          by_cases hjv : v.toNat = j
          · rw [if_pos hjv, if_pos (by omega)]
            rw [← hjv]; exact hrow
          · rw [if_neg hjv]
            rcases Int.lt_or_le b0 b with h4 | h4
            · have := hi j hj ⟨b0, h1, h4, h3⟩
              rwa [gr, List.getD_eq_getElem?_getD] at this
            · rw [show b0 = (b : Int) by omega, hv] at h3; omega)
        exact ⟨f2, d3, by rw [j1, full_cons, if_pos (by omega)]; congr 1; omega, j2, j3⟩
      · rw [if_neg hv0, show (0 : Int) = ((0 : Nat) : Int) from rfl]
        obtain ⟨d2, g1, g2⟩ := tb_ask ht hf hw (part := its.map fun x => gr R x.toNat) (by rw [hpl]; omega) hpR (b := b) (fnd := fnd) (idx := 0) (by rw [hpl]; omega) hdk hbk (top_TopBatch_L11 kx (w : Int) bk p (spL (spot (lay h m) bk) l 0) R xs (b + 1)) c
        rw [g2, if_neg hv0, hw1]
        obtain ⟨f2, d3, j1, j2, j3⟩ := tb_L11 ht hf hw hk hn hRl hR hl hmn hm hA kx xs (b + 1) (c + 1) fnd d2 (by rw [← List.drop_drop, hd]; rfl) (by omega) (by omega) hl2 g1 (fun j hj ⟨b0, h1, h2, h3⟩ => by
          rcases Int.lt_or_le b0 b with h4 | h4
          · exact hi j hj ⟨b0, h1, h4, h3⟩
          · rw [show b0 = (b : Int) by omega, hv] at h3; omega)
        exact ⟨f2, d3, by rw [j1, full_cons, if_pos (by omega)]; congr 1; omega, j2, j3⟩
theorem tb_L13 {t : List Int} (ht : t.length ≤ 1000) {n : Int} (hn : 1 ≤ n ∧ n ≤ 1000) (kx : List Int → List Int → Int → Option Bool) : ∀ (f : Nat) (acc : List Int) (c d : Int), 0 ≤ c → c < f → c + acc.length ≤ 1000 → Dk t (t, d) → (∀ x ∈ acc, 0 ≤ x ∧ x < n) →
    ∃ l d2, top_TopBatch_L13 kx n f acc c t d = kx l t d2 ∧ (l.length : Int) = acc.length + c ∧ Dk t (t, d2) ∧ ∀ x ∈ l, 0 ≤ x ∧ x < n
  | 0, acc, c, d, h0, h1, _, _, _ => by omega
  | f + 1, acc, c, d, h0, h1, h2, h3, h4 => by
    rw [top_TopBatch_L13]
    unfold top_TopBatch_B13
    by_cases h : 0 < c
    · rw [if_pos h]
      obtain ⟨v, e, e1, a, b, e2⟩ := next_ok ht h3 (n := n) (by omega)
      rw [e1, Option.bind_some, lapp_ok (by simp; omega), Option.bind_some, w64_id (by omega) (by omega)]
      obtain ⟨g1, g2⟩ := e
      obtain ⟨rfl, e3⟩ := e2
      obtain ⟨l, d2, i1, i2, i3, i4⟩ := tb_L13 ht hn kx f (acc ++ [v]) (c - 1) g2 (by omega) (by omega) (by simp; omega) ⟨rfl, e3⟩ (fun x hx => by
        rcases List.mem_append.1 hx with hx | hx
        · exact h4 x hx
        · rw [List.mem_singleton.1 hx]; omega)
      exact ⟨l, d2, i1, by rw [i2]; simp; omega, i3, i4⟩
    · rw [if_neg h]
      exact ⟨acc, d, rfl, by omega, h3, h4⟩
theorem law_tbatch (t : List Int) : top_TopBatch t = some true := by
  unfold top_TopBatch make_Few make_New
  rw [tawake, Option.bind_some, if_neg (by simp), Option.bind_some]
  by_cases hfw : (t.length : Int) ≤ 500
  · rw [if_neg (by simp [hfw]), Option.bind_some]
    have ht : t.length ≤ 1000 := by omega
    obtain ⟨p, e1, k1, hf, d1⟩ := field_ok ht (d := (t, 0)) ⟨rfl, by omega, by omega⟩
    rw [k1, Option.bind_some]
    obtain ⟨h, e2, k2, hk, h8, d2⟩ := hashing_ok ht d1
    rw [k2, Option.bind_some]
    obtain ⟨v3, e3, k3, a3, b3, d3⟩ := next_ok ht d2 (n := 8) (by omega)
    rw [k3, Option.bind_some]
    obtain ⟨v4, e4, k4, a4, b4, d4⟩ := next_ok ht d3 (n := 2) (by omega)
    rw [k4, Option.bind_some]
    dsimp only
    rw [w64_id (x := 4 + v3) (by omega) (by omega), w64_id (x := 1 + v4) (by omega) (by omega)]
    obtain ⟨n, hn⟩ : ∃ n : Nat, 4 + v3 = n := ⟨(4 + v3).toNat, by omega⟩
    obtain ⟨w, hw⟩ : ∃ w : Nat, 1 + v4 = w := ⟨(1 + v4).toNat, by omega⟩
    rw [hn, hw]
    obtain ⟨R, e5, k5, hRl, hR, d5⟩ := mrows_ok ht d4 hf.rng (n := n) (w := w) (by omega) (by omega)
    rw [k5, Option.bind_some]
    have hk1 := hk.1
    rw [w64_id (by omega) (by omega)]
    obtain ⟨v6, e6, k6, a6, b6, d6⟩ := next_ok ht d5 (n := h.1 + 1) (by omega)
    rw [k6, Option.bind_some]
    dsimp only
    obtain ⟨g1, g2⟩ := e6
    obtain ⟨rfl, d7⟩ := d6
    dsimp only at ht d7 ⊢
    obtain ⟨l, d8, i1, i2, i3, i4⟩ := tb_L13 ht (n := (n : Int)) (by omega) (top_TopBatch_J12 (n : Int) (w : Int) h.1 h.2 p R) big [] v6 g2 a6 (by simp only [big]; omega) (by simp; omega) ⟨rfl, d7⟩ (fun x hx => by cases hx)
    rw [i1]
    simp only [List.length_nil] at i2
    unfold top_TopBatch_J12
    rw [show (h.1, h.2) = h from rfl, layout_c hk (by omega), Option.bind_some]
    have hit : ∀ x ∈ l, ItemOK x := fun x hx => by have := i4 x hx; unfold ItemOK; omega
    rcases assign_c hk (l := l) (by omega) hit (by omega) with a2 | ⟨bk, fx, a2, a3, a4⟩
    · rw [a2, Option.bind_some, if_pos (by simp)]; simp
    · have hA := asg_of (homesOK hk l) a3 a4
      have hfy := fits_yes hk hit (by omega) hA
      obtain ⟨m, m1, m2, m3, s1⟩ := spots_c hk (by omega) (fun x hx => by have := i4 x hx; omega) hfy hA
      have hmn : (m : Int) ≤ n := m3 n (by omega) fun x hx => (i4 x hx).2
      have hbl := hA.ok.1
      rw [a2, Option.bind_some, if_neg (by simp), s1, Option.bind_some, if_neg (by
        rw [spL_len, lay_len]; simp; omega)]
      rw [lmk_ok _ (by omega), Option.bind_some]
      obtain ⟨f3, d9, j1, j2, j3⟩ := tb_L11 ht hf (w := w) (by omega) hk (n := n) (by omega) hRl hR (l := l) (by omega) (m := m) (by omega) (fun x hx => ⟨(i4 x hx).1, m2 x hx⟩) hA (top_TopBatch_J4 l (lay h n) R) (lay h n) 0 0 (List.replicate l.length []) d8 rfl (by omega) (by rw [lay_len]; omega) (by simp) i3 (fun j hj ⟨b0, h1, h2, _⟩ => by omega)
      rw [j1]
      unfold top_TopBatch_J4
      rw [tb_L3 _ j2 (fun x hx => by have := i4 x hx; omega) (fun k hk2 => by
        obtain ⟨b, b0, bB, _, hb⟩ := hA.has (k : Int) (by omega) (by simp; omega)
        exact j3 k hk2 ⟨b, b0, bB, hb⟩) l 0 rfl]
      unfold top_TopBatch_J2
      have hfl := full_le (lay h n)
      rw [lay_len] at hfl
      rw [tb_L1 _ (lay h n) 0 (by omega) (by rw [lay_len]; omega)]
      simp
  · rw [if_pos (by simp [hfw])]
end Go.Proofs.YtfcicopgdahmcaaGreatDoor
end
