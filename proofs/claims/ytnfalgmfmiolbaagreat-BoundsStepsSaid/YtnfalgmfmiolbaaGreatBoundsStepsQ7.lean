/- What the proof needs, gathered by wip/gen/shake.py. -/
import Derived.Calls
import Derived.Deep.Quiet
import Derived.Below
import Derived.Laws.AppendOwn
import Derived.WalkKit
import Derived.Laws.OwnMore
import Derived.Deep.Slices
import Derived.ChangeOld
import Derived.ArgAppend
import Derived.RangeFuncIn
import Derived.RangeFuncRecord
import Derived.RangeFuncLeaves
import Derived.Laws.MakeOwn
import Derived.IntWalk
import Derived.Laws.IdiomStrings
import Derived.Laws.Cover3
import Derived.Laws.CopyOwn
import Derived.MapKept
import Derived.RangeFuncNested
import Derived.Test.YtnfalgmfmiolbaaGreatRows
import Derived.ProofKit
import Derived.OpenShut
import Derived.ShutString
import Derived.Test.YtnfalgmfmiolbaaGreatBoundsStepsQ6

section
namespace Go.Proofs.YtnfalgmfmiolbaaGreat
set_option linter.unusedVariables false
def slices_IndexFunc_Lintint_B1 (z25 : Int → Option Bool) (rec18 : Option Int) (x28 : Int) (i18 : Nat) : Option Int :=
  (z25 x28).bind fun u33 => if (u33 = true) then (some (i18 : Int)) else
 rec18
def slices_IndexFunc_Lintint_L1 (z25 : Int → Option Bool) : (List Int) → Nat → Option Int
  | [], i18 => some (-1)
  | x28 :: xs, i18 => slices_IndexFunc_Lintint_B1 z25 (slices_IndexFunc_Lintint_L1 z25 xs (i18 + 1)) x28 i18
def slices_IndexFunc_Lintint (x0 : (List Int)) (x1 : Int → Option Bool) : Option Int :=
  slices_IndexFunc_Lintint_L1 x1 x0 0
def slices_ContainsFunc_Lintint (x0 : (List Int)) (x1 : Int → Option Bool) : Option Bool :=
  (slices_IndexFunc_Lintint x0 x1).bind fun u1 => some (decide (0 ≤ u1))
def cuckoo_item (x0 : Int) : Option Bool :=
  some (decide ((0 ≤ x0) ∧ (x0 < 2147483647)))
def cuckoo_asked_f1 (x0 : Int) : Option Bool :=
  (cuckoo_item x0).bind fun u1 => some (!u1)
def cuckoo_asked (x0 : (Int × (List (Int × Int)))) (x1 : (List Int)) : Option Int :=
  (cuckoo_Check x0).bind fun u2 => if (u2 ≠ 0) then (some u2) else
(slices_ContainsFunc_Lintint x1 cuckoo_asked_f1).bind fun u9 => if (u9 = true) then (some 1) else
 some 0
def slices_Clone_Lintint (x0 : (List Int)) : Option (List Int) :=
  (lapp ([] : List Int) x0).bind fun u11 => some u11
def cuckoo_placing_rest_J1 (z82 : Int) (z83 : List (List Int)) (z85 : List Bool) (v74 : List Int) : Option Bool :=
  (cuckoo_placing_all (z83, v74, z85) z82).bind fun u90 => some u90.1
def cuckoo_placing_rest_B2 (kx80 : (List Int) → Option Bool) (z138 : List Bool) (rec122 : (List Int) → Option Bool) (x140 : Int) (i122 : Nat) (v126 : List Int) : Option Bool :=
  (lidx z138 (i122 : Int)).bind fun u142 => if ((!u142) = true) then ((lidx v126 (i122 : Int)).bind fun u149 => (lupd v126 (i122 : Int) (-1)).bind fun u154 => rec122 u154) else
 rec122 v126
def cuckoo_placing_rest_L2 (kx80 : (List Int) → Option Bool) (z138 : List Bool) : (List Int) → Nat → (List Int) → Option Bool
  | [], i122, v126 => kx80 v126
  | x140 :: xs, i122, v126 => cuckoo_placing_rest_B2 kx80 z138 (cuckoo_placing_rest_L2 kx80 z138 xs (i122 + 1)) x140 i122 v126
def cuckoo_placing_rest (x0 : ((List (List Int)) × (List Int) × (List Bool))) (x1 : Int) : Option Bool :=
  (slices_Clone_Lintint x0.2.1).bind fun u3 => cuckoo_placing_rest_L2 (cuckoo_placing_rest_J1 x1 x0.1 x0.2.2) x0.2.2 u3 0 u3
def cuckoo_placing_first_B1 (rec172 : (List Int) → (List Bool) → Option (Bool × (List Int) × (List Bool))) (z288 : Int) (z289 : List (List Int)) (rec270 : (List Int) → (List Bool) → Option (Bool × (List Int) × (List Bool))) (x294 : Int) (v274 : List Int) (v280 : List Bool) : Option (Bool × (List Int) × (List Bool)) :=
  (lidx v280 x294).bind fun u299 => if (u299 = true) then (rec270 v274 v280) else
(lidx v280 x294).bind fun u307 => (lupd v280 x294 true).bind fun u312 => (lidx v274 x294).bind fun u318 => (lupd v274 x294 z288).bind fun u323 => (cuckoo_placing_rest (z289, u323, u312) (w64 (z288 + 1))).bind fun u329 => if (u329 = true) then (rec172 u323 u312) else
(lidx u312 x294).bind fun u336 => (lupd u312 x294 false).bind fun u341 => (lidx u323 x294).bind fun u347 => (lupd u323 x294 (-1)).bind fun u352 => rec270 u352 u341
def cuckoo_placing_first_L1 (rec172 : (List Int) → (List Bool) → Option (Bool × (List Int) × (List Bool))) (z288 : Int) (z289 : List (List Int)) : (List Int) → (List Int) → (List Bool) → Option (Bool × (List Int) × (List Bool))
  | [], v274, v280 => some (false, v274, v280)
  | x294 :: xs, v274, v280 => cuckoo_placing_first_B1 rec172 z288 z289 (cuckoo_placing_first_L1 rec172 z288 z289 xs) x294 v274 v280
def cuckoo_placing_first_B2 (z190 : List (List Int)) (rec172 : (List Int) → (List Bool) → Option (Bool × (List Int) × (List Bool))) (x193 : (List Int)) (i172 : Nat) (v176 : List Int) (v182 : List Bool) : Option (Bool × (List Int) × (List Bool)) :=
  cuckoo_placing_first_L1 rec172 (i172 : Int) z190 x193 v176 v182
def cuckoo_placing_first_L2 (z190 : List (List Int)) : (List (List Int)) → Nat → (List Int) → (List Bool) → Option (Bool × (List Int) × (List Bool))
  | [], i172, v176, v182 => some (true, v176, v182)
  | x193 :: xs, i172, v176, v182 => cuckoo_placing_first_B2 z190 (cuckoo_placing_first_L2 z190 xs (i172 + 1)) x193 i172 v176 v182
def cuckoo_placing_first (x0 : ((List (List Int)) × (List Int) × (List Bool))) : Option (Bool × (List Int) × (List Bool)) :=
  cuckoo_placing_first_L2 x0.1 x0.1 0 x0.2.1 x0.2.2
def cuckoo_Assign (x0 : (Int × (List (Int × Int)))) (x1 : (List Int)) : Option ((List Int) × Int) :=
  (cuckoo_asked x0 x1).bind fun u3 => if (u3 ≠ 0) then (some (([] : List Int), u3)) else
 if (x0.1 < (x1.length : Int)) then (some (([] : List Int), 4)) else
(cuckoo_start x0 x1).bind fun u13 => (cuckoo_placing_first u13).bind fun u43 => if ((!u43.1) = true) then (some (([] : List Int), 15)) else
 some (u43.2.1, 0)
end Go.Proofs.YtnfalgmfmiolbaaGreat
end

section
namespace Go.Proofs.YtnfalgmfmiolbaaGreat
theorem nz_ok {y : Int} (h : y ≠ 0) : nz y = some () := by unfold nz; rw [if_neg h]
theorem lidx_ok {α : Type} {l : List α} {i : Int} (d : α) (h0 : 0 ≤ i) (h1 : i < l.length) : lidx l i = some (l.getD i.toNat d) := by
  refine lidx_of h0 ?_
  rw [List.getD_eq_getElem?_getD]
  have : i.toNat < l.length := by omega
  simp [this]
theorem lidx_nat {α : Type} {l : List α} {i : Nat} (d : α) (h1 : i < l.length) : lidx l (i : Int) = some (l.getD i d) := by
  rw [lidx_ok d (by omega) (by omega), Int.toNat_natCast]
theorem lapp_ok {α : Type} {l m : List α} (h : l.length + m.length ≤ 16777216) : lapp l m = some (l ++ m) := by unfold lapp; rw [if_pos h]
theorem lsub_ok {α : Type} {l : List α} {i j : Int} (h0 : 0 ≤ i) (h1 : i ≤ j) (h2 : j ≤ l.length) : lsub l i j = some ((l.drop i.toNat).take (j - i).toNat) := by unfold lsub; rw [if_pos ⟨h0, h1, h2⟩]
theorem lupd_ok {α : Type} {l : List α} {i : Int} {y : α} (h0 : 0 ≤ i) (h1 : i < l.length) : lupd l i y = some (l.set i.toNat y) := by unfold lupd; rw [if_pos ⟨h0, h1⟩]
end Go.Proofs.YtnfalgmfmiolbaaGreat
end

section
namespace Go.Proofs.YtnfalgmfmiolbaaGreat
set_option linter.unusedVariables false
def at' {α : Type} (d : α) (l : List α) (b : Int) : α := l.getD b.toNat d
theorem at_idx {α : Type} (d : α) {l : List α} {b : Int} (h0 : 0 ≤ b) (h1 : b < l.length) : lidx l b = some (at' d l b) := lidx_ok d h0 h1
theorem at_set {α : Type} (d : α) {l : List α} {b c : Int} {y : α} (h0 : 0 ≤ b) (h1 : b < l.length) (hc : 0 ≤ c) : at' d (l.set b.toNat y) c = if c = b then y else at' d l c := by
  unfold at'
  rw [List.getD_eq_getElem?_getD, List.getElem?_set]
  by_cases h : c = b
  · subst h; rw [if_pos rfl, if_pos rfl, if_pos (by omega)]; rfl
  · rw [if_neg (by omega), if_neg h, List.getD_eq_getElem?_getD]
theorem at_mem {α : Type} (d : α) {l : List α} {b : Int} (h0 : 0 ≤ b) (h1 : b < l.length) : at' d l b ∈ l := by
  unfold at'
  rw [List.getD_eq_getElem?_getD, List.getElem?_eq_getElem (by omega)]
  exact List.getElem_mem _
theorem at_of_mem {α : Type} (d : α) {l : List α} {x : α} (h : x ∈ l) : ∃ b : Int, 0 ≤ b ∧ b < l.length ∧ at' d l b = x := by
  obtain ⟨i, hi, rfl⟩ := List.getElem_of_mem h
  refine ⟨i, by omega, by omega, ?_⟩
  unfold at'
  rw [Int.toNat_natCast, List.getD_eq_getElem?_getD, List.getElem?_eq_getElem hi]; rfl
theorem count_setN {α : Type} [DecidableEq α] (d j y : α) : ∀ (l : List α) (n : Nat), n < l.length → (l.set n y).count j + (if l.getD n d = j then 1 else 0) = l.count j + (if y = j then 1 else 0)
  | [], n, h => by simp at h
  | x :: l, 0, h => by
    simp only [List.set_cons_zero, List.getD_cons_zero, List.count_cons, beq_iff_eq]
    omega
  | x :: l, n + 1, h => by
    have := count_setN d j y l n (by simpa using h)
    simp only [List.set_cons_succ, List.getD_cons_succ, List.count_cons]
    omega
theorem count_set' {α : Type} [DecidableEq α] (d : α) (j y : α) {l : List α} {b : Int} (h0 : 0 ≤ b) (h1 : b < l.length) : (l.set b.toNat y).count j + (if at' d l b = j then 1 else 0) = l.count j + (if y = j then 1 else 0) :=
  count_setN d j y l b.toNat (by omega)
theorem count_false_lt {l : List Bool} {b : Int} (h0 : 0 ≤ b) (h1 : b < l.length) (h : at' false l b = false) : (l.set b.toNat true).count false + 1 = l.count false := by
  have := count_set' false false true h0 h1
  rw [h] at this
  simpa using this
theorem count_le_of {s t : List Bool} (hl : s.length = t.length) (h : ∀ b : Int, 0 ≤ b → b < s.length → at' false s b = true → at' false t b = true) : t.count false ≤ s.count false := by
  induction s generalizing t with
  | nil => cases t with
    | nil => simp
    | cons _ _ => simp at hl
  | cons x s ih =>
    cases t with
    | nil => simp at hl
    | cons y t =>
      simp only [List.length_cons, Nat.add_right_cancel_iff] at hl
      have h1 := ih hl fun b h0 hb ht => by
        have := h (b + 1) (by omega) (by simp; omega)
        have e : (b + 1).toNat = b.toNat + 1 := by omega
        simp only [at', e, List.getD_cons_succ] at this
        exact this ht
      have h2 := h 0 (by omega) (by simp only [List.length_cons]; omega)
      simp only [at', Int.toNat_zero, List.getD_cons_zero] at h2
      simp only [List.count_cons]
      cases x <;> cases y
      · simp; omega
      · simp; omega
      · exact absurd (h2 rfl) (by simp)
      · simp; omega
def HomesOK (B : Int) (homes : List (List Int)) : Prop := ∀ l ∈ homes, ∀ b ∈ l, 0 ≤ b ∧ b < B
def BkOK (B : Int) (homes : List (List Int)) (bk : List Int) : Prop := (bk.length : Int) = B ∧ ∀ v ∈ bk, -1 ≤ v ∧ v < homes.length
abbrev Bk := List Int
structure Won (B : Int) (homes : List (List Int)) (fixed seen : List Bool) (i : Int) (bk bk' : Bk) : Prop where
  ok : BkOK B homes bk'
  still : ∀ b, 0 ≤ b → b < B → (at' false seen b = true ∨ at' false fixed b = true) → at' (-1) bk' b = at' (-1) bk b
  kept : ∀ b, 0 ≤ b → b < B → 0 ≤ at' (-1) bk b → 0 ≤ at' (-1) bk' b
  edge : ∀ b, 0 ≤ b → b < B → at' (-1) bk' b = at' (-1) bk b ∨ (0 ≤ at' (-1) bk' b ∧ b ∈ at' [] homes (at' (-1) bk' b))
  count : ∀ j, 0 ≤ j → bk'.count j = bk.count j + if i = j then 1 else 0
structure Lost (B : Int) (homes : List (List Int)) (fixed seen seen' : List Bool) (hs : List Int) (bk : Bk) : Prop where
  all : ∀ b ∈ hs, at' false fixed b = true ∨ at' false seen' b = true
  closed : ∀ b, 0 ≤ b → b < B → at' false seen' b = true → at' false seen b = false → 0 ≤ at' (-1) bk b ∧ at' false fixed b = false ∧ ∀ c ∈ at' [] homes (at' (-1) bk b), at' false fixed c = true ∨ at' false seen' c = true
def SeenLe (B : Int) (s t : List Bool) : Prop := ∀ b, 0 ≤ b → b < B → at' false s b = true → at' false t b = true
theorem place_loop (B : Int) (homes : List (List Int)) (fixed : List Bool) (hh : HomesOK B homes) (hf : (fixed.length : Int) = B) (i : Int) (hi : 0 ≤ i ∧ i < homes.length) (m : Nat)
    (ih : ∀ (i : Int) (seen : List Bool) (bk : Bk), 0 ≤ i → i < homes.length → (seen.length : Int) = B → BkOK B homes bk → seen.count false < m → ∃ r bk' seen', cuckoo_placing_place_R m (homes, bk, fixed) i seen = some (r, bk', seen') ∧ (seen'.length : Int) = B ∧ SeenLe B seen seen' ∧
      (r = true → Won B homes fixed seen i bk bk') ∧ (r = false → bk' = bk ∧ Lost B homes fixed seen seen' (at' [] homes i) bk)) :
    ∀ (hs : List Int) (seen : List Bool) (bk : Bk), (∀ b ∈ hs, b ∈ at' [] homes i) → (seen.length : Int) = B → BkOK B homes bk → seen.count false < m + 1 →
      ∃ r bk' seen', cuckoo_placing_place_L1 (cuckoo_placing_place_R m) i homes fixed hs seen bk = some (r, bk', seen') ∧ (seen'.length : Int) = B ∧ SeenLe B seen seen' ∧
        (r = true → Won B homes fixed seen i bk bk') ∧ (r = false → bk' = bk ∧ Lost B homes fixed seen seen' hs bk)
  | [], seen, bk, _, hs, hb, _ => ⟨false, bk, seen, rfl, hs, fun _ _ _ h => h, by simp, fun _ => ⟨rfl, by simp, fun b _ _ h1 h2 => by rw [h1] at h2; cases h2⟩⟩
  | b :: hs, seen, bk, hm, hs', hb, hc => by
    have hbi : b ∈ at' [] homes i := hm b List.mem_cons_self
    obtain ⟨b0, bB⟩ := hh _ (at_mem [] hi.1 hi.2) b hbi
    have ih2 := fun seen bk => place_loop B homes fixed hh hf i hi m ih hs seen bk (fun c h => hm c (List.mem_cons_of_mem _ h))
    rw [cuckoo_placing_place_L1]
    unfold cuckoo_placing_place_B1
    rw [at_idx false b0 (by omega), at_idx false b0 (by omega)]
    simp only [Option.bind_some]
    have hskip : (at' false seen b = true ∨ at' false fixed b = true) → ∃ r bk' seen', cuckoo_placing_place_L1 (cuckoo_placing_place_R m) i homes fixed hs seen bk = some (r, bk', seen') ∧ (seen'.length : Int) = B ∧ SeenLe B seen seen' ∧
        (r = true → Won B homes fixed seen i bk bk') ∧ (r = false → bk' = bk ∧ Lost B homes fixed seen seen' (b :: hs) bk) := fun hsf => by
      obtain ⟨r, bk', seen', e, h1, h2, h3, h4⟩ := ih2 seen bk hs' hb hc
      refine ⟨r, bk', seen', e, h1, h2, h3, fun hr => ⟨(h4 hr).1, fun c hc' => ?_, (h4 hr).2.closed⟩⟩
      rcases List.mem_cons.1 hc' with rfl | hc'
      · rcases hsf with h | h
        · exact .inr (h2 _ b0 bB h)
        · exact .inl h
      · exact (h4 hr).2.all c hc'
    by_cases h1 : at' false seen b = true
    · rw [if_pos h1]; simp only [Option.bind_some, if_true]; exact hskip (.inl h1)
    · rw [if_neg h1]
      simp only [Option.bind_some]
      by_cases h2 : at' false fixed b = true
      · rw [if_pos h2]; exact hskip (.inr h2)
      · rw [if_neg h2, at_idx (-1) b0 (by rw [hb.1]; exact bB)]
        simp only [Option.bind_some]
        have h1' : at' false seen b = false := by simpa using h1
        have h2' : at' false fixed b = false := by simpa using h2
        have hbl : b < bk.length := by rw [hb.1]; exact bB
        by_cases h3 : at' (-1) bk b < 0
        · rw [if_pos h3, lupd_ok b0 hbl]
          simp only [Option.bind_some]
          refine ⟨true, _, seen, rfl, hs', fun _ _ _ h => h, fun _ => ⟨⟨by simpa using hb.1, fun v hv => ?_⟩, fun c c0 cB hc' => ?_, fun c c0 cB hc' => ?_, fun c c0 cB => ?_, fun j hj => ?_⟩, by simp⟩
          · rcases List.mem_or_eq_of_mem_set hv with h | rfl
            · exact hb.2 v h
            · omega
          · rw [at_set (-1) b0 hbl c0]
            split
            · rename_i e; subst e; rcases hc' with h | h
              · rw [h1'] at h; cases h
              · rw [h2'] at h; cases h
            · rfl
          · rw [at_set (-1) b0 hbl c0]; split
            · exact hi.1
            · exact hc'
          · rw [at_set (-1) b0 hbl c0]; split
            · rename_i e; subst e; exact .inr ⟨hi.1, hbi⟩
            · exact .inl rfl
          · have := count_set' (-1) j i b0 hbl
            rw [if_neg (by omega : ¬ at' (-1) bk b = j)] at this
            simpa using this
        · rw [if_neg h3, lupd_ok b0 (by omega)]
          simp only [Option.bind_some]
          have hlt : b < seen.length := by omega
          have ho := hb.2 _ (at_mem (-1) b0 hbl)
          obtain ⟨r, bk1, seen1, e1, l1, m1, w1, f1⟩ := ih (at' (-1) bk b) (seen.set b.toNat true) bk (by omega) ho.2 (by simpa using hs') hb (by have := count_false_lt b0 hlt h1'; omega)
          rw [e1]
          simp only [Option.bind_some]
          have hsb : at' false (seen.set b.toNat true) b = true := by rw [at_set false b0 hlt b0, if_pos rfl]
          have hle : SeenLe B seen (seen.set b.toNat true) := fun c c0 cB h => by rw [at_set false b0 hlt c0]; split; rfl; exact h
          cases r with
          | true =>
            have hw := w1 rfl
            have hb1 : b < bk1.length := by rw [hw.ok.1]; exact bB
            rw [if_pos rfl, at_idx (-1) b0 hb1]
            simp only [Option.bind_some]
            rw [lupd_ok b0 hb1]
            simp only [Option.bind_some]
            have hst : at' (-1) bk1 b = at' (-1) bk b := hw.still b b0 bB (.inl hsb)
            refine ⟨true, _, seen1, rfl, l1, fun c c0 cB h => m1 c c0 cB (hle c c0 cB h), fun _ => ⟨⟨by simpa using hw.ok.1, fun v hv => ?_⟩, fun c c0 cB hc' => ?_, fun c c0 cB hc' => ?_, fun c c0 cB => ?_, fun j hj => ?_⟩, by simp⟩
            · rcases List.mem_or_eq_of_mem_set hv with h | rfl
              · exact hw.ok.2 v h
              · omega
            · rw [at_set (-1) b0 hb1 c0]
              split
              · rename_i e; subst e; rcases hc' with h | h
                · rw [h1'] at h; cases h
                · rw [h2'] at h; cases h
              · exact hw.still c c0 cB (hc'.imp (hle c c0 cB) id)
            · rw [at_set (-1) b0 hb1 c0]; split
              · exact hi.1
              · exact hw.kept c c0 cB hc'
            · rw [at_set (-1) b0 hb1 c0]; split
              · rename_i e; subst e; exact .inr ⟨hi.1, hbi⟩
              · exact hw.edge c c0 cB
            · have h5 := count_set' (-1) j i b0 hb1
              have h6 := hw.count j hj
              rw [hst] at h5
              omega
          | false =>
            rw [if_neg (by simp)]
            obtain ⟨rfl, hlost⟩ := f1 rfl
            have hcle := count_le_of (s := seen.set b.toNat true) (t := seen1) (by rw [List.length_set]; omega) (fun c c0 cl h => m1 c c0 (by simp at cl; omega) h)
            have hcl := count_false_lt b0 hlt h1'
            obtain ⟨r, bk2, seen2, e2, l2, m2, w2, f2⟩ := ih2 seen1 bk1 l1 hb (by omega)
            refine ⟨r, bk2, seen2, e2, l2, fun c c0 cB h => m2 c c0 cB (m1 c c0 cB (hle c c0 cB h)), fun hr => ?_, fun hr => ?_⟩
            · have hw := w2 hr
              exact ⟨hw.ok, fun c c0 cB hc' => hw.still c c0 cB (hc'.imp (fun h => m1 c c0 cB (hle c c0 cB h)) id), hw.kept, hw.edge, hw.count⟩
            · obtain ⟨rfl, hl2⟩ := f2 hr
              refine ⟨rfl, fun c hc' => ?_, fun c c0 cB hs2 hs0 => ?_⟩
              · rcases List.mem_cons.1 hc' with rfl | hc'
                · exact .inr (m2 _ b0 bB (m1 _ b0 bB hsb))
                · exact hl2.all c hc'
              · have hup : ∀ x ∈ at' [] homes (at' (-1) bk2 c), 0 ≤ at' (-1) bk2 c → (at' false fixed x = true ∨ at' false seen1 x = true) → at' false fixed x = true ∨ at' false seen2 x = true := fun x hx h0 h => by
                  have hv := hb.2 _ (at_mem (-1) c0 (by rw [hb.1]; exact cB))
                  obtain ⟨x0, xB⟩ := hh _ (at_mem [] h0 hv.2) x hx
                  exact h.imp id (m2 x x0 xB)
                by_cases hs1 : at' false seen1 c = true
                · by_cases hcb : c = b
                  · subst hcb
                    refine ⟨by omega, h2', fun x hx => hup x hx (by omega) (hlost.all x hx)⟩
                  · have hs3 : at' false (seen.set b.toNat true) c = false := by rw [at_set false b0 hlt c0, if_neg hcb]; exact hs0
                    obtain ⟨g1, g2, g3⟩ := hlost.closed c c0 cB hs1 hs3
                    exact ⟨g1, g2, fun x hx => hup x hx g1 (g3 x hx)⟩
                · exact hl2.closed c c0 cB hs2 (by simpa using hs1)
theorem place_ok (B : Int) (homes : List (List Int)) (fixed : List Bool) (hh : HomesOK B homes) (hf : (fixed.length : Int) = B) : ∀ (m : Nat) (i : Int) (seen : List Bool) (bk : Bk), 0 ≤ i → i < homes.length → (seen.length : Int) = B → BkOK B homes bk → seen.count false < m →
    ∃ r bk' seen', cuckoo_placing_place_R m (homes, bk, fixed) i seen = some (r, bk', seen') ∧ (seen'.length : Int) = B ∧ SeenLe B seen seen' ∧ (r = true → Won B homes fixed seen i bk bk') ∧ (r = false → bk' = bk ∧ Lost B homes fixed seen seen' (at' [] homes i) bk)
  | 0, i, seen, bk, _, _, _, _, h => by omega
  | m + 1, i, seen, bk, h0, h1, hs, hb, hc => by
    rw [cuckoo_placing_place_R]
    unfold cuckoo_placing_place_B2
    rw [at_idx [] h0 h1]
    simp only [Option.bind_some]
    exact place_loop B homes fixed hh hf i ⟨h0, h1⟩ m (place_ok B homes fixed hh hf m) _ seen bk (fun _ h => h) hs hb hc
end Go.Proofs.YtnfalgmfmiolbaaGreat
namespace Go.Proofs.YtnfalgmfmiolbaaGreat
set_option linter.unusedVariables false
theorem pig : ∀ {l m : List Int}, l.Nodup → (∀ x ∈ l, x ∈ m) → l.length ≤ m.length
  | [], m, _, _ => by simp
  | x :: l, m, hn, hs => by
    obtain ⟨h1, h2⟩ := List.nodup_cons.1 hn
    have hx := hs x List.mem_cons_self
    have h3 := pig (l := l) (m := m.erase x) h2 fun y hy => by
      have hne : y ≠ x := fun e => h1 (e ▸ hy)
      exact (List.mem_erase_of_ne hne).2 (hs y (List.mem_cons_of_mem _ hy))
    have h4 := List.length_erase_of_mem hx
    have h5 : 0 < m.length := List.length_pos_of_mem hx
    simp only [List.length_cons]; omega
theorem nodup_map {α β : Type} {f : α → β} : ∀ {l : List α}, l.Nodup → (∀ x ∈ l, ∀ y ∈ l, f x = f y → x = y) → (l.map f).Nodup
  | [], _, _ => by simp
  | x :: l, hn, hi => by
    obtain ⟨h1, h2⟩ := List.nodup_cons.1 hn
    rw [List.map_cons, List.nodup_cons]
    refine ⟨fun hm => ?_, nodup_map h2 fun a ha b hb => hi a (List.mem_cons_of_mem _ ha) b (List.mem_cons_of_mem _ hb)⟩
    obtain ⟨y, hy, e⟩ := List.mem_map.1 hm
    have := hi y (List.mem_cons_of_mem _ hy) x List.mem_cons_self e
    exact h1 (this ▸ hy)
theorem at_count {l : List Int} {b c j : Int} (hb : 0 ≤ b ∧ b < l.length) (hc : 0 ≤ c ∧ c < l.length) (h1 : at' (-1) l b = j) (h2 : at' (-1) l c = j) (hne : b ≠ c) : 2 ≤ l.count j := by
  have h3 := count_set' (-1) j (j + 1) hb.1 hb.2
  rw [if_pos h1, if_neg (by omega)] at h3
  have h4 : at' (-1) (l.set b.toNat (j + 1)) c = j := by rw [at_set (-1) hb.1 hb.2 hc.1, if_neg (fun e => hne e.symm)]; exact h2
  have h5 := at_mem (-1) (l := l.set b.toNat (j + 1)) hc.1 (by simpa using hc.2)
  rw [h4] at h5
  have := List.count_pos_iff.2 h5
  omega
theorem at_count1 {l : List Int} {b j : Int} (hb : 0 ≤ b ∧ b < l.length) (h1 : at' (-1) l b = j) : 1 ≤ l.count j := List.count_pos_iff.2 (h1 ▸ at_mem (-1) hb.1 hb.2)
def Places (homes : List (List Int)) (fixed : List Bool) (a : Int) (f : Int → Int) : Prop :=
  (∀ j, a ≤ j → j < homes.length → f j ∈ at' [] homes j ∧ at' false fixed (f j) = false) ∧ ∀ j k, a ≤ j → j < homes.length → a ≤ k → k < homes.length → f j = f k → j = k
def Placeable (homes : List (List Int)) (fixed : List Bool) (a : Int) : Prop := ∃ f, Places homes fixed a f
structure Stand (B : Int) (homes : List (List Int)) (fixed : List Bool) (a i : Int) (bk : Bk) : Prop where
  ok : BkOK B homes bk
  le : ∀ j, 0 ≤ j → bk.count j ≤ 1
  one : ∀ j, a ≤ j → j < i → bk.count j = 1
  none : ∀ j, i ≤ j → bk.count j = 0
  free : ∀ b, 0 ≤ b → b < B → at' false fixed b = false → 0 ≤ at' (-1) bk b → a ≤ at' (-1) bk b ∧ b ∈ at' [] homes (at' (-1) bk b)
  fix : ∀ b, 0 ≤ b → b < B → at' false fixed b = true → at' (-1) bk b < a
theorem Stand.places {B : Int} {homes : List (List Int)} {fixed : List Bool} {a : Int} {bk : Bk} (ha : 0 ≤ a) (h : Stand B homes fixed a homes.length bk) : Placeable homes fixed a := by
  classical
  have hex : ∀ j, a ≤ j → j < homes.length → ∃ b, 0 ≤ b ∧ b < B ∧ at' (-1) bk b = j := fun j h1 h2 => by
    have hm : j ∈ bk := List.count_pos_iff.1 (by rw [h.one j h1 h2]; omega)
    obtain ⟨b, h3, h4, h5⟩ := at_of_mem (-1) hm
    exact ⟨b, h3, by rw [← h.ok.1]; exact h4, h5⟩
  refine ⟨fun j => if hj : ∃ b, 0 ≤ b ∧ b < B ∧ at' (-1) bk b = j then hj.choose else 0, fun j h1 h2 => ?_, fun j k h1 h2 h3 h4 e => ?_⟩
  · have hj := hex j h1 h2
    have := hj.choose_spec
    simp only [dif_pos hj]
    obtain ⟨b0, bB, hb⟩ := this
    by_cases hfx : at' false fixed hj.choose = true
    · have := h.fix _ b0 bB hfx; omega
    · have hfx' : at' false fixed hj.choose = false := by simpa using hfx
      refine ⟨?_, hfx'⟩
      have := (h.free _ b0 bB hfx' (by omega)).2
      rwa [hb] at this
  · have hj := hex j h1 h2
    have hk := hex k h3 h4
    simp only [dif_pos hj, dif_pos hk] at e
    rw [← hj.choose_spec.2.2, ← hk.choose_spec.2.2, e]
theorem no_way {B : Int} {homes : List (List Int)} {fixed seen seen' : List Bool} {a i : Int} {bk : Bk} (hh : HomesOK B homes) (hs : Stand B homes fixed a i bk) (ha : 0 ≤ a ∧ a ≤ i) (hi : i < homes.length) (h0 : ∀ b, 0 ≤ b → b < B → at' false seen b = false)
    (hl : Lost B homes fixed seen seen' (at' [] homes i) bk) : ¬ Placeable homes fixed a := by
  rintro ⟨f, hf1, hf2⟩
  let R : List Int := ((List.range B.toNat).map fun (b : Nat) => (b : Int)).filter fun b => at' false seen' b
  have hR : ∀ b, b ∈ R ↔ (0 ≤ b ∧ b < B) ∧ at' false seen' b = true := fun b => by
    simp only [R, List.mem_filter, List.mem_map, List.mem_range]
    constructor
    · rintro ⟨⟨n, hn, rfl⟩, h⟩; exact ⟨⟨by omega, by omega⟩, h⟩
    · rintro ⟨⟨h1, h2⟩, h⟩; exact ⟨⟨b.toNat, by omega, by omega⟩, h⟩
  have hRn : R.Nodup := List.Pairwise.filter _ (nodup_map List.nodup_range fun x _ y _ e => by omega)
  have hcl : ∀ b ∈ R, 0 ≤ at' (-1) bk b ∧ at' false fixed b = false ∧ ∀ c ∈ at' [] homes (at' (-1) bk b), at' false fixed c = true ∨ at' false seen' c = true := fun b hb => by
    obtain ⟨⟨b0, bB⟩, h⟩ := (hR b).1 hb
    exact hl.closed b b0 bB h (h0 b b0 bB)
  have hin : ∀ b ∈ R, a ≤ at' (-1) bk b ∧ at' (-1) bk b < i := fun b hb => by
    obtain ⟨⟨b0, bB⟩, h⟩ := (hR b).1 hb
    obtain ⟨g1, g2, _⟩ := hcl b hb
    refine ⟨(hs.free b b0 bB g2 g1).1, ?_⟩
    rcases Int.lt_or_le (at' (-1) bk b) i with h | h
    · exact h
    · have h1 := hs.none _ h
      have h2 := at_count1 (l := bk) ⟨b0, by rw [hs.ok.1]; exact bB⟩ rfl
      omega
  -- the items that are in the way, and the new one
  have hXn : (i :: R.map fun b => at' (-1) bk b).Nodup := by
    refine List.nodup_cons.2 ⟨fun hm => ?_, nodup_map hRn fun x hx y hy e => ?_⟩
    · obtain ⟨b, hb, e⟩ := List.mem_map.1 hm
      have := (hin b hb).2; omega
    · rcases Decidable.em (x = y) with h | h
      · exact h
      · obtain ⟨⟨x0, xB⟩, _⟩ := (hR x).1 hx
        obtain ⟨⟨y0, yB⟩, _⟩ := (hR y).1 hy
        have h1 := at_count (l := bk) ⟨x0, by rw [hs.ok.1]; exact xB⟩ ⟨y0, by rw [hs.ok.1]; exact yB⟩ rfl e.symm h
        have h2 := hs.one _ (hin x hx).1 (hin x hx).2
        omega
  have hXr : ∀ x ∈ (i :: R.map fun b => at' (-1) bk b), (a ≤ x ∧ x < homes.length) ∧ f x ∈ R := fun x hx => by
    rcases List.mem_cons.1 hx with rfl | hx
    · obtain ⟨h1, h2⟩ := hf1 x ha.2 hi
      refine ⟨⟨ha.2, hi⟩, (hR _).2 ⟨hh _ (at_mem [] (by omega) hi) _ h1, ?_⟩⟩
      rcases hl.all _ h1 with h | h
      · rw [h2] at h; cases h
      · exact h
    · obtain ⟨b, hb, rfl⟩ := List.mem_map.1 hx
      have hr := hin b hb
      obtain ⟨h1, h2⟩ := hf1 _ hr.1 (by omega)
      refine ⟨⟨hr.1, by omega⟩, (hR _).2 ⟨hh _ (at_mem [] (by omega) (by omega)) _ h1, ?_⟩⟩
      rcases (hcl b hb).2.2 _ h1 with h | h
      · rw [h2] at h; cases h
      · exact h
  have h1 := pig (nodup_map (f := f) hXn fun x hx y hy e => hf2 x y (hXr x hx).1.1 (hXr x hx).1.2 (hXr y hy).1.1 (hXr y hy).1.2 e) (m := R) (fun y hy => by
    obtain ⟨x, hx, rfl⟩ := List.mem_map.1 hy
    exact (hXr x hx).2)
  simp at h1
  omega
theorem Stand.won {B : Int} {homes : List (List Int)} {fixed seen : List Bool} {a i : Int} {bk bk' : Bk} (hs : Stand B homes fixed a i bk) (ha : 0 ≤ a ∧ a ≤ i) (hw : Won B homes fixed seen i bk bk') : Stand B homes fixed a (i + 1) bk' where
  ok := hw.ok
  le j h := by
    rw [hw.count j h]
    by_cases he : i = j
    · rw [if_pos he, hs.none j (by omega)]; omega
    · rw [if_neg he]; exact hs.le j h
  one j h1 h2 := by
    rw [hw.count j (by omega)]
    by_cases h : i = j
    · rw [if_pos h, hs.none j (by omega)]
    · rw [if_neg h, hs.one j h1 (by omega)]
  none j h := by rw [hw.count j (by omega), if_neg (by omega), hs.none j (by omega)]
  free b b0 bB hf hb := by
    rcases hw.edge b b0 bB with h | ⟨_, h⟩
    · rw [h] at hb ⊢; exact hs.free b b0 bB hf hb
    · refine ⟨?_, h⟩
      -- it is i, or stood somewhere
      rcases Int.lt_or_le (at' (-1) bk' b) a with hlt | hge
      · exfalso
        have hne : i ≠ at' (-1) bk' b := by omega
        have h1 := hw.count _ hb
        rw [if_neg hne] at h1
        have h2 := at_count1 (l := bk') ⟨b0, by rw [hw.ok.1]; exact bB⟩ rfl
        have hm : at' (-1) bk' b ∈ bk := List.count_pos_iff.1 (by omega)
        obtain ⟨c, c0, cB, hc⟩ := at_of_mem (-1) hm
        have cB' : c < B := by rw [← hs.ok.1]; exact cB
        by_cases hfc : at' false fixed c = true
        · -- c is fixed, and holds it still; so do two buckets
          have h3 := hw.still c c0 cB' (.inr hfc)
          have hbc : b ≠ c := fun e => by subst e; rw [hf] at hfc; cases hfc
          have h4 := at_count (l := bk') ⟨b0, by rw [hw.ok.1]; exact bB⟩ ⟨c0, by rw [hw.ok.1]; exact cB'⟩ rfl (by rw [h3, hc]) hbc
          have h5 := hs.le _ hb
          omega
        · have := (hs.free c c0 cB' (by simpa using hfc) (by rw [hc]; exact hb)).1
          rw [hc] at this; omega
      · exact hge
  fix b b0 bB hf := by rw [hw.still b b0 bB (.inr hf)]; exact hs.fix b b0 bB hf
theorem all_L (B : Int) (homes : List (List Int)) (fixed : List Bool) (hh : HomesOK B homes) (hf : (fixed.length : Int) = B) (hB : B ≤ 1000) (hn : (homes.length : Int) ≤ 100000) (a : Int) (ha : 0 ≤ a) :
    ∀ (m : Nat) (i : Int) (bk : Bk), a ≤ i → i ≤ homes.length → (homes.length : Int) - i < m → Stand B homes fixed a i bk →
      ∃ r bk', cuckoo_placing_all_L1 homes fixed m i bk = some (r, bk') ∧ (r = true → Stand B homes fixed a homes.length bk' ∧ ∀ b, 0 ≤ b → b < B → at' false fixed b = true → at' (-1) bk' b = at' (-1) bk b) ∧ (r = true ↔ Placeable homes fixed a)
  | 0, i, bk, _, h2, h3, _ => by omega
  | m + 1, i, bk, h1, h2, h3, hs => by
    rw [cuckoo_placing_all_L1]
    unfold cuckoo_placing_all_B1
    by_cases hi : i < homes.length
    · rw [if_pos hi]
      have hbl := hs.ok.1
      have hmk : lmk (bk.length : Int) false = some (List.replicate bk.length false) := by
        unfold lmk; rw [if_pos (by omega), Int.toNat_natCast]
      rw [hmk]
      simp only [Option.bind_some]
      have h0 : ∀ b, 0 ≤ b → b < B → at' false (List.replicate bk.length false) b = false := fun b b0 bB => by
        unfold at'
        rw [List.getD_eq_getElem?_getD, List.getElem?_replicate]; split <;> rfl
      obtain ⟨r, bk1, seen1, e, l1, m1, w1, f1⟩ := place_ok B homes fixed hh hf big i (List.replicate bk.length false) bk (by omega) hi (by simpa using hbl) hs.ok (by
        have := List.count_le_length (a := false) (l := List.replicate bk.length false)
        rw [List.length_replicate] at this
        simp only [big]; omega)
      unfold cuckoo_placing_place
      rw [e]
      simp only [Option.bind_some]
      cases r with
      | true =>
        simp only [Bool.not_true, Bool.false_eq_true, if_false]
        rw [w64_id (by omega) (by omega)]
        have hw := w1 rfl
        obtain ⟨r, bk2, e2, g1, g2⟩ := all_L B homes fixed hh hf hB hn a ha m (i + 1) bk1 (by omega) (by omega) (by omega) (hs.won ⟨ha, h1⟩ hw)
        exact ⟨r, bk2, e2, fun hr => ⟨(g1 hr).1, fun b b0 bB hb => by rw [(g1 hr).2 b b0 bB hb, hw.still b b0 bB (.inr hb)]⟩, g2⟩
      | false =>
        simp only [Bool.not_false, if_true]
        obtain ⟨rfl, hl⟩ := f1 rfl
        exact ⟨false, bk1, rfl, by simp, by simp [no_way hh hs ⟨ha, h1⟩ hi h0 hl]⟩
    · rw [if_neg hi]
      have : i = homes.length := by omega
      subst this
      exact ⟨true, bk, rfl, fun _ => ⟨hs, fun _ _ _ _ => rfl⟩, by simp [hs.places ha]⟩
theorem all_ok {B : Int} {homes : List (List Int)} {fixed : List Bool} (hh : HomesOK B homes) (hf : (fixed.length : Int) = B) (hB : B ≤ 1000) (hn : (homes.length : Int) ≤ 100000) {a : Int} (ha : 0 ≤ a ∧ a ≤ homes.length) {bk : Bk} (hs : Stand B homes fixed a a bk) :
    ∃ r bk', cuckoo_placing_all (homes, bk, fixed) a = some (r, bk') ∧ (r = true → Stand B homes fixed a homes.length bk' ∧ ∀ b, 0 ≤ b → b < B → at' false fixed b = true → at' (-1) bk' b = at' (-1) bk b) ∧ (r = true ↔ Placeable homes fixed a) := by
  unfold cuckoo_placing_all
  exact all_L B homes fixed hh hf hB hn a ha.1 big a bk (Int.le_refl _) ha.2 (by simp only [big]; omega) hs
end Go.Proofs.YtnfalgmfmiolbaaGreat
namespace Go.Proofs.YtnfalgmfmiolbaaGreat
set_option linter.unusedVariables false
structure Fst (B : Int) (homes : List (List Int)) (fixed : List Bool) (i : Int) (bk : Bk) : Prop where
  ok : BkOK B homes bk
  len : (fixed.length : Int) = B
  le : ∀ j, 0 ≤ j → bk.count j ≤ 1
  fix : ∀ b, 0 ≤ b → b < B → (at' false fixed b = true ↔ 0 ≤ at' (-1) bk b)
  lt : ∀ b, 0 ≤ b → b < B → at' (-1) bk b < i
theorem Fst.stand {B : Int} {homes : List (List Int)} {fixed : List Bool} {i : Int} {bk : Bk} (h : Fst B homes fixed i bk) : Stand B homes fixed i i bk where
  ok := h.ok
  le := h.le
  one j h1 h2 := by omega
  none j hj := by
    rcases Nat.eq_zero_or_pos (bk.count j) with h0 | h0
    · exact h0
    · obtain ⟨b, b0, bB, e⟩ := at_of_mem (-1) (List.count_pos_iff.1 h0)
      have := h.lt b b0 (by rw [← h.ok.1]; exact bB)
      omega
  free b b0 bB hf hb := by have := (h.fix b b0 bB).2 hb; rw [hf] at this; cases this
  fix b b0 bB _ := h.lt b b0 bB
theorem set_at {α : Type} (d : α) {l : List α} {b : Int} {y : α} (h0 : 0 ≤ b) (h1 : b < l.length) (h : at' d l b = y) : l.set b.toNat y = l := by
  have hlt : b.toNat < l.length := by omega
  have : l[b.toNat] = y := by
    rw [← h]; unfold at'; rw [List.getD_eq_getElem?_getD, List.getElem?_eq_getElem hlt]; rfl
  rw [← this]; exact List.set_getElem_self hlt
theorem rest_loop {B : Int} {homes : List (List Int)} {fixed : List Bool} {i : Int} {bk : Bk} (h : Fst B homes fixed i bk) (kx : List Int → Option Bool) : ∀ (xs : List Int) (n : Nat), bk.drop n = xs → cuckoo_placing_rest_L2 kx fixed xs n bk = kx bk
  | [], n, _ => rfl
  | x :: xs, n, hd => by
    have hn : n < bk.length := by
      rcases Nat.lt_or_ge n bk.length with h | h
      · exact h
      · rw [List.drop_eq_nil_of_le h] at hd; cases hd
    have hd' : bk.drop (n + 1) = xs := by rw [← List.drop_drop, hd]; rfl
    have hb := h.ok.1
    have hl := h.len
    rw [cuckoo_placing_rest_L2]
    unfold cuckoo_placing_rest_B2
    rw [at_idx false (by omega) (by omega)]
    simp only [Option.bind_some]
    by_cases hf : at' false fixed (n : Int) = true
    · rw [hf]; simp only [Bool.not_true, Bool.false_eq_true, if_false]
      exact rest_loop h kx xs (n + 1) hd'
    · have hf' : at' false fixed (n : Int) = false := by simpa using hf
      rw [hf']; simp only [Bool.not_false, if_true]
      have hneg : at' (-1) bk (n : Int) = -1 := by
        have h1 : ¬ 0 ≤ at' (-1) bk (n : Int) := fun hh => hf ((h.fix n (by omega) (by omega)).2 hh)
        have h2 := (h.ok.2 _ (at_mem (-1) (l := bk) (b := (n : Int)) (by omega) (by omega))).1
        omega
      rw [at_idx (-1) (by omega) (by omega), lupd_ok (by omega) (by omega)]
      simp only [Option.bind_some]
      rw [set_at (-1) (by omega) (by omega) hneg]
      exact rest_loop h kx xs (n + 1) hd'
theorem rest_ok {B : Int} {homes : List (List Int)} {fixed : List Bool} {i : Int} {bk : Bk} (hh : HomesOK B homes) (hB : B ≤ 1000) (hn : (homes.length : Int) ≤ 100000) (hi : 0 ≤ i ∧ i ≤ homes.length) (h : Fst B homes fixed i bk) :
    ∃ r, cuckoo_placing_rest (homes, bk, fixed) i = some r ∧ (r = true ↔ Placeable homes fixed i) := by
  obtain ⟨r, bk', e, _, h2⟩ := all_ok hh h.len hB hn hi h.stand
  refine ⟨r, ?_, h2⟩
  have hb := h.ok.1
  unfold cuckoo_placing_rest slices_Clone_Lintint
  rw [lapp_ok (by simp; omega)]
  simp only [Option.bind_some, List.nil_append]
  rw [rest_loop h _ bk 0 rfl]
  unfold cuckoo_placing_rest_J1
  rw [e]; rfl
theorem Fst.take {B : Int} {homes : List (List Int)} {fixed : List Bool} {i b : Int} {bk : Bk} (h : Fst B homes fixed i bk) (hi : 0 ≤ i ∧ i < homes.length) (hb : 0 ≤ b ∧ b < B) (hf : at' false fixed b = false) : Fst B homes (fixed.set b.toNat true) (i + 1) (bk.set b.toNat i) := by
  have hbl : b < bk.length := by rw [h.ok.1]; exact hb.2
  have hfl : b < fixed.length := by rw [h.len]; exact hb.2
  have hneg : ¬ 0 ≤ at' (-1) bk b := fun hh => by have := (h.fix b hb.1 hb.2).2 hh; rw [hf] at this; cases this
  refine ⟨⟨by simpa using h.ok.1, fun v hv => ?_⟩, by simpa using h.len, fun j hj => ?_, fun c c0 cB => ?_, fun c c0 cB => ?_⟩
  · rcases List.mem_or_eq_of_mem_set hv with h1 | rfl
    · exact h.ok.2 v h1
    · omega
  · have h1 := count_set' (-1) j i hb.1 hbl
    rw [if_neg (by omega : ¬ at' (-1) bk b = j)] at h1
    by_cases he : i = j
    · rw [if_pos he] at h1
      have := h.stand.none j (by omega)
      omega
    · rw [if_neg he] at h1; have := h.le j hj; omega
  · rw [at_set false hb.1 hfl c0, at_set (-1) hb.1 hbl c0]
    by_cases he : c = b
    · rw [if_pos he, if_pos he]; simp; exact hi.1
    · rw [if_neg he, if_neg he]; exact h.fix c c0 cB
  · rw [at_set (-1) hb.1 hbl c0]; split
    · omega
    · have := h.lt c c0 cB; omega
theorem Placeable.step {homes : List (List Int)} {fixed : List Bool} {i : Int} {B : Int} (hh : HomesOK B homes) (hf : (fixed.length : Int) = B) (hi : 0 ≤ i ∧ i < homes.length) :
    Placeable homes fixed i ↔ ∃ b ∈ at' [] homes i, at' false fixed b = false ∧ Placeable homes (fixed.set b.toNat true) (i + 1) := by
  constructor
  · rintro ⟨f, h1, h2⟩
    obtain ⟨hm, hfr⟩ := h1 i (Int.le_refl _) hi.2
    obtain ⟨b0, bB⟩ := hh _ (at_mem [] hi.1 hi.2) _ hm
    refine ⟨f i, hm, hfr, f, fun j hj hn => ?_, fun j k hj hn hk hkn e => h2 j k (by omega) hn (by omega) hkn e⟩
    obtain ⟨hm2, hfr2⟩ := h1 j (by omega) hn
    obtain ⟨c0, cB⟩ := hh _ (at_mem [] (by omega) hn) _ hm2
    refine ⟨hm2, ?_⟩
    rw [at_set false b0 (by omega) c0, if_neg]
    · exact hfr2
    · intro e; have := h2 j i (by omega) hn (Int.le_refl _) hi.2 e; omega
  · rintro ⟨b, hm, hfr, f, h1, h2⟩
    obtain ⟨b0, bB⟩ := hh _ (at_mem [] hi.1 hi.2) _ hm
    have hne : ∀ j, i + 1 ≤ j → j < homes.length → f j ≠ b := fun j hj hn e => by
      obtain ⟨hm2, hfr2⟩ := h1 j hj hn
      rw [e, at_set false b0 (by omega) b0, if_pos rfl] at hfr2; cases hfr2
    refine ⟨fun j => if j = i then b else f j, fun j hj hn => ?_, fun j k hj hn hk hkn e => ?_⟩
    · by_cases he : j = i
      · subst he; simp only [if_true]; exact ⟨hm, hfr⟩
      · simp only [if_neg he]
        obtain ⟨hm2, hfr2⟩ := h1 j (by omega) hn
        obtain ⟨c0, cB⟩ := hh _ (at_mem [] (by omega) hn) _ hm2
        rw [at_set false b0 (by omega) c0, if_neg (hne j (by omega) hn)] at hfr2
        exact ⟨hm2, hfr2⟩
    · by_cases he : j = i <;> by_cases hek : k = i
      · omega
      · simp only [he, if_true, if_neg hek] at e; exact absurd e.symm (hne k (by omega) hkn)
      · simp only [hek, if_true, if_neg he] at e; exact absurd e (hne j (by omega) hn)
      · simp only [if_neg he, if_neg hek] at e; exact h2 j k (by omega) hn (by omega) hkn e
def Greedy (homes : List (List Int)) : Int → List (List Int) → List Bool → Bk → Prop
  | _, [], _, _ => True
  | i, h :: hs, fixed, bk => ∃ pre b post, h = pre ++ b :: post ∧ at' false fixed b = false ∧ at' (-1) bk b = i ∧ (∀ c ∈ pre, at' false fixed c = true ∨ ¬ Placeable homes (fixed.set c.toNat true) (i + 1)) ∧
    Placeable homes (fixed.set b.toNat true) (i + 1) ∧ Greedy homes (i + 1) hs (fixed.set b.toNat true) bk
theorem first_L1 {B : Int} {homes : List (List Int)} (hh : HomesOK B homes) (hB : B ≤ 1000) (hn : (homes.length : Int) ≤ 100000) (i : Int) (hi : 0 ≤ i ∧ i < homes.length) (rec : List Int → List Bool → Option (Bool × List Int × List Bool)) {fixed : List Bool} {bk : Bk} (h : Fst B homes fixed i bk) :
    ∀ hs : List Int, (∀ b ∈ hs, 0 ≤ b ∧ b < B) →
      (cuckoo_placing_first_L1 rec i homes hs bk fixed = some (false, bk, fixed) ∧ ∀ c ∈ hs, at' false fixed c = true ∨ ¬ Placeable homes (fixed.set c.toNat true) (i + 1)) ∨
      ∃ pre b post, hs = pre ++ b :: post ∧ at' false fixed b = false ∧ (∀ c ∈ pre, at' false fixed c = true ∨ ¬ Placeable homes (fixed.set c.toNat true) (i + 1)) ∧ Placeable homes (fixed.set b.toNat true) (i + 1) ∧
        cuckoo_placing_first_L1 rec i homes hs bk fixed = rec (bk.set b.toNat i) (fixed.set b.toNat true)
  | [], _ => .inl ⟨rfl, by simp⟩
  | b :: hs, hr => by
    obtain ⟨b0, bB⟩ := hr b List.mem_cons_self
    have hbl : b < bk.length := by rw [h.ok.1]; exact bB
    have hfl : b < fixed.length := by rw [h.len]; exact bB
    have ih := first_L1 hh hB hn i hi rec h hs fun c hc => hr c (List.mem_cons_of_mem _ hc)
    have hskip : (at' false fixed b = true ∨ ¬ Placeable homes (fixed.set b.toNat true) (i + 1)) → cuckoo_placing_first_L1 rec i homes (b :: hs) bk fixed = cuckoo_placing_first_L1 rec i homes hs bk fixed →
        (cuckoo_placing_first_L1 rec i homes (b :: hs) bk fixed = some (false, bk, fixed) ∧ ∀ c ∈ b :: hs, at' false fixed c = true ∨ ¬ Placeable homes (fixed.set c.toNat true) (i + 1)) ∨
      ∃ pre b' post, b :: hs = pre ++ b' :: post ∧ at' false fixed b' = false ∧ (∀ c ∈ pre, at' false fixed c = true ∨ ¬ Placeable homes (fixed.set c.toNat true) (i + 1)) ∧ Placeable homes (fixed.set b'.toNat true) (i + 1) ∧
        cuckoo_placing_first_L1 rec i homes (b :: hs) bk fixed = rec (bk.set b'.toNat i) (fixed.set b'.toNat true) := fun hno e => by
      rw [e]
      rcases ih with ⟨h1, h2⟩ | ⟨pre, b', post, h1, h2, h3, h4, h5⟩
      · exact .inl ⟨h1, fun c hc => by rcases List.mem_cons.1 hc with rfl | hc; exact hno; exact h2 c hc⟩
      · exact .inr ⟨b :: pre, b', post, by rw [h1]; rfl, h2, fun c hc => by rcases List.mem_cons.1 hc with rfl | hc; exact hno; exact h3 c hc, h4, h5⟩
    by_cases hf : at' false fixed b = true
    · refine hskip (.inl hf) ?_
      rw [cuckoo_placing_first_L1]
      unfold cuckoo_placing_first_B1
      rw [at_idx false b0 hfl, hf]; simp only [Option.bind_some, if_true]
    · have hf' : at' false fixed b = false := by simpa using hf
      have hneg : at' (-1) bk b = -1 := by
        have h1 : ¬ 0 ≤ at' (-1) bk b := fun hh => hf ((h.fix b b0 bB).2 hh)
        have h2 := (h.ok.2 _ (at_mem (-1) b0 hbl)).1
        omega
      obtain ⟨r, e, hr2⟩ := rest_ok hh hB hn (i := i + 1) (by omega) (h.take hi ⟨b0, bB⟩ hf')
      have heq : cuckoo_placing_first_L1 rec i homes (b :: hs) bk fixed = if r = true then rec (bk.set b.toNat i) (fixed.set b.toNat true) else cuckoo_placing_first_L1 rec i homes hs bk fixed := by
        rw [cuckoo_placing_first_L1]
        unfold cuckoo_placing_first_B1
        rw [at_idx false b0 hfl, hf']
        simp only [Option.bind_some, Bool.false_eq_true, if_false]
        rw [lupd_ok b0 hfl, at_idx (-1) b0 hbl, lupd_ok b0 hbl]
        simp only [Option.bind_some]
        rw [w64_id (by omega) (by omega), e]
        simp only [Option.bind_some]
        rw [at_idx false b0 (by simpa using hfl), lupd_ok b0 (by simpa using hfl), at_idx (-1) b0 (by simpa using hbl), lupd_ok b0 (by simpa using hbl)]
        simp only [Option.bind_some, List.set_set]
        rw [set_at false b0 hfl hf', set_at (-1) b0 hbl hneg]
      cases r with
      | true => rw [if_pos rfl] at heq; exact .inr ⟨[], b, hs, rfl, hf', by simp, hr2.1 rfl, heq⟩
      | false => rw [if_neg (by simp)] at heq; exact hskip (.inr fun hp => by have := hr2.2 hp; cases this) heq
theorem first_L2 {B : Int} {homes : List (List Int)} (hh : HomesOK B homes) (hB : B ≤ 1000) (hn : (homes.length : Int) ≤ 100000) : ∀ (hs : List (List Int)) (n : Nat) (fixed : List Bool) (bk : Bk), homes.drop n = hs → Fst B homes fixed n bk → n ≤ homes.length →
    ∃ r bk' fixed', cuckoo_placing_first_L2 homes hs n bk fixed = some (r, bk', fixed') ∧ (r = true ↔ Placeable homes fixed n) ∧ (r = true → Fst B homes fixed' homes.length bk' ∧ (∀ b, 0 ≤ b → b < B → at' false fixed b = true → at' (-1) bk' b = at' (-1) bk b) ∧ Greedy homes n hs fixed bk')
  | [], n, fixed, bk, hd, h, hle => by
    have : homes.length ≤ n := List.drop_eq_nil_iff.1 hd
    have e : n = homes.length := by omega
    subst e
    exact ⟨true, bk, fixed, rfl, by simp; exact h.stand.places (by omega), fun _ => ⟨h, fun _ _ _ _ => rfl, trivial⟩⟩
  | l :: hs, n, fixed, bk, hd, h, hle => by
    have hlt : n < homes.length := by
      rcases Nat.lt_or_ge n homes.length with h | h
      · exact h
      · rw [List.drop_eq_nil_of_le h] at hd; cases hd
    have hd' : homes.drop (n + 1) = hs := by rw [← List.drop_drop, hd]; rfl
    have hl : at' [] homes (n : Int) = l := by
      unfold at'
      rw [Int.toNat_natCast, List.getD_eq_getElem?_getD, List.getElem?_eq_getElem hlt]
      rw [List.drop_eq_getElem_cons hlt] at hd
      exact (List.cons.inj hd).1
    have hi : 0 ≤ (n : Int) ∧ (n : Int) < homes.length := ⟨by omega, by omega⟩
    have hlr : ∀ b ∈ l, 0 ≤ b ∧ b < B := hl ▸ hh _ (at_mem [] hi.1 hi.2)
    rw [cuckoo_placing_first_L2]
    unfold cuckoo_placing_first_B2
    have hst := Placeable.step hh h.len hi
    rw [hl] at hst
    rcases first_L1 hh hB hn n hi (cuckoo_placing_first_L2 homes hs (n + 1)) h l hlr with ⟨h1, h2⟩ | ⟨pre, b, post, h1, h2, h3, h4, h5⟩
    · refine ⟨false, bk, fixed, h1, ?_, by simp⟩
      rw [hst]
      simp only [Bool.false_eq_true, false_iff, not_exists, not_and]
      intro b hb hf hp
      rcases h2 b hb with h | h
      · rw [hf] at h; cases h
      · exact h hp
    · obtain ⟨b0, bB⟩ := hlr b (by rw [h1]; simp)
      have hfl : b < fixed.length := by rw [h.len]; exact bB
      have ht := h.take hi ⟨b0, bB⟩ h2
      obtain ⟨r, bk', fixed', e, g1, g2⟩ := first_L2 hh hB hn hs (n + 1) (fixed.set b.toNat true) (bk.set b.toNat (n : Int)) hd' (by exact_mod_cast ht) (by omega)
      have hp : Placeable homes (fixed.set b.toNat true) ((n + 1 : Nat) : Int) := by exact_mod_cast h4
      have hr := g1.2 hp
      refine ⟨r, bk', fixed', by rw [h5]; exact e, ⟨fun _ => hst.2 ⟨b, by rw [h1]; simp, h2, h4⟩, fun _ => hr⟩, fun hr => ?_⟩
      obtain ⟨k1, k2, k3⟩ := g2 hr
      have hbl : b < bk.length := by rw [h.ok.1]; exact bB
      refine ⟨k1, fun c c0 cB hc => ?_, pre, b, post, h1, h2, ?_, h3, h4, by exact_mod_cast k3⟩
      · have hcb : c ≠ b := fun e => by subst e; rw [h2] at hc; cases hc
        rw [k2 c c0 cB (by rw [at_set false b0 hfl c0, if_neg hcb]; exact hc), at_set (-1) b0 hbl c0, if_neg hcb]
      · rw [k2 b b0 bB (by rw [at_set false b0 hfl b0, if_pos rfl]), at_set (-1) b0 hbl b0, if_pos rfl]
end Go.Proofs.YtnfalgmfmiolbaaGreat
namespace Go.Proofs.YtnfalgmfmiolbaaGreat
set_option linter.unusedVariables false
def toL (v : Int) : List Int := if v < 0 then [] else [v]
structure Rel (B : Int) (fixed : List Bool) (used : List Int) (bk : Bk) (inn : List (List Int)) : Prop where
  ul : (used.length : Int) = B
  il : (inn.length : Int) = B
  u : ∀ b, 0 ≤ b → b < B → at' 0 used b = if at' false fixed b = true then 1 else 0
  n : ∀ b, 0 ≤ b → b < B → at' [] inn b = if at' false fixed b = true then [] else toL (at' (-1) bk b)
def SeenR (B : Int) (fixed s t : List Bool) : Prop := (t.length : Int) = B ∧ ∀ b, 0 ≤ b → b < B → at' false fixed b = false → at' false t b = at' false s b
theorem SeenR.set {B : Int} {fixed s t : List Bool} (h : SeenR B fixed s t) {b : Int} (hb : 0 ≤ b ∧ b < B) (hs : (s.length : Int) = B) : SeenR B fixed (s.set b.toNat true) (t.set b.toNat true) :=
  ⟨by simpa using h.1, fun c c0 cB hf => by rw [at_set false hb.1 (by rw [h.1]; exact hb.2) c0, at_set false hb.1 (by rw [hs]; exact hb.2) c0, h.2 c c0 cB hf]⟩
theorem SeenR.setF {B : Int} {fixed s t : List Bool} (h : SeenR B fixed s t) {b : Int} (hb : 0 ≤ b ∧ b < B) (hf : at' false fixed b = true) : SeenR B fixed s (t.set b.toNat true) :=
  ⟨by simpa using h.1, fun c c0 cB hc => by rw [at_set false hb.1 (by rw [h.1]; exact hb.2) c0, if_neg (fun e => by subst e; rw [hf] at hc; cases hc)]; exact h.2 c c0 cB hc⟩
theorem Rel.set {B : Int} {fixed : List Bool} {used : List Int} {bk : Bk} {inn : List (List Int)} (h : Rel B fixed used bk inn) (hbl : (bk.length : Int) = B) {b i : Int} (hb : 0 ≤ b ∧ b < B) (hf : at' false fixed b = false) (hi : 0 ≤ i) : Rel B fixed used (bk.set b.toNat i) (inn.set b.toNat [i]) :=
  ⟨h.ul, by simpa using h.il, h.u, fun c c0 cB => by
    rw [at_set [] hb.1 (by rw [h.il]; exact hb.2) c0, at_set (-1) hb.1 (by omega) c0]
    by_cases e : c = b
    · subst e; rw [if_pos rfl, if_pos rfl, hf]; simp [toL]; omega
    · rw [if_neg e, if_neg e]; exact h.n c c0 cB⟩
def RefP (B : Int) (fixed : List Bool) (used : List Int) (inn : List (List Int)) (r : Bool) (bk' : Bk) (s' : List Bool) (x : Option (Bool × List (List Int) × List Bool)) : Prop :=
  ∃ inn' t', x = some (r, inn', t') ∧ (r = true → Rel B fixed used bk' inn') ∧ (r = false → inn' = inn ∧ SeenR B fixed s' t')
theorem sim_loop (B : Int) (homes : List (List Int)) (fixed : List Bool) (used : List Int) (hh : HomesOK B homes) (hf : (fixed.length : Int) = B) (i : Int) (hi : 0 ≤ i ∧ i < homes.length) (m : Nat)
    (ih : ∀ (i : Int) (s t : List Bool) (bk : Bk) (inn : List (List Int)) (r : Bool) (bk' : Bk) (s' : List Bool), 0 ≤ i → i < homes.length → (s.length : Int) = B → BkOK B homes bk → s.count false < m → Rel B fixed used bk inn → SeenR B fixed s t → cuckoo_placing_place_R m (homes, bk, fixed) i s = some (r, bk', s') →
      RefP B fixed used inn r bk' s' (ref19_place_R m homes inn used 1 i t)) :
    ∀ (hs : List Int) (s t : List Bool) (bk : Bk) (inn : List (List Int)) (r : Bool) (bk' : Bk) (s' : List Bool), (∀ b ∈ hs, b ∈ at' [] homes i) → (s.length : Int) = B → BkOK B homes bk → s.count false < m + 1 → Rel B fixed used bk inn → SeenR B fixed s t → cuckoo_placing_place_L1 (cuckoo_placing_place_R m) i homes fixed hs s bk = some (r, bk', s') →
      RefP B fixed used inn r bk' s' (ref19_place_L2 (ref19_place_R m) homes used 1 i inn hs t)
  | [], s, t, bk, inn, r, bk', s', _, _, _, _, hr, ht, h => by
    rw [cuckoo_placing_place_L1] at h
    cases h
    exact ⟨inn, t, rfl, by simp, fun _ => ⟨rfl, ht⟩⟩
  | b :: hs, s, t, bk, inn, r, bk', s', hm, hsl, hb, hc, hr, ht, h => by
    have hbi : b ∈ at' [] homes i := hm b List.mem_cons_self
    obtain ⟨b0, bB⟩ := hh _ (at_mem [] hi.1 hi.2) b hbi
    have ih2 := fun s t bk inn r bk' s' => sim_loop B homes fixed used hh hf i hi m ih hs s t bk inn r bk' s' (fun c h => hm c (List.mem_cons_of_mem _ h))
    have htl := ht.1
    have hbk := hb.1
    rw [cuckoo_placing_place_L1] at h
    unfold cuckoo_placing_place_B1 at h
    rw [at_idx false b0 (by omega), at_idx false b0 (by omega)] at h
    simp only [Option.bind_some] at h
    rw [ref19_place_L2]
    unfold ref19_place_B2
    rw [at_idx false b0 (by omega)]
    simp only [Option.bind_some]
    have hu := hr.u b b0 bB
    have hn := hr.n b b0 bB
    have hul := hr.ul
    have hil := hr.il
    by_cases hfx : at' false fixed b = true
    · -- a bucket that is fixed
      have h' : cuckoo_placing_place_L1 (cuckoo_placing_place_R m) i homes fixed hs s bk = some (r, bk', s') := by
        rw [hfx] at h
        by_cases h1 : at' false s b = true
        · rw [if_pos h1] at h; simpa using h
        · rw [if_neg h1] at h; simpa using h
      by_cases h1 : at' false t b = true
      · rw [if_pos h1]; exact ih2 s t bk inn r bk' s' hsl hb hc hr ht h'
      · rw [if_neg h1, lupd_ok b0 (by omega)]
        simp only [Option.bind_some]
        rw [at_idx 0 b0 (by omega), at_idx [] b0 (by omega)]
        simp only [Option.bind_some]
        rw [hu, hn, hfx]
        simp only [if_true, List.length_nil]
        rw [if_neg (by rw [w64_id (by omega) (by omega)]; omega)]
        rw [ref19_place_L1]
        exact ih2 s _ bk inn r bk' s' hsl hb hc hr (ht.setF ⟨b0, bB⟩ hfx) h'
    · have hfx' : at' false fixed b = false := by simpa using hfx
      rw [ht.2 b b0 bB hfx']
      by_cases h1 : at' false s b = true
      · rw [if_pos h1] at h ⊢
        simp only [Option.bind_some, if_true] at h
        exact ih2 s t bk inn r bk' s' hsl hb hc hr ht h
      · have h1' : at' false s b = false := by simpa using h1
        rw [if_neg h1] at h ⊢
        simp only [Option.bind_some] at h
        rw [if_neg hfx, at_idx (-1) b0 (by omega)] at h
        simp only [Option.bind_some] at h
        rw [lupd_ok b0 (by omega)]
        simp only [Option.bind_some]
        rw [at_idx 0 b0 (by omega), at_idx [] b0 (by omega)]
        simp only [Option.bind_some]
        rw [hfx'] at hu hn
        simp only [Bool.false_eq_true, if_false] at hu hn
        rw [hu, hn]
        by_cases h3 : at' (-1) bk b < 0
        · rw [if_pos h3, lupd_ok b0 (by omega)] at h
          simp only [Option.bind_some] at h
          cases h
          have htL : toL (at' (-1) bk b) = [] := by unfold toL; rw [if_pos h3]
          rw [htL]
          simp only [List.length_nil]
          rw [if_pos (by rw [w64_id (by omega) (by omega)]; omega), lapp_ok (by simp)]
          simp only [Option.bind_some, List.nil_append]
          rw [lupd_ok b0 (by omega)]
          simp only [Option.bind_some]
          exact ⟨_, _, rfl, fun _ => hr.set hbk ⟨b0, bB⟩ hfx' hi.1, by simp⟩
        · rw [if_neg h3, lupd_ok b0 (by omega)] at h
          simp only [Option.bind_some] at h
          have htL : toL (at' (-1) bk b) = [at' (-1) bk b] := by unfold toL; rw [if_neg h3]
          rw [htL]
          simp only [List.length_singleton]
          rw [if_neg (by rw [w64_id (by omega) (by omega)]; omega), ref19_place_L1]
          unfold ref19_place_B1
          have hlt : b < s.length := by omega
          have ho := hb.2 _ (at_mem (-1) b0 (by omega : b < (bk.length : Int)))
          have hcl := count_false_lt b0 hlt h1'
          obtain ⟨r1, bk1, s1, e1, l1, m1, w1, f1⟩ := place_ok B homes fixed hh hf m (at' (-1) bk b) (s.set b.toNat true) bk (by omega) ho.2 (by simpa using hsl) hb (by omega)
          rw [e1] at h
          simp only [Option.bind_some] at h
          obtain ⟨inn1, t1, e2, g1, g2⟩ := ih (at' (-1) bk b) _ _ bk inn r1 bk1 s1 (by omega) ho.2 (by simpa using hsl) hb (by omega) hr (ht.set ⟨b0, bB⟩ hsl) e1
          rw [e2]
          simp only [Option.bind_some]
          cases r1 with
          | true =>
            have hw := w1 rfl
            have hr1 := g1 rfl
            have hb1 := hw.ok.1
            have hil1 := hr1.il
            rw [if_pos rfl, at_idx (-1) b0 (by omega)] at h
            simp only [Option.bind_some] at h
            rw [lupd_ok b0 (by omega)] at h
            simp only [Option.bind_some] at h
            cases h
            rw [if_pos rfl, at_idx [] b0 (by omega)]
            simp only [Option.bind_some]
            have hst : at' (-1) bk1 b = at' (-1) bk b := hw.still b b0 bB (.inl (by rw [at_set false b0 hlt b0, if_pos rfl]))
            have hn1 := hr1.n b b0 bB
            rw [hfx', hst, htL] at hn1
            simp only [Bool.false_eq_true, if_false] at hn1
            rw [hn1]
            have hx : lidx [at' (-1) bk b] ((0 : Nat) : Int) = some (at' (-1) bk b) := rfl
            have hy : lupd [at' (-1) bk b] ((0 : Nat) : Int) i = some [i] := rfl
            rw [hx]
            simp only [Option.bind_some]
            rw [hy]
            simp only [Option.bind_some]
            rw [lupd_ok b0 (by omega)]
            simp only [Option.bind_some]
            exact ⟨_, _, rfl, fun _ => hr1.set hb1 ⟨b0, bB⟩ hfx' hi.1, by simp⟩
          | false =>
            rw [if_neg (by simp)] at h
            rw [if_neg (by simp), ref19_place_L1]
            obtain ⟨rfl, hlost⟩ := f1 rfl
            obtain ⟨rfl, ht1⟩ := g2 rfl
            have hcle := count_le_of (s := s.set b.toNat true) (t := s1) (by rw [List.length_set]; omega) (fun c c0 cl h => m1 c c0 (by simp at cl; omega) h)
            exact ih2 s1 t1 bk1 inn1 r bk' s' l1 hb (by omega) hr ht1 h
theorem sim_ok (B : Int) (homes : List (List Int)) (fixed : List Bool) (used : List Int) (hh : HomesOK B homes) (hf : (fixed.length : Int) = B) : ∀ (m : Nat) (i : Int) (s t : List Bool) (bk : Bk) (inn : List (List Int)) (r : Bool) (bk' : Bk) (s' : List Bool), 0 ≤ i → i < homes.length → (s.length : Int) = B → BkOK B homes bk → s.count false < m → Rel B fixed used bk inn → SeenR B fixed s t → cuckoo_placing_place_R m (homes, bk, fixed) i s = some (r, bk', s') →
      RefP B fixed used inn r bk' s' (ref19_place_R m homes inn used 1 i t)
  | 0, i, s, t, bk, inn, r, bk', s', _, _, _, _, h, _, _, _ => by omega
  | m + 1, i, s, t, bk, inn, r, bk', s', h0, h1, hs, hb, hc, hr, ht, h => by
    rw [cuckoo_placing_place_R] at h
    unfold cuckoo_placing_place_B2 at h
    rw [at_idx [] h0 h1] at h
    simp only [Option.bind_some] at h
    rw [ref19_place_R]
    unfold ref19_place_B3
    rw [at_idx [] h0 h1]
    simp only [Option.bind_some]
    exact sim_loop B homes fixed used hh hf i ⟨h0, h1⟩ m (sim_ok B homes fixed used hh hf m) _ s t bk inn r bk' s' (fun _ h => h) hs hb hc hr ht h
end Go.Proofs.YtnfalgmfmiolbaaGreat
namespace Go.Proofs.YtnfalgmfmiolbaaGreat
set_option linter.unusedVariables false
def UsedOf (B : Int) (fixed : List Bool) (used : List Int) : Prop := (used.length : Int) = B ∧ (fixed.length : Int) = B ∧ ∀ b, 0 ≤ b → b < B → at' 0 used b = if at' false fixed b = true then 1 else 0
theorem at_rep {α : Type} (d x : α) {n : Nat} {b : Int} (h0 : 0 ≤ b) (h1 : b < n) : at' d (List.replicate n x) b = x := by
  unfold at'; rw [List.getD_eq_getElem?_getD, List.getElem?_replicate, if_pos (by omega)]; rfl
theorem poss_L {B : Int} {homes : List (List Int)} {fixed : List Bool} {used : List Int} (hh : HomesOK B homes) (hB : 0 ≤ B ∧ B ≤ 1000) (hf : (fixed.length : Int) = B) :
    ∀ (hs : List (List Int)) (n : Nat) (bk : Bk) (inn : List (List Int)), homes.drop n = hs → n ≤ homes.length → Stand B homes fixed 0 n bk → Rel B fixed used bk inn →
      ∃ r, ref19_Possible_L1 homes B 1 used hs n inn = some r ∧ (r = true ↔ Placeable homes fixed 0)
  | [], n, bk, inn, hd, hle, hs, hr => by
    have : homes.length ≤ n := List.drop_eq_nil_iff.1 hd
    have e : n = homes.length := by omega
    subst e
    exact ⟨true, rfl, by simp [hs.places (Int.le_refl _)]⟩
  | x :: hs', n, bk, inn, hd, hle, hs, hr => by
    have hlt : n < homes.length := by
      rcases Nat.lt_or_ge n homes.length with h | h
      · exact h
      · rw [List.drop_eq_nil_of_le h] at hd; cases hd
    have hd' : homes.drop (n + 1) = hs' := by rw [← List.drop_drop, hd]; rfl
    rw [ref19_Possible_L1]
    unfold ref19_Possible_B1
    have hmk : lmk B false = some (List.replicate B.toNat false) := by unfold lmk; rw [if_pos (by omega)]
    rw [hmk]
    simp only [Option.bind_some]
    have hsl : ((List.replicate B.toNat false).length : Int) = B := by simp; omega
    have h0 : ∀ b, 0 ≤ b → b < B → at' false (List.replicate B.toNat false) b = false := fun b b0 bB => at_rep false false b0 (by omega)
    have hcnt : (List.replicate B.toNat false).count false < big := by
      have := List.count_le_length (a := false) (l := List.replicate B.toNat false)
      rw [List.length_replicate] at this
      simp only [big]; omega
    obtain ⟨r1, bk1, s1, e1, l1, m1, w1, f1⟩ := place_ok B homes fixed hh hf big n (List.replicate B.toNat false) bk (by omega) (by omega) hsl hs.ok hcnt
    obtain ⟨inn1, t1, e2, g1, g2⟩ := sim_ok B homes fixed used hh hf big n _ (List.replicate B.toNat false) bk inn r1 bk1 s1 (by omega) (by omega) hsl hs.ok hcnt hr ⟨hsl, fun _ _ _ _ => rfl⟩ e1
    unfold ref19_place
    rw [e2]
    simp only [Option.bind_some]
    cases r1 with
    | true =>
      rw [if_pos rfl]
      exact poss_L hh hB hf hs' (n + 1) bk1 inn1 hd' (by omega) (by exact_mod_cast hs.won ⟨Int.le_refl _, by omega⟩ (w1 rfl)) (g1 rfl)
    | false =>
      rw [if_neg (by simp)]
      exact ⟨false, rfl, by simp [no_way hh hs ⟨Int.le_refl _, by omega⟩ (by omega) h0 (f1 rfl).2]⟩
theorem poss_ok {B : Int} {homes : List (List Int)} {fixed : List Bool} {used : List Int} (hh : HomesOK B homes) (hB : 0 ≤ B ∧ B ≤ 1000) (hu : UsedOf B fixed used) : ∃ r, ref19_Possible homes B 1 used = some r ∧ (r = true ↔ Placeable homes fixed 0) := by
  unfold ref19_Possible
  have hmk : lmk B ([] : List Int) = some (List.replicate B.toNat []) := by unfold lmk; rw [if_pos (by omega)]
  rw [hmk]
  simp only [Option.bind_some]
  have hall : ∀ b, 0 ≤ b → b < B → at' (-1) (List.replicate B.toNat (-1 : Int)) b = -1 := fun b b0 bB => at_rep _ _ b0 (by omega)
  refine poss_L hh hB hu.2.1 homes 0 (List.replicate B.toNat (-1)) _ rfl (Nat.zero_le _) ⟨⟨by simp; omega, fun v hv => ?_⟩, fun j hj => ?_, fun j h1 h2 => by omega, fun j hj => ?_, fun b b0 bB _ h => ?_, fun b b0 bB _ => ?_⟩ ⟨hu.1, by simp; omega, hu.2.2, fun b b0 bB => ?_⟩
  · rw [(List.mem_replicate.1 hv).2]; omega
  · rw [List.count_replicate, if_neg (by simp; omega)]; omega
  · rw [List.count_replicate, if_neg (by simp; omega)]
  · rw [hall b b0 bB] at h; omega
  · rw [hall b b0 bB]; omega
  · rw [at_rep _ _ b0 (by omega), hall b b0 bB]; simp [toL]
theorem placeable_drop {homes : List (List Int)} {fixed : List Bool} {a : Nat} (ha : a ≤ homes.length) : Placeable (homes.drop a) fixed 0 ↔ Placeable homes fixed a := by
  have hat : ∀ j : Int, 0 ≤ j → at' [] (homes.drop a) j = at' [] homes (j + a) := fun j hj => by
    unfold at'
    rw [List.getD_eq_getElem?_getD, List.getD_eq_getElem?_getD, List.getElem?_drop]
    congr 2; omega
  have hlen : ((homes.drop a).length : Int) = homes.length - a := by simp; omega
  constructor
  · rintro ⟨f, h1, h2⟩
    refine ⟨fun j => f (j - a), fun j hj hn => ?_, fun j k hj hn hk hkn e => ?_⟩
    · have := h1 (j - a) (by omega) (by omega)
      rw [hat _ (by omega), show j - a + a = j from by omega] at this
      exact this
    · have := h2 (j - a) (k - a) (by omega) (by omega) (by omega) (by omega) e
      omega
  · rintro ⟨f, h1, h2⟩
    refine ⟨fun j => f (j + a), fun j hj hn => ?_, fun j k hj hn hk hkn e => ?_⟩
    · rw [hat _ hj]; exact h1 (j + a) (by omega) (by omega)
    · have := h2 (j + a) (k + a) (by omega) (by omega) (by omega) (by omega) e
      omega
def GreedyL (homes : List (List Int)) : Int → List (List Int) → List Bool → List Int → Prop
  | _, [], _, bs => bs = []
  | i, h :: hs, fixed, bs => ∃ pre b post bs', bs = b :: bs' ∧ h = pre ++ b :: post ∧ at' false fixed b = false ∧ (∀ c ∈ pre, at' false fixed c = true ∨ ¬ Placeable homes (fixed.set c.toNat true) (i + 1)) ∧
    Placeable homes (fixed.set b.toNat true) (i + 1) ∧ GreedyL homes (i + 1) hs (fixed.set b.toNat true) bs'
theorem UsedOf.take {B : Int} {fixed : List Bool} {used : List Int} (h : UsedOf B fixed used) {b : Int} (hb : 0 ≤ b ∧ b < B) : UsedOf B (fixed.set b.toNat true) (used.set b.toNat 1) :=
  ⟨by simpa using h.1, by simpa using h.2.1, fun c c0 cB => by
    rw [at_set 0 hb.1 (by rw [h.1]; exact hb.2) c0, at_set false hb.1 (by rw [h.2.1]; exact hb.2) c0]
    by_cases e : c = b
    · rw [if_pos e, if_pos e]; rfl
    · rw [if_neg e, if_neg e]; exact h.2.2 c c0 cB⟩
theorem rfirst_L1 {B : Int} {homes : List (List Int)} (hh : HomesOK B homes) (hB : 0 ≤ B ∧ B ≤ 1000) (hn : (homes.length : Int) ≤ 100000) (i : Nat) (hi : i < homes.length) (rec : List Int → List Int → Option (List Int × Bool)) {fixed : List Bool} {used : List Int} (hu : UsedOf B fixed used) (out : List Int) (ho : out.length ≤ 100000) :
    ∀ hs : List Int, (∀ b ∈ hs, 0 ≤ b ∧ b < B) → (∃ b ∈ hs, at' false fixed b = false ∧ Placeable homes (fixed.set b.toNat true) (i + 1)) →
      ∃ pre b post, hs = pre ++ b :: post ∧ at' false fixed b = false ∧ (∀ c ∈ pre, at' false fixed c = true ∨ ¬ Placeable homes (fixed.set c.toNat true) (i + 1)) ∧ Placeable homes (fixed.set b.toNat true) (i + 1) ∧
        ref19_First_L1 rec i homes B 1 out hs used = rec (out ++ [b]) (used.set b.toNat 1)
  | [], _, h => by obtain ⟨b, hb, _⟩ := h; cases hb
  | b :: hs, hr, hex => by
    obtain ⟨b0, bB⟩ := hr b List.mem_cons_self
    have hul := hu.1
    have hub := hu.2.2 b b0 bB
    have hbl : b < (used.length : Int) := by omega
    have hskip : (at' false fixed b = true ∨ ¬ Placeable homes (fixed.set b.toNat true) (i + 1)) → ref19_First_L1 rec i homes B 1 out (b :: hs) used = ref19_First_L1 rec i homes B 1 out hs used →
        ∃ pre b' post, b :: hs = pre ++ b' :: post ∧ at' false fixed b' = false ∧ (∀ c ∈ pre, at' false fixed c = true ∨ ¬ Placeable homes (fixed.set c.toNat true) (i + 1)) ∧ Placeable homes (fixed.set b'.toNat true) (i + 1) ∧
        ref19_First_L1 rec i homes B 1 out (b :: hs) used = rec (out ++ [b']) (used.set b'.toNat 1) := fun hno e => by
      obtain ⟨pre, b', post, h1, h2, h3, h4, h5⟩ := rfirst_L1 hh hB hn i hi rec hu out ho hs (fun c hc => hr c (List.mem_cons_of_mem _ hc)) (by
        obtain ⟨c, hc, h1, h2⟩ := hex
        rcases List.mem_cons.1 hc with rfl | hc
        · rcases hno with h | h
          · rw [h] at h1; cases h1
          · exact absurd h2 h
        · exact ⟨c, hc, h1, h2⟩)
      exact ⟨b :: pre, b', post, by rw [h1]; rfl, h2, fun c hc => by rcases List.mem_cons.1 hc with rfl | hc; exact hno; exact h3 c hc, h4, by rw [e]; exact h5⟩
    by_cases hf : at' false fixed b = true
    · refine hskip (.inl hf) ?_
      rw [ref19_First_L1]
      unfold ref19_First_B1
      rw [at_idx 0 b0 hbl, hub, if_pos hf]
      simp only [Option.bind_some, if_true]
    · have hf' : at' false fixed b = false := by simpa using hf
      rw [if_neg hf] at hub
      have hsub : lsub homes (w64 ((i : Int) + 1)) (homes.length : Int) = some (homes.drop (i + 1)) := by
        rw [w64_id (by omega) (by omega), lsub_ok (by omega) (by omega) (by omega)]
        congr 1
        rw [show ((i : Int) + 1).toNat = i + 1 from by omega, show ((homes.length : Int) - ((i : Int) + 1)).toNat = homes.length - (i + 1) from by omega]
        exact List.take_of_length_le (by simp)
      have hhd : HomesOK B (homes.drop (i + 1)) := fun l hl => hh l (List.mem_of_mem_drop hl)
      obtain ⟨r, e, hr2⟩ := poss_ok hhd hB (hu.take ⟨b0, bB⟩)
      rw [placeable_drop (by omega)] at hr2
      have heq : ref19_First_L1 rec i homes B 1 out (b :: hs) used = if r = true then rec (out ++ [b]) (used.set b.toNat 1) else ref19_First_L1 rec i homes B 1 out hs used := by
        rw [ref19_First_L1]
        unfold ref19_First_B1
        rw [at_idx 0 b0 hbl, hub]
        simp only [Option.bind_some]
        rw [if_neg (by omega), show w64 (0 + 1) = 1 from by rw [w64_id (by omega) (by omega)]; rfl, lupd_ok b0 hbl]
        simp only [Option.bind_some]
        rw [hsub]
        simp only [Option.bind_some]
        rw [e]
        simp only [Option.bind_some]
        rw [lapp_ok (by simp; omega), at_idx 0 b0 (by simpa using hbl), at_set 0 b0 hbl b0, if_pos rfl]
        simp only [Option.bind_some]
        rw [show w64 (1 - 1) = 0 from by rw [w64_id (by omega) (by omega)]; rfl, lupd_ok b0 (by simpa using hbl)]
        simp only [Option.bind_some, List.set_set]
        rw [set_at 0 b0 hbl hub]
      cases r with
      | true => rw [if_pos rfl] at heq; exact ⟨[], b, hs, rfl, hf', by simp, by exact_mod_cast hr2.1 rfl, heq⟩
      | false => rw [if_neg (by simp)] at heq; exact hskip (.inr fun hp => by have := hr2.2 (by exact_mod_cast hp); cases this) heq
theorem rfirst_L2 {B : Int} {homes : List (List Int)} (hh : HomesOK B homes) (hB : 0 ≤ B ∧ B ≤ 1000) (hn : (homes.length : Int) ≤ 100000) : ∀ (hs : List (List Int)) (n : Nat) (fixed : List Bool) (used out : List Int), homes.drop n = hs → UsedOf B fixed used → out.length = n → n ≤ homes.length → Placeable homes fixed n →
    ∃ bs, ref19_First_L2 homes B 1 hs n out used = some (out ++ bs, true) ∧ GreedyL homes n hs fixed bs
  | [], n, fixed, used, out, hd, hu, hl, hle, hp => ⟨[], by simp [ref19_First_L2], rfl⟩
  | l :: hs, n, fixed, used, out, hd, hu, hl, hle, hp => by
    have hlt : n < homes.length := by
      rcases Nat.lt_or_ge n homes.length with h | h
      · exact h
      · rw [List.drop_eq_nil_of_le h] at hd; cases hd
    have hd' : homes.drop (n + 1) = hs := by rw [← List.drop_drop, hd]; rfl
    have hat : at' [] homes (n : Int) = l := by
      unfold at'
      rw [Int.toNat_natCast, List.getD_eq_getElem?_getD, List.getElem?_eq_getElem hlt]
      rw [List.drop_eq_getElem_cons hlt] at hd
      exact (List.cons.inj hd).1
    have hi : 0 ≤ (n : Int) ∧ (n : Int) < homes.length := ⟨by omega, by omega⟩
    have hlr : ∀ b ∈ l, 0 ≤ b ∧ b < B := hat ▸ hh _ (at_mem [] hi.1 hi.2)
    have hst := (Placeable.step hh hu.2.1 hi).1 hp
    rw [hat] at hst
    obtain ⟨pre, b, post, h1, h2, h3, h4, h5⟩ := rfirst_L1 hh hB hn n hlt (ref19_First_L2 homes B 1 hs (n + 1)) hu out (by omega) l hlr hst
    obtain ⟨b0, bB⟩ := hlr b (by rw [h1]; simp)
    obtain ⟨bs, e, hg⟩ := rfirst_L2 hh hB hn hs (n + 1) (fixed.set b.toNat true) (used.set b.toNat 1) (out ++ [b]) hd' (hu.take ⟨b0, bB⟩) (by simp [hl]) (by omega) (by exact_mod_cast h4)
    refine ⟨b :: bs, ?_, pre, b, post, bs, rfl, h1, h2, h3, h4, by exact_mod_cast hg⟩
    rw [ref19_First_L2]
    unfold ref19_First_B2
    rw [h5, e]
    simp
end Go.Proofs.YtnfalgmfmiolbaaGreat
namespace Go.Proofs.YtnfalgmfmiolbaaGreat
set_option linter.unusedVariables false
abbrev Hsh := Int × List (Int × Int)
def PairOK (p : Int × Int) : Prop := 0 ≤ p.1 ∧ p.1 < 2147483647 ∧ 0 ≤ p.2 ∧ p.2 < 2147483647
def HshOK (h : Hsh) : Prop := 1 ≤ h.1 ∧ h.1 ≤ 64 ∧ 1 ≤ h.2.length ∧ h.2.length ≤ 4 ∧ ∀ p ∈ h.2, PairOK p
def ItemOK (n : Int) : Prop := 0 ≤ n ∧ n < 2147483647
def homeL (h : Hsh) (n : Int) : List Int := h.2.map fun p => (p.1 * n + p.2) % 2147483647 % h.1
theorem check_L : ∀ ps : List (Int × Int), (cuckoo_Check_L1 ps = some 0 ∧ ∀ p ∈ ps, PairOK p) ∨ (cuckoo_Check_L1 ps = some 2 ∧ ¬ ∀ p ∈ ps, PairOK p)
  | [] => .inl ⟨rfl, by simp⟩
  | p :: ps => by
    rw [cuckoo_Check_L1]
    unfold cuckoo_Check_B1
    split
    · rename_i h
      refine .inr ⟨rfl, fun ha => ?_⟩
      have := ha p List.mem_cons_self
      unfold PairOK at this; omega
    · rename_i h
      have hp : PairOK p := by unfold PairOK; omega
      rcases check_L ps with ⟨e, h1⟩ | ⟨e, h1⟩
      · exact .inl ⟨e, fun q hq => by rcases List.mem_cons.1 hq with rfl | hq; exact hp; exact h1 q hq⟩
      · exact .inr ⟨e, fun ha => h1 fun q hq => ha q (List.mem_cons_of_mem _ hq)⟩
theorem check_ok (h : Hsh) : (cuckoo_Check h = some 0 ∧ HshOK h) ∨ (cuckoo_Check h = some 2 ∧ ¬ HshOK h) := by
  unfold cuckoo_Check
  split
  · rename_i hh
    refine .inr ⟨rfl, fun ha => ?_⟩
    unfold HshOK at ha; omega
  · rename_i hh
    rcases check_L h.2 with ⟨e, h1⟩ | ⟨e, h1⟩
    · exact .inl ⟨e, by omega, by omega, by omega, by omega, h1⟩
    · exact .inr ⟨e, fun ha => h1 ha.2.2.2.2⟩
theorem rcheck_L : ∀ ps, ref19_Check_L1 ps = cuckoo_Check_L1 ps
  | [] => rfl
  | p :: ps => by rw [ref19_Check_L1, cuckoo_Check_L1, rcheck_L ps]; rfl
theorem rcheck (h : Hsh) : ref19_Check h = cuckoo_Check h := by
  unfold ref19_Check cuckoo_Check; rw [rcheck_L]
theorem home_at {a b n B : Int} (ha : PairOK (a, b)) (hn : ItemOK n) (hB : 1 ≤ B) : Int.tmod (Int.tmod (w64 ((w64 (a * n)) + b)) 2147483647) B = (a * n + b) % 2147483647 % B := by
  unfold PairOK at ha; unfold ItemOK at hn
  dsimp only at ha
  have h1 : 0 ≤ a * n := Int.mul_nonneg ha.1 hn.1
  have h2 : a * n ≤ 2147483647 * 2147483647 := Int.mul_le_mul (by omega) (by omega) hn.1 (by omega)
  have e1 : (a * n + b).tmod 2147483647 = (a * n + b) % 2147483647 := Int.tmod_eq_emod_of_nonneg (by omega)
  rw [w64_id (x := a * n) (by omega) (by omega), w64_id (by omega) (by omega), e1, Int.tmod_eq_emod_of_nonneg (Int.emod_nonneg _ (by omega))]
theorem homes_L {B n : Int} (hB : 1 ≤ B) (hn : ItemOK n) : ∀ (ps : List (Int × Int)) (acc : List Int), (∀ p ∈ ps, PairOK p) → acc.length + ps.length ≤ 100 → cuckoo_homes_L1 n B ps acc = some (acc ++ ps.map fun p => (p.1 * n + p.2) % 2147483647 % B)
  | [], acc, _, _ => by simp [cuckoo_homes_L1]
  | p :: ps, acc, hp, hl => by
    rw [cuckoo_homes_L1]
    unfold cuckoo_homes_B1
    simp only [List.length_cons] at hl
    rw [nz_ok (by omega), lapp_ok (by simp; omega)]
    simp only [Option.bind_some]
    rw [homes_L hB hn ps _ (fun q hq => hp q (List.mem_cons_of_mem _ hq)) (by simp; omega), home_at (hp p List.mem_cons_self) hn hB]
    simp
theorem homes_ok {h : Hsh} (hk : HshOK h) {n : Int} (hn : ItemOK n) : cuckoo_homes h n = some (homeL h n) := by
  unfold cuckoo_homes
  have h4 := hk.2.2.2.1
  rw [homes_L hk.1 hn h.2 [] hk.2.2.2.2 (by simp; omega)]
  rfl
theorem rhomes_L {B n : Int} (hB : 1 ≤ B) (hn : ItemOK n) : ∀ (ps : List (Int × Int)) (acc : List Int), (∀ p ∈ ps, PairOK p) → acc.length + ps.length ≤ 100 → ref19_Homes_L1 n B ps acc = some (acc ++ ps.map (fun p => (p.1 * n + p.2) % 2147483647 % B), 0)
  | [], acc, _, _ => by simp [ref19_Homes_L1]
  | p :: ps, acc, hp, hl => by
    rw [ref19_Homes_L1]
    unfold ref19_Homes_B1
    simp only [List.length_cons] at hl
    rw [nz_ok (by omega), lapp_ok (by simp; omega)]
    simp only [Option.bind_some]
    rw [rhomes_L hB hn ps _ (fun q hq => hp q (List.mem_cons_of_mem _ hq)) (by simp; omega), home_at (hp p List.mem_cons_self) hn hB]
    simp
theorem rhomes_ok {h : Hsh} (hk : HshOK h) {n : Int} (hn : ItemOK n) : ref19_Homes h n = some (homeL h n, 0) := by
  unfold ref19_Homes
  rcases check_ok h with ⟨e, _⟩ | ⟨_, e⟩
  · rw [rcheck, e]
    simp only [Option.bind_some]
    have h4 := hk.2.2.2.1
    have := hn.1; have := hn.2
    rw [if_neg (by simp), if_neg (by omega), rhomes_L hk.1 hn h.2 [] hk.2.2.2.2 (by simp; omega)]
    rfl
  · exact absurd hk e
theorem rhomes_bad {h : Hsh} (hk : HshOK h) {n : Int} (hn : ¬ ItemOK n) : ref19_Homes h n = some ([], 1) := by
  unfold ref19_Homes
  rcases check_ok h with ⟨e, _⟩ | ⟨_, e⟩
  · rw [rcheck, e]
    simp only [Option.bind_some]
    rw [if_neg (by simp), if_pos (by unfold ItemOK at hn; omega)]
  · exact absurd hk e
theorem homeL_range {h : Hsh} (hk : HshOK h) (n : Int) : ∀ b ∈ homeL h n, 0 ≤ b ∧ b < h.1 := fun b hb => by
  obtain ⟨p, _, rfl⟩ := List.mem_map.1 hb
  have := hk.1
  exact ⟨Int.emod_nonneg _ (by omega), Int.emod_lt_of_pos _ (by omega)⟩
theorem homesOK {h : Hsh} (hk : HshOK h) (l : List Int) : HomesOK h.1 (l.map (homeL h)) := fun x hx b hb => by
  obtain ⟨n, _, rfl⟩ := List.mem_map.1 hx
  exact homeL_range hk n b hb
theorem ask_L : ∀ (l : List Int) (i : Nat), (∃ r : Int, slices_IndexFunc_Lintint_L1 cuckoo_asked_f1 l i = some r ∧ (0 ≤ r ↔ ∃ n ∈ l, ¬ ItemOK n))
  | [], i => ⟨-1, rfl, by simp⟩
  | n :: l, i => by
    rw [slices_IndexFunc_Lintint_L1]
    unfold slices_IndexFunc_Lintint_B1 cuckoo_asked_f1 cuckoo_item
    simp only [Option.bind_some]
    by_cases hn : ItemOK n
    · have hd : (decide ((0 ≤ n) ∧ (n < 2147483647))) = true := decide_eq_true hn
      rw [hd]
      simp only [Bool.not_true, Bool.false_eq_true, if_false]
      obtain ⟨r, e, h⟩ := ask_L l (i + 1)
      refine ⟨r, e, h.trans ⟨fun ⟨m, hm, h⟩ => ⟨m, List.mem_cons_of_mem _ hm, h⟩, fun ⟨m, hm, h⟩ => ?_⟩⟩
      rcases List.mem_cons.1 hm with rfl | hm
      · exact absurd hn h
      · exact ⟨m, hm, h⟩
    · have hd : (decide ((0 ≤ n) ∧ (n < 2147483647))) = false := decide_eq_false hn
      rw [hd]
      simp only [Bool.not_false, if_true]
      exact ⟨i, rfl, fun _ => ⟨n, List.mem_cons_self, hn⟩, fun _ => by omega⟩
theorem asked_ok (h : Hsh) (l : List Int) : (cuckoo_asked h l = some 2 ∧ ¬ HshOK h) ∨ (cuckoo_asked h l = some 1 ∧ HshOK h ∧ ∃ n ∈ l, ¬ ItemOK n) ∨ (cuckoo_asked h l = some 0 ∧ HshOK h ∧ ∀ n ∈ l, ItemOK n) := by
  unfold cuckoo_asked
  rcases check_ok h with ⟨e, hk⟩ | ⟨e, hk⟩
  · rw [e]
    simp only [Option.bind_some]
    rw [if_neg (by simp)]
    unfold slices_ContainsFunc_Lintint slices_IndexFunc_Lintint
    obtain ⟨r, e2, h2⟩ := ask_L l 0
    rw [e2]
    simp only [Option.bind_some]
    by_cases hr : 0 ≤ r
    · rw [if_pos (decide_eq_true hr)]; exact .inr (.inl ⟨rfl, hk, h2.1 hr⟩)
    · rw [if_neg (by simp [hr])]
      refine .inr (.inr ⟨rfl, hk, fun n hn => ?_⟩)
      rcases Classical.em (ItemOK n) with h | h
      · exact h
      · exact absurd (h2.2 ⟨n, hn, h⟩) hr
  · rw [e]
    simp only [Option.bind_some]
    rw [if_pos (by simp)]
    exact .inl ⟨rfl, hk⟩
theorem all_L' {h : Hsh} (hk : HshOK h) : ∀ (l : List Int) (acc : List (List Int)), acc.length + l.length ≤ 16777216 → ((∀ n ∈ l, ItemOK n) ∧ ref19_all_L1 h.1 h.2 l acc = some (acc ++ l.map (homeL h), 0)) ∨ ((∃ n ∈ l, ¬ ItemOK n) ∧ ref19_all_L1 h.1 h.2 l acc = some ([], 1))
  | [], acc, _ => .inl ⟨by simp, by simp [ref19_all_L1]⟩
  | n :: l, acc, hl => by
    rw [ref19_all_L1]
    unfold ref19_all_B1
    simp only [List.length_cons] at hl
    rcases Classical.em (ItemOK n) with hn | hn
    · rw [rhomes_ok hk hn]
      simp only [Option.bind_some]
      rw [if_neg (by simp), lapp_ok (by simp; omega)]
      simp only [Option.bind_some]
      rcases all_L' hk l (acc ++ [homeL h n]) (by simp; omega) with ⟨h1, e⟩ | ⟨⟨m, hm, h1⟩, e⟩
      · exact .inl ⟨fun m hm => by rcases List.mem_cons.1 hm with rfl | hm; exact hn; exact h1 m hm, by rw [e]; simp⟩
      · exact .inr ⟨⟨m, List.mem_cons_of_mem _ hm, h1⟩, e⟩
    · rw [rhomes_bad hk hn]
      simp only [Option.bind_some]
      rw [if_pos (by simp)]
      exact .inr ⟨⟨n, List.mem_cons_self, hn⟩, rfl⟩
theorem start_L {h : Hsh} (hk : HshOK h) (bk : List Int) (fx : List Bool) : ∀ (l : List Int) (acc : List (List Int)), (∀ n ∈ l, ItemOK n) → acc.length + l.length ≤ 16777216 → cuckoo_start_L1 h.1 h.2 bk fx l acc = some (acc ++ l.map (homeL h), bk, fx)
  | [], acc, _, _ => by simp [cuckoo_start_L1]
  | n :: l, acc, hn, hl => by
    rw [cuckoo_start_L1]
    unfold cuckoo_start_B1
    simp only [List.length_cons] at hl
    rw [homes_ok (h := (h.1, h.2)) hk (hn n List.mem_cons_self)]
    simp only [Option.bind_some]
    rw [lapp_ok (by simp; omega)]
    simp only [Option.bind_some]
    rw [start_L hk bk fx l _ (fun m hm => hn m (List.mem_cons_of_mem _ hm)) (by simp; omega)]
    simp
theorem start_L3 (kx : List Int → Int → Option (List (List Int) × List Int × List Bool)) (z : Int) : ∀ (xs : List Int) (n N : Nat), n + xs.length = N → cuckoo_start_L3 kx z xs n (List.replicate n (-1) ++ xs) = kx (List.replicate N (-1)) z
  | [], n, N, h => by simp at h; subst h; simp [cuckoo_start_L3]
  | x :: xs, n, N, h => by
    rw [cuckoo_start_L3]
    unfold cuckoo_start_B3
    simp only [List.length_cons] at h
    rw [at_idx (-1) (by omega) (by simp; omega), lupd_ok (by omega) (by simp; omega)]
    simp only [Option.bind_some]
    have e : (List.replicate n (-1 : Int) ++ x :: xs).set (n : Int).toNat (-1) = List.replicate (n + 1) (-1) ++ xs := by
      rw [Int.toNat_natCast, List.set_append_right _ _ (by simp)]
      simp [List.replicate_succ']
    rw [e]
    exact start_L3 kx z xs (n + 1) N (by omega)
theorem start_ok {h : Hsh} (hk : HshOK h) {l : List Int} (hl : ∀ n ∈ l, ItemOK n) (hlen : l.length ≤ 16777216) : cuckoo_start h l = some (l.map (homeL h), List.replicate h.1.toNat (-1), List.replicate h.1.toNat false) := by
  unfold cuckoo_start
  have h1 := hk.1; have h2 := hk.2.1
  have hm0 : lmk h.1 (0 : Int) = some (List.replicate h.1.toNat 0) := by unfold lmk; rw [if_pos (by omega)]
  have hm1 : lmk h.1 false = some (List.replicate h.1.toNat false) := by unfold lmk; rw [if_pos (by omega)]
  rw [hm0, hm1]
  simp only [Option.bind_some]
  unfold cuckoo_start_J4
  have := start_L3 (cuckoo_start_J2 l h.2 (List.replicate h.1.toNat false)) h.1 (List.replicate h.1.toNat 0) 0 h.1.toNat (by simp)
  simp only [List.replicate_zero, List.nil_append] at this
  rw [this]
  unfold cuckoo_start_J2
  have := start_L hk (List.replicate h.1.toNat (-1)) (List.replicate h.1.toNat false) l [] hl (by simpa using hlen)
  simpa using this
end Go.Proofs.YtnfalgmfmiolbaaGreat
namespace Go.Proofs.YtnfalgmfmiolbaaGreat
set_option linter.unusedVariables false
theorem first_uniq {Q : Int → Prop} : ∀ {pre pre' : List Int} {b b' : Int} {post post' : List Int}, pre ++ b :: post = pre' ++ b' :: post' → (∀ c ∈ pre, ¬ Q c) → Q b → (∀ c ∈ pre', ¬ Q c) → Q b' → b = b'
  | [], [], b, b', post, post', e, _, _, _, _ => by simp at e; exact e.1
  | [], c :: pre', b, b', post, post', e, _, hb, h', _ => by
    simp at e; rw [← e.1] at h'; exact absurd hb (h' b List.mem_cons_self)
  | c :: pre, [], b, b', post, post', e, h, _, _, hb' => by
    simp at e; rw [e.1] at h; exact absurd hb' (h b' List.mem_cons_self)
  | c :: pre, c' :: pre', b, b', post, post', e, h, hb, h', hb' => by
    simp at e
    exact first_uniq e.2 (fun x hx => h x (List.mem_cons_of_mem _ hx)) hb (fun x hx => h' x (List.mem_cons_of_mem _ hx)) hb'
theorem greedy_same {homes : List (List Int)} {bk : Bk} : ∀ (hs : List (List Int)) (i : Int) (fixed : List Bool) (bs : List Int), Greedy homes i hs fixed bk → GreedyL homes i hs fixed bs → bs.length = hs.length ∧ ∀ k : Nat, k < bs.length → at' (-1) bk (bs.getD k 0) = i + k ∧ bs.getD k 0 ∈ hs.getD k []
  | [], i, fixed, bs, _, h => by cases h; simp
  | l :: hs, i, fixed, bs, ⟨pre, b, post, e1, f1, a1, n1, p1, g1⟩, ⟨pre', b', post', bs', e0, e2, f2, n2, p2, g2⟩ => by
    subst e0
    have hb : b = b' := first_uniq (Q := fun c => at' false fixed c = false ∧ Placeable homes (fixed.set c.toNat true) (i + 1)) (by rw [← e1, e2]) (fun c hc hq => by
      rcases n1 c hc with h | h
      · rw [h] at hq; cases hq.1
      · exact h hq.2) ⟨f1, p1⟩ (fun c hc hq => by
      rcases n2 c hc with h | h
      · rw [h] at hq; cases hq.1
      · exact h hq.2) ⟨f2, p2⟩
    subst hb
    obtain ⟨h1, h2⟩ := greedy_same hs (i + 1) _ bs' g1 g2
    refine ⟨by simp [h1], fun k hk => ?_⟩
    cases k with
    | zero => simp only [List.getD_cons_zero]; exact ⟨by rw [a1]; simp, by rw [e1]; simp⟩
    | succ k =>
      simp only [List.getD_cons_succ]
      obtain ⟨h3, h4⟩ := h2 k (by simpa using hk)
      exact ⟨by rw [h3]; push_cast; omega, h4⟩
theorem list_ext_at {l m : List Int} (hl : l.length = m.length) (h : ∀ b : Int, 0 ≤ b → b < l.length → at' (-1) l b = at' (-1) m b) : l = m := by
  apply List.ext_getElem hl
  intro n h1 h2
  have := h n (by omega) (by omega)
  unfold at' at this
  rw [Int.toNat_natCast, List.getD_eq_getElem?_getD, List.getD_eq_getElem?_getD, List.getElem?_eq_getElem h1, List.getElem?_eq_getElem h2] at this
  exact this
theorem build_L {B : Int} {bk : Bk} (hb : (bk.length : Int) = B) (hlt : ∀ v ∈ bk, -1 ≤ v) (le : ∀ j, 0 ≤ j → bk.count j ≤ 1) (z : Int) (kx : List Int → Int → Option (List Int × Int)) :
    ∀ (bs : List Int) (i : Nat) (v : List Int), (v.length : Int) = B → (∀ k : Nat, k < bs.length → at' (-1) bk (bs.getD k 0) = i + k ∧ 0 ≤ bs.getD k 0 ∧ bs.getD k 0 < B) → (∀ c, 0 ≤ c → c < B → at' (-1) bk c < (i : Int) + bs.length) → (∀ c, 0 ≤ c → c < B → at' (-1) v c = if at' (-1) bk c < i then at' (-1) bk c else -1) →
      ref19_Assign_L2 kx z bs i v = kx bk z
  | [], i, v, hv, _, hn, hr => by
    rw [ref19_Assign_L2]
    congr 1
    refine list_ext_at (by omega) fun b b0 bl => ?_
    have := hn b b0 (by omega)
    rw [hr b b0 (by omega), if_pos (by simpa using this)]
  | b :: bs, i, v, hv, hk, hn, hr => by
    obtain ⟨h1, b0, bB⟩ := hk 0 (by simp)
    simp only [List.getD_cons_zero] at h1 b0 bB
    rw [ref19_Assign_L2]
    unfold ref19_Assign_B2
    rw [at_idx (-1) b0 (by omega), lupd_ok b0 (by omega)]
    simp only [Option.bind_some]
    refine build_L hb hlt le z kx bs (i + 1) _ (by simpa using hv) (fun k hkl => ?_) (fun c c0 cB => ?_) (fun c c0 cB => ?_)
    · have := hk (k + 1) (by simpa using hkl)
      simp only [List.getD_cons_succ] at this
      refine ⟨by rw [this.1]; push_cast; omega, this.2⟩
    · have := hn c c0 cB; simp only [List.length_cons] at this; push_cast at this ⊢; omega
    · rw [at_set (-1) b0 (by omega) c0, hr c c0 cB]
      by_cases e : c = b
      · subst e; rw [if_pos rfl, if_pos (by rw [h1]; push_cast; omega), h1]; simp
      · rw [if_neg e]
        have hne : at' (-1) bk c ≠ i := fun he => by
          have h2 := at_count (l := bk) ⟨c0, by omega⟩ ⟨b0, by omega⟩ he (by rw [h1]; simp) e
          have := le i (by omega)
          omega
        by_cases h3 : at' (-1) bk c < i
        · rw [if_pos h3, if_pos (by push_cast; omega)]
        · rw [if_neg h3, if_neg (by push_cast; omega)]
theorem wipe_L (z : Int) (kx : List Int → Int → Option (List Int × Int)) : ∀ (xs : List Int) (n N : Nat), n + xs.length = N → ref19_Assign_L4 kx z xs n (List.replicate n (-1) ++ xs) = kx (List.replicate N (-1)) z
  | [], n, N, h => by simp at h; subst h; simp [ref19_Assign_L4]
  | x :: xs, n, N, h => by
    rw [ref19_Assign_L4]
    unfold ref19_Assign_B4
    simp only [List.length_cons] at h
    rw [at_idx (-1) (by omega) (by simp; omega), lupd_ok (by omega) (by simp; omega)]
    simp only [Option.bind_some]
    have e : (List.replicate n (-1 : Int) ++ x :: xs).set (n : Int).toNat (-1) = List.replicate (n + 1) (-1) ++ xs := by
      rw [Int.toNat_natCast, List.set_append_right _ _ (by simp)]
      simp [List.replicate_succ']
    rw [e]
    exact wipe_L z kx xs (n + 1) N (by omega)
def nofix (h : Hsh) : List Bool := List.replicate h.1.toNat false
theorem fst0 {h : Hsh} (hk : HshOK h) (homes : List (List Int)) : Fst h.1 homes (nofix h) 0 (List.replicate h.1.toNat (-1)) := by
  have h1 := hk.1
  refine ⟨⟨by simp; omega, fun v hv => by rw [(List.mem_replicate.1 hv).2]; omega⟩, by simp [nofix]; omega, fun j hj => by rw [List.count_replicate, if_neg (by simp; omega)]; omega, fun b b0 bB => ?_, fun b b0 bB => ?_⟩
  · unfold nofix; rw [at_rep _ _ b0 (by omega), at_rep _ _ b0 (by omega)]; simp
  · rw [at_rep _ _ b0 (by omega)]; omega
theorem assign_ok (h : Hsh) (l : List Int) (hl : l.length ≤ 100000) :
    (¬ HshOK h ∧ cuckoo_Assign h l = some ([], 2) ∧ ref19_Assign h l = some ([], 2)) ∨
    (HshOK h ∧ (∃ n ∈ l, ¬ ItemOK n) ∧ cuckoo_Assign h l = some ([], 1) ∧ ref19_Assign h l = some ([], 1)) ∨
    (HshOK h ∧ (∀ n ∈ l, ItemOK n) ∧ h.1 < l.length ∧ cuckoo_Assign h l = some ([], 4) ∧ ref19_Assign h l = some ([], 4)) ∨
    (HshOK h ∧ (∀ n ∈ l, ItemOK n) ∧ l.length ≤ h.1 ∧ ¬ Placeable (l.map (homeL h)) (nofix h) 0 ∧ cuckoo_Assign h l = some ([], 15) ∧ ref19_Assign h l = some ([], 15)) ∨
    (HshOK h ∧ (∀ n ∈ l, ItemOK n) ∧ l.length ≤ h.1 ∧ Placeable (l.map (homeL h)) (nofix h) 0 ∧ ∃ bk fixed, cuckoo_Assign h l = some (bk, 0) ∧ ref19_Assign h l = some (bk, 0) ∧ Fst h.1 (l.map (homeL h)) fixed l.length bk ∧ Greedy (l.map (homeL h)) 0 (l.map (homeL h)) (nofix h) bk) := by
  have hC : ∀ {e : Int}, cuckoo_asked h l = some e → e ≠ 0 → cuckoo_Assign h l = some ([], e) := fun he hne => by
    unfold cuckoo_Assign; rw [he]; simp only [Option.bind_some]; rw [if_pos hne]
  have hC2 : cuckoo_asked h l = some 0 → cuckoo_Assign h l = if h.1 < (l.length : Int) then some ([], 4) else (cuckoo_start h l).bind fun u13 => (cuckoo_placing_first u13).bind fun u43 => if ((!u43.1) = true) then (some (([] : List Int), 15)) else some (u43.2.1, 0) := fun he => by
    unfold cuckoo_Assign; rw [he]; simp only [Option.bind_some]; rw [if_neg (by simp)]
  have hR : ∀ {x : List (List Int)} {e : Int}, ref19_all h l = some (x, e) → e ≠ 0 → ref19_Assign h l = some ([], e) := fun he hne => by
    unfold ref19_Assign; rw [he]; simp only [Option.bind_some]; rw [if_pos hne]
  have hR2 : ∀ {x : List (List Int)}, ref19_all h l = some (x, 0) → ref19_Assign h l = if h.1 < (l.length : Int) then some ([], 4) else (ref19_First x h.1 1).bind fun u27 => if ((!u27.2) = true) then (some (([] : List Int), 15)) else (lmk h.1 0).bind fun u39 => ref19_Assign_L4 (ref19_Assign_J3 u27.1) h.1 u39 0 u39 := fun he => by
    unfold ref19_Assign; rw [he]; simp only [Option.bind_some]; rw [if_neg (by simp)]
  have hA : cuckoo_Check h = some 0 → ref19_all h l = ref19_all_L1 h.1 h.2 l [] := fun he => by
    unfold ref19_all; rw [rcheck, he]; simp only [Option.bind_some]; rw [if_neg (by simp)]
  rcases asked_ok h l with ⟨e, hk⟩ | ⟨e, hk, hx⟩ | ⟨e, hk, hx⟩
  · rcases check_ok h with ⟨_, hc⟩ | ⟨ec, _⟩
    · exact absurd hc hk
    · refine .inl ⟨hk, hC e (by omega), hR (x := []) ?_ (by omega)⟩
      unfold ref19_all; rw [rcheck, ec]; simp only [Option.bind_some]; rw [if_pos (by simp)]
  · rcases check_ok h with ⟨ec, _⟩ | ⟨_, hc⟩
    · rcases all_L' hk l [] (by simp; omega) with ⟨ha, _⟩ | ⟨_, ea⟩
      · obtain ⟨n, hn, hb⟩ := hx; exact absurd (ha n hn) hb
      · exact .inr (.inl ⟨hk, hx, hC e (by omega), hR ((hA ec).trans ea) (by omega)⟩)
    · exact absurd hk hc
  · rcases check_ok h with ⟨ec, _⟩ | ⟨_, hc⟩
    · rcases all_L' hk l [] (by simp; omega) with ⟨_, ea⟩ | ⟨⟨n, hn, hb⟩, _⟩
      · rw [List.nil_append] at ea
        have h5 := hC2 e
        have h6 := hR2 ((hA ec).trans ea)
        by_cases hlen : h.1 < (l.length : Int)
        · rw [if_pos hlen] at h5 h6
          exact .inr (.inr (.inl ⟨hk, hx, hlen, h5, h6⟩))
        · rw [if_neg hlen] at h5 h6
          have h1 := hk.1; have h2 := hk.2.1
          have hh := homesOK hk l
          obtain ⟨r, bk, fixed, e1, g1, g2⟩ := first_L2 hh (by omega) (by simp; omega) (l.map (homeL h)) 0 (nofix h) (List.replicate h.1.toNat (-1)) rfl (fst0 hk _) (Nat.zero_le _)
          have hu : UsedOf h.1 (nofix h) (List.replicate h.1.toNat 0) := ⟨by simp; omega, by simp [nofix]; omega, fun b b0 bB => by unfold nofix; rw [at_rep _ _ b0 (by omega), at_rep _ _ b0 (by omega)]; rfl⟩
          obtain ⟨rp, e2, hp⟩ := poss_ok hh (by omega) hu
          have hm0 : lmk h.1 (0 : Int) = some (List.replicate h.1.toNat 0) := by unfold lmk; rw [if_pos (by omega)]
          have hcf : cuckoo_placing_first (l.map (homeL h), List.replicate h.1.toNat (-1), List.replicate h.1.toNat false) = some (r, bk, fixed) := e1
          rw [start_ok hk hx (by omega), Option.bind_some, hcf, Option.bind_some] at h5
          have hrf : ref19_First (l.map (homeL h)) h.1 1 = if ((!rp) = true) then some ([], false) else ref19_First_L2 (l.map (homeL h)) h.1 1 (l.map (homeL h)) 0 [] (List.replicate h.1.toNat 0) := by
            unfold ref19_First; rw [hm0, Option.bind_some, e2, Option.bind_some]
          cases r with
          | false =>
            have hnp : ¬ Placeable (l.map (homeL h)) (nofix h) 0 := fun hq => by have := g1.2 (by exact_mod_cast hq); cases this
            have hrp : rp = false := by
              cases rp with
              | false => rfl
              | true => exact absurd (hp.1 rfl) hnp
            subst hrp
            rw [if_pos (by rfl)] at hrf
            rw [hrf] at h6
            exact .inr (.inr (.inr (.inl ⟨hk, hx, by omega, hnp, by simpa using h5, by simpa using h6⟩)))
          | true =>
            have hpl : Placeable (l.map (homeL h)) (nofix h) 0 := by exact_mod_cast g1.1 rfl
            have hrp : rp = true := hp.2 hpl
            subst hrp
            rw [if_neg (by simp)] at hrf
            obtain ⟨k1, k2, k3⟩ := g2 rfl
            obtain ⟨bs, e3, hg⟩ := rfirst_L2 hh (by omega) (by simp; omega) (l.map (homeL h)) 0 (nofix h) (List.replicate h.1.toNat 0) [] rfl hu rfl (Nat.zero_le _) (by exact_mod_cast hpl)
            have hk3 : Greedy (l.map (homeL h)) 0 (l.map (homeL h)) (nofix h) bk := by exact_mod_cast k3
            obtain ⟨hbl, hbs⟩ := greedy_same _ 0 _ bs hk3 (by exact_mod_cast hg)
            have hk1 : Fst h.1 (l.map (homeL h)) fixed l.length bk := by simpa using k1
            rw [e3, List.nil_append] at hrf
            rw [hrf, Option.bind_some] at h6
            have hw := wipe_L h.1 (ref19_Assign_J3 bs) (List.replicate h.1.toNat 0) 0 h.1.toNat (by simp)
            simp only [List.replicate_zero, List.nil_append] at hw
            have hb := hk1.ok.1
            have hbuild := build_L hb (fun v hv => (hk1.ok.2 v hv).1) hk1.le h.1 ref19_Assign_J1 bs 0 (List.replicate h.1.toNat (-1)) (by simp; omega) (fun k hkl => by
              obtain ⟨a1, a2⟩ := hbs k hkl
              refine ⟨by simpa using a1, hh _ ?_ _ a2⟩
              rw [List.getD_eq_getElem?_getD, List.getElem?_eq_getElem (by omega)]
              exact List.getElem_mem _) (fun c c0 cB => by
              have := hk1.lt c c0 cB
              rw [hbl]; simp; exact this) (fun c c0 cB => by
              have := (hk1.ok.2 _ (at_mem (-1) (l := bk) c0 (by omega))).1
              rw [at_rep _ _ c0 (by omega)]
              split
              · rename_i h7; have h8 : at' (-1) bk c < 0 := by simpa using h7
                omega
              · rfl)
            refine .inr (.inr (.inr (.inr ⟨hk, hx, by omega, hpl, bk, fixed, by simpa using h5, ?_, hk1, hk3⟩)))
            rw [h6, if_neg (by simp), hm0, Option.bind_some, hw]
            unfold ref19_Assign_J3
            rw [hbuild]; rfl
      · exact absurd (hx n hn) hb
    · exact absurd hk hc
end Go.Proofs.YtnfalgmfmiolbaaGreat
namespace Go.Proofs.YtnfalgmfmiolbaaGreat
set_option maxRecDepth 100000
end Go.Proofs.YtnfalgmfmiolbaaGreat
namespace Go.Proofs.YtnfalgmfmiolbaaGreat
set_option linter.unusedVariables false
end Go.Proofs.YtnfalgmfmiolbaaGreat
namespace Go.Proofs.YtnfalgmfmiolbaaGreat
set_option linter.unusedVariables false
def PlacesL (ls : List (List Int)) (fixed : List Bool) : Prop := ∃ ps : List (Int × List Int), ps.map (·.2) = ls ∧ (∀ p ∈ ps, p.1 ∈ p.2 ∧ at' false fixed p.1 = false) ∧ (ps.map (·.1)).Nodup
theorem perm_lift {α β : Type} (f : α → β) {l m : List β} (h : l.Perm m) : ∀ ps : List α, ps.map f = l → ∃ qs : List α, qs.Perm ps ∧ qs.map f = m := by
  induction h with
  | nil => intro ps hp; exact ⟨ps, List.Perm.refl _, hp⟩
  | cons x _ ih =>
    intro ps hp
    cases ps with
    | nil => simp at hp
    | cons p ps =>
      simp only [List.map_cons, List.cons.injEq] at hp
      obtain ⟨qs, h1, h2⟩ := ih ps hp.2
      exact ⟨p :: qs, h1.cons p, by simp [hp.1, h2]⟩
  | swap x y l =>
    intro ps hp
    cases ps with
    | nil => simp at hp
    | cons p ps =>
      cases ps with
      | nil => simp at hp
      | cons q ps =>
        simp only [List.map_cons, List.cons.injEq] at hp
        exact ⟨q :: p :: ps, List.Perm.swap p q ps, by simp [hp.1, hp.2.1, hp.2.2]⟩
  | trans _ _ ih1 ih2 =>
    intro ps hp
    obtain ⟨qs, h1, h2⟩ := ih1 ps hp
    obtain ⟨rs, h3, h4⟩ := ih2 qs h2
    exact ⟨rs, h3.trans h1, h4⟩
theorem PlacesL.perm {l m : List (List Int)} {fixed : List Bool} (h : l.Perm m) : PlacesL l fixed → PlacesL m fixed := by
  rintro ⟨ps, h1, h2, h3⟩
  obtain ⟨qs, k1, k2⟩ := perm_lift _ h ps h1
  exact ⟨qs, k2, fun p hp => h2 p (k1.mem_iff.1 hp), (k1.map _).nodup_iff.2 h3⟩
theorem PlacesL.sub {l m : List (List Int)} {fixed : List Bool} (h : m.Sublist l) : PlacesL l fixed → PlacesL m fixed := by
  rintro ⟨ps, h1, h2, h3⟩
  subst h1
  obtain ⟨qs, k1, k2⟩ := List.sublist_map_iff.1 h
  exact ⟨qs, k2.symm, fun p hp => h2 p (k1.subset hp), h3.sublist (k1.map _)⟩
end Go.Proofs.YtnfalgmfmiolbaaGreat
namespace Go.Proofs.YtnfalgmfmiolbaaGreat
set_option linter.unusedVariables false
structure Asg (B : Int) (homes : List (List Int)) (bk : Bk) : Prop where
  ok : BkOK B homes bk
  le : ∀ j, 0 ≤ j → bk.count j ≤ 1
  has : ∀ j : Int, 0 ≤ j → j < homes.length → ∃ b, 0 ≤ b ∧ b < B ∧ b ∈ at' [] homes j ∧ at' (-1) bk b = j
theorem Asg.edge {B : Int} {homes : List (List Int)} {bk : Bk} (h : Asg B homes bk) {b : Int} (b0 : 0 ≤ b) (bB : b < B) (hn : 0 ≤ at' (-1) bk b) : b ∈ at' [] homes (at' (-1) bk b) := by
  have hb := h.ok.1
  have hv := h.ok.2 _ (at_mem (-1) (l := bk) b0 (by omega))
  obtain ⟨c, c0, cB, hc, e⟩ := h.has _ hn hv.2
  by_cases hbc : b = c
  · rw [hbc] at e ⊢; rw [e]; rw [hbc] at hc; rw [e] at hc; exact hc
  · have := at_count (l := bk) ⟨b0, by omega⟩ ⟨c0, by omega⟩ rfl e hbc
    have := h.le _ hn
    omega
end Go.Proofs.YtnfalgmfmiolbaaGreat
end

section
namespace Go.Proofs.YtnfalgmfmiolbaaGreat
set_option linter.unusedVariables false
theorem nodup_of_count : ∀ {l : List Int}, (∀ x, l.count x ≤ 1) → l.Nodup
  | [], _ => List.nodup_nil
  | x :: l, h => by
    refine List.nodup_cons.2 ⟨fun hm => ?_, nodup_of_count fun y => ?_⟩
    · have := h x
      rw [List.count_cons_self] at this
      have := List.count_pos_iff.2 hm
      omega
    · have := h y
      rw [List.count_cons] at this
      omega
theorem Asg.used {B : Int} {homes : List (List Int)} {bk : Bk} (h : Asg B homes bk) : (bk.filter fun x => decide (0 ≤ x)).length = homes.length := by
  have hn : (bk.filter fun x => decide (0 ≤ x)).Nodup := nodup_of_count fun x => by
    by_cases hx : 0 ≤ x
    · have h1 := (List.filter_sublist (p := fun x => decide (0 ≤ x)) (l := bk)).count_le x
      have := h.le x hx
      omega
    · have : (bk.filter fun x => decide (0 ≤ x)).count x = 0 := List.count_eq_zero.2 fun hm => by
        have := (List.mem_filter.1 hm).2
        simp at this; omega
      omega
  have hb := h.ok.1
  have h1 := pig hn (m := (List.range homes.length).map fun (i : Nat) => (i : Int)) fun x hx => by
    obtain ⟨h2, h3⟩ := List.mem_filter.1 hx
    have := (h.ok.2 x h2).2
    have h4 : 0 ≤ x := by simpa using h3
    exact List.mem_map.2 ⟨x.toNat, List.mem_range.2 (by omega), by omega⟩
  have h2 := pig (l := (List.range homes.length).map fun (i : Nat) => (i : Int)) (m := bk.filter fun x => decide (0 ≤ x)) (nodup_map List.nodup_range fun x _ y _ e => by omega) fun x hx => by
    obtain ⟨i, hi, rfl⟩ := List.mem_map.1 hx
    obtain ⟨b, b0, bB, _, e⟩ := h.has i (by omega) (by have := List.mem_range.1 hi; omega)
    refine List.mem_filter.2 ⟨?_, by simp⟩
    rw [← e]; exact at_mem (-1) b0 (by omega)
  simp at h1 h2
  omega
end Go.Proofs.YtnfalgmfmiolbaaGreat
end

section
namespace Go.Proofs.YtnfalgmfmiolbaaGreat
set_option linter.unusedVariables false
def combos : Nat → List Int → List (List Int)
  | 0, _ => [[]]
  | _ + 1, [] => []
  | k + 1, x :: l => (combos k l).map (x :: ·) ++ combos (k + 1) l
def rg : Nat → Nat → List Int
  | _, 0 => []
  | lo, n + 1 => (lo : Int) :: rg (lo + 1) n
theorem rg_len : ∀ (n lo : Nat), (rg lo n).length = n
  | 0, _ => rfl
  | n + 1, lo => by simp [rg, rg_len n]
theorem rg_mem : ∀ (n lo : Nat) (x : Int), x ∈ rg lo n ↔ lo ≤ x ∧ x < (lo : Int) + n
  | 0, lo, x => by simp [rg]
  | n + 1, lo, x => by
    simp only [rg, List.mem_cons, rg_mem n (lo + 1) x]
    omega
theorem combos_short : ∀ (k : Nat) (l : List Int), l.length < k → combos k l = []
  | 0, _, h => by omega
  | k + 1, [], _ => rfl
  | k + 1, x :: l, h => by
    simp only [List.length_cons] at h
    rw [combos, combos_short k l (by omega), combos_short (k + 1) l (by omega)]; rfl
open Classical in
noncomputable def bad (h : Hsh) (s : List Int) : Bool := decide (h.1 < s.length ∨ ¬ Placeable (s.map (homeL h)) (nofix h) 0)
theorem bad_iff (h : Hsh) (s : List Int) : bad h s = true ↔ h.1 < s.length ∨ ¬ Placeable (s.map (homeL h)) (nofix h) 0 := by unfold bad; simp
theorem leaf_ok {h : Hsh} (hk : HshOK h) {s : List Int} (hs : ∀ x ∈ s, ItemOK x) (hl : s.length ≤ 100000) :
    ((if (h.1 < (s.length : Int)) then (some true) else (cuckoo_start h s).bind fun u70 => (cuckoo_placing_all u70 0).bind fun u100 => some (!u100.1)) : Option Bool) = some (bad h s) := by
  by_cases hc : h.1 < (s.length : Int)
  · rw [if_pos hc, (bad_iff h s).2 (.inl hc)]
  · rw [if_neg hc, start_ok hk hs (by omega)]
    simp only [Option.bind_some]
    have h1 := hk.1; have h2 := hk.2.1
    have hf : ((nofix h).length : Int) = h.1 := by unfold nofix; simp; omega
    obtain ⟨r, bk, e, _, hr⟩ := all_ok (homesOK hk s) hf (by omega) (by simp; omega) (a := 0) (by simp) (fst0 hk (s.map (homeL h))).stand
    rw [show List.replicate h.1.toNat false = nofix h from rfl, e]
    simp only [Option.bind_some]
    congr 1
    cases r with
    | true =>
      cases hb : bad h s with
      | false => rfl
      | true =>
        rcases (bad_iff h s).1 hb with h3 | h3
        · exact absurd h3 hc
        · exact absurd (hr.1 rfl) h3
    | false => exact ((bad_iff h s).2 (.inr fun hp => by have := hr.2 hp; cases this)).symm
theorem through_ok {h : Hsh} (hk : HshOK h) {items size : Nat} (hi : items ≤ 1024) (hsz : size ≤ items) : ∀ (need fuel : Nat) (chosen : List Int) (m n : Nat) (cnt fl : Nat), chosen.length + need = size → need < fuel → n + m = items → (∀ x ∈ chosen, 0 ≤ x ∧ x < items) → fl ≤ cnt → cnt + (combos need (rg n m)).length ≤ 1000000 →
    cuckoo_Failures_f1_R fuel chosen (n : Int) (size : Int) (cnt : Int) h (fl : Int) (items : Int) = some (((cnt + (combos need (rg n m)).length : Nat) : Int), ((fl + (combos need (rg n m)).countP fun s => bad h (chosen ++ s) : Nat) : Int))
  | 0, fuel, chosen, m, n, cnt, fl, h1, h2, h3, h4, h5, h6 => by
    obtain ⟨fuel, rfl⟩ : ∃ k, fuel = k + 1 := ⟨fuel - 1, by omega⟩
    simp only [combos, List.length_singleton] at h6
    rw [cuckoo_Failures_f1_R]
    unfold cuckoo_Failures_f1_B2
    rw [if_pos (by omega), show (size : Int) = (chosen.length : Int) from by omega, leaf_ok hk (fun x hx => by have := h4 x hx; unfold ItemOK; omega) (by omega)]
    simp only [Option.bind_some]
    rw [w64_id (by omega) (by omega), w64_id (by omega) (by omega)]
    simp only [combos, List.length_singleton, List.countP_singleton, List.append_nil]
    by_cases hb : bad h chosen = true
    · rw [if_pos hb, if_pos hb]; simp
    · rw [if_neg hb, if_neg hb]; simp
  | need + 1, fuel, chosen, m, n, cnt, fl, h1, h2, h3, h4, h5, h6 => by
    obtain ⟨fuel, rfl⟩ : ∃ k, fuel = k + 1 := ⟨fuel - 1, by omega⟩
    rw [cuckoo_Failures_f1_R]
    unfold cuckoo_Failures_f1_B2
    rw [if_neg (by omega)]
    have loop : ∀ (m f2 n cnt fl : Nat), m < f2 → n + m = items → fl ≤ cnt → cnt + (combos (need + 1) (rg n m)).length ≤ 1000000 →
        cuckoo_Failures_f1_L1 (cuckoo_Failures_f1_R fuel) (size : Int) h.1 h.2 (items : Int) chosen f2 (n : Int) (cnt : Int) (fl : Int) = some (((cnt + (combos (need + 1) (rg n m)).length : Nat) : Int), ((fl + (combos (need + 1) (rg n m)).countP fun s => bad h (chosen ++ s) : Nat) : Int)) := by
      intro m
      induction m with
      | zero =>
        intro f2 n cnt fl hf hn hfl hc
        obtain ⟨f2, rfl⟩ : ∃ k, f2 = k + 1 := ⟨f2 - 1, by omega⟩
        rw [cuckoo_Failures_f1_L1]
        unfold cuckoo_Failures_f1_B1
        rw [w64_id (x := (size : Int) - _) (by omega) (by omega), w64_id (by omega) (by omega), if_neg (by omega)]
        simp [rg, combos]
      | succ m ih =>
        intro f2 n cnt fl hf hn hfl hc
        obtain ⟨f2, rfl⟩ : ∃ k, f2 = k + 1 := ⟨f2 - 1, by omega⟩
        rw [cuckoo_Failures_f1_L1]
        unfold cuckoo_Failures_f1_B1
        rw [w64_id (x := (size : Int) - _) (by omega) (by omega), w64_id (by omega) (by omega)]
        by_cases hle : need + 1 ≤ m + 1
        · rw [if_pos (by omega), lapp_ok (by simp; omega)]
          simp only [Option.bind_some]
          simp only [rg, combos, List.length_append, List.length_map, List.countP_append, List.countP_map] at hc ⊢
          rw [w64_id (by omega) (by omega), show (n : Int) + 1 = ((n + 1 : Nat) : Int) from by omega]
          have hcp : ((combos need (rg (n + 1) m)).countP fun s => bad h (chosen ++ [(n : Int)] ++ s)) ≤ (combos need (rg (n + 1) m)).length := List.countP_le_length
          rw [show (h.1, h.2) = h from rfl, through_ok hk hi hsz need fuel (chosen ++ [(n : Int)]) m (n + 1) cnt fl (by simp; omega) (by omega) (by omega) (fun x hx => by
            rcases List.mem_append.1 hx with hx | hx
            · exact h4 x hx
            · simp at hx; omega) hfl (by omega)]
          simp only [Option.bind_some]
          rw [ih f2 (n + 1) _ _ (by omega) (by omega) (by omega) (by omega)]
          have hfun : ((combos need (rg (n + 1) m)).countP fun s => bad h (chosen ++ [(n : Int)] ++ s)) = (combos need (rg (n + 1) m)).countP ((fun s => bad h (chosen ++ s)) ∘ fun x => (n : Int) :: x) := by
            congr 1; funext s; simp
          rw [hfun]
          simp only [Nat.add_assoc]
        · rw [if_neg (by omega), combos_short (need + 1) (rg n (m + 1)) (by rw [rg_len]; omega)]
          simp
    exact loop m big n cnt fl (by simp only [big]; omega) h3 h5 h6
theorem failures_ok {h : Hsh} (hk : HshOK h) {items size : Nat} (hi : items ≤ 1024) (hsz : size ≤ items) {c : Int} (hc : cuckoo_sets items size = some c) (hc2 : c ≤ 4096) (hn : (combos size (rg 0 items)).length ≤ 1000000) :
    cuckoo_Failures h items size = some ((((combos size (rg 0 items)).countP (bad h) : Nat) : Int), (((combos size (rg 0 items)).length : Nat) : Int), 0) := by
  unfold cuckoo_Failures
  rcases check_ok h with ⟨e, _⟩ | ⟨_, hq⟩
  · rw [e]
    simp only [Option.bind_some]
    rw [if_neg (by simp), if_neg (by omega), hc]
    simp only [Option.bind_some]
    rw [if_neg (by omega)]
    have := through_ok hk hi hsz size big [] items 0 0 0 (by simp) (by simp only [big]; omega) (by omega) (by simp) (by omega) (by omega)
    unfold cuckoo_Failures_f1
    rw [show ((0 : Nat) : Int) = 0 from rfl] at this
    rw [this]
    simp
  · exact absurd hk hq
end Go.Proofs.YtnfalgmfmiolbaaGreat
end

section
namespace Go.Proofs.YtnfalgmfmiolbaaGreat
set_option linter.unusedVariables false
def ch : Nat → Nat → Nat
  | _, 0 => 1
  | 0, _ + 1 => 0
  | n + 1, k + 1 => ch n k + ch n (k + 1)
theorem combos_len : ∀ (k : Nat) (l : List Int), (combos k l).length = ch l.length k
  | 0, l => by cases l <;> rfl
  | k + 1, [] => rfl
  | k + 1, x :: l => by
    simp only [combos, List.length_append, List.length_map, List.length_cons, ch]
    rw [combos_len k l, combos_len (k + 1) l]
theorem ch_zero : ∀ (n k : Nat), n < k → ch n k = 0
  | n, 0, h => by omega
  | 0, k + 1, _ => rfl
  | n + 1, k + 1, h => by rw [ch, ch_zero n k (by omega), ch_zero n (k + 1) (by omega)]
theorem ch_0 (n : Nat) : ch n 0 = 1 := by cases n <;> rfl
theorem ch_self : ∀ n : Nat, ch n n = 1
  | 0 => rfl
  | n + 1 => by rw [ch, ch_self n, ch_zero n (n + 1) (by omega)]
theorem ch_mul : ∀ (n k : Nat), ch n (k + 1) * (k + 1) = ch n k * (n - k)
  | 0, k => by simp [ch]
  | n + 1, 0 => by
    have h := ch_mul n 0
    rw [show ch (n + 1) (0 + 1) = ch n 0 + ch n (0 + 1) from rfl, ch_0, ch_0]; rw [ch_0] at h; omega
  | n + 1, k + 1 => by
    have h1 := ch_mul n (k + 1)
    have h2 := ch_mul n k
    by_cases hk : k + 1 ≤ n
    · rw [ch, Nat.add_mul, h1]
      rw [show ch (n + 1) (k + 1) = ch n k + ch n (k + 1) from rfl, Nat.add_mul]
      rw [show n + 1 - (k + 1) = n - k from by omega, ← h2]
      have e1 : ch n (k + 1) * (k + 1 + 1) + ch n (k + 1) * (n - (k + 1)) = ch n (k + 1) * (k + 1) + ch n (k + 1) * (n - k) := by
        rw [← Nat.mul_add, ← Nat.mul_add]; congr 1; omega
      exact e1
    · rw [ch_zero (n + 1) (k + 1 + 1) (by omega), show n + 1 - (k + 1) = 0 from by omega]; omega
theorem ch_sym : ∀ (s a b : Nat), a + b = s → ch s a = ch s b
  | 0, a, b, h => by rw [show a = 0 from by omega, show b = 0 from by omega]
  | s + 1, 0, b, h => by rw [show b = s + 1 from by omega, ch_self, ch_0]
  | s + 1, a + 1, 0, h => by rw [show a + 1 = s + 1 from by omega, ch_self, ch_0]
  | s + 1, a + 1, b + 1, h => by
    rw [ch, ch, ch_sym s a (b + 1) (by omega), ch_sym s (a + 1) b (by omega)]; omega
theorem sets_L {n k : Nat} (hn : n ≤ 1024) (hk : k ≤ n) : ∀ (r j f1 f2 : Nat), j + r = min k (n - k) → r < f1 → r < f2 → ch n j ≤ 4096 →
    ∃ c d, cuckoo_sets_L1 (n : Int) (k : Int) f1 ((ch n j : Nat) : Int) ((j + 1 : Nat) : Int) = some c ∧ ref19_sets_L1 (n : Int) (k : Int) f2 ((ch n j : Nat) : Int) (j : Int) = some d ∧ ((4096 < c ∧ 4096 < d) ∨ (c = ((ch n k : Nat) : Int) ∧ d = c ∧ c ≤ 4096))
  | 0, j, f1, f2, hj, h1, h2, hc => by
    obtain ⟨f1, rfl⟩ : ∃ i, f1 = i + 1 := ⟨f1 - 1, by omega⟩
    obtain ⟨f2, rfl⟩ : ∃ i, f2 = i + 1 := ⟨f2 - 1, by omega⟩
    have he : ch n j = ch n k := by
      by_cases hh : k ≤ n - k
      · rw [show j = k from by omega]
      · rw [show j = n - k from by omega]; exact ch_sym n (n - k) k (by omega)
    refine ⟨((ch n j : Nat) : Int), ((ch n j : Nat) : Int), ?_, ?_, .inr ⟨by rw [he], rfl, by omega⟩⟩
    · rw [cuckoo_sets_L1]; unfold cuckoo_sets_B1
      rw [w64_id (x := (n : Int) - k) (by omega) (by omega), if_neg (by omega)]
    · rw [ref19_sets_L1]; unfold ref19_sets_B1
      rw [w64_id (x := (n : Int) - k) (by omega) (by omega), if_neg (by omega)]
  | r + 1, j, f1, f2, hj, h1, h2, hc => by
    obtain ⟨f1, rfl⟩ : ∃ i, f1 = i + 1 := ⟨f1 - 1, by omega⟩
    obtain ⟨f2, rfl⟩ : ∃ i, f2 = i + 1 := ⟨f2 - 1, by omega⟩
    have hm := ch_mul n j
    have hbound : ch n j * (n - j) ≤ 4096 * 1024 := Nat.mul_le_mul hc (by omega)
    have hdiv : Int.tdiv (((ch n j * (n - j) : Nat) : Int)) ((j + 1 : Nat) : Int) = ((ch n (j + 1) : Nat) : Int) := by
      rw [← hm]
      rw [Int.tdiv_eq_ediv_of_nonneg (by omega)]
      rw [← Int.natCast_ediv, Nat.mul_div_cancel _ (by omega)]
    have hle : ch n (j + 1) ≤ ch n j * (n - j) := by rw [← hm]; exact Nat.le_mul_of_pos_right _ (by omega)
    have hmulI : ((ch n j : Nat) : Int) * ((n : Int) - j) = ((ch n j * (n - j) : Nat) : Int) := by
      rw [Int.natCast_mul]; congr 1; omega
    have hP : cuckoo_sets_L1 (n : Int) (k : Int) (f1 + 1) ((ch n j : Nat) : Int) ((j + 1 : Nat) : Int) = if 4096 < ((ch n (j + 1) : Nat) : Int) then some ((ch n (j + 1) : Nat) : Int) else cuckoo_sets_L1 (n : Int) (k : Int) f1 ((ch n (j + 1) : Nat) : Int) ((j + 1 + 1 : Nat) : Int) := by
      rw [cuckoo_sets_L1]; unfold cuckoo_sets_B1
      rw [w64_id (x := (n : Int) - k) (by omega) (by omega), if_pos (by omega), nz_ok (by omega)]
      simp only [Option.bind_some]
      rw [w64_id (x := (n : Int) - ((j + 1 : Nat) : Int)) (by omega) (by omega), w64_id (x := (n : Int) - ((j + 1 : Nat) : Int) + 1) (by omega) (by omega), show (n : Int) - ((j + 1 : Nat) : Int) + 1 = (n : Int) - j from by omega, hmulI, w64_id (x := ((ch n j * (n - j) : Nat) : Int)) (by omega) (by omega), hdiv, w64_id (x := ((ch n (j + 1) : Nat) : Int)) (by omega) (by omega), w64_id (x := ((j + 1 : Nat) : Int) + 1) (by omega) (by omega)]
      rfl
    have hR : ref19_sets_L1 (n : Int) (k : Int) (f2 + 1) ((ch n j : Nat) : Int) (j : Int) = if 4096 < ((ch n (j + 1) : Nat) : Int) then some 4097 else ref19_sets_L1 (n : Int) (k : Int) f2 ((ch n (j + 1) : Nat) : Int) ((j + 1 : Nat) : Int) := by
      rw [ref19_sets_L1]; unfold ref19_sets_B1
      rw [w64_id (x := (n : Int) - k) (by omega) (by omega), if_pos (by omega), w64_id (x := (j : Int) + 1) (by omega) (by omega), nz_ok (by omega)]
      simp only [Option.bind_some]
      rw [w64_id (x := (n : Int) - j) (by omega) (by omega), hmulI, w64_id (x := ((ch n j * (n - j) : Nat) : Int)) (by omega) (by omega), show (j : Int) + 1 = ((j + 1 : Nat) : Int) from by omega, hdiv, w64_id (x := ((ch n (j + 1) : Nat) : Int)) (by omega) (by omega)]
    by_cases hbig : 4096 < ((ch n (j + 1) : Nat) : Int)
    · rw [if_pos hbig] at hP hR
      exact ⟨_, _, hP, hR, .inl ⟨hbig, by omega⟩⟩
    · rw [if_neg hbig] at hP hR
      obtain ⟨c, d, e1, e2, h⟩ := sets_L hn hk r (j + 1) f1 f2 (by omega) (by omega) (by omega) (by omega)
      exact ⟨c, d, hP.trans e1, hR.trans e2, h⟩
theorem sets_ok {n k : Nat} (hn : n ≤ 1024) (hk : k ≤ n) : ∃ c d, cuckoo_sets n k = some c ∧ ref19_sets n k = some d ∧ ((4096 < c ∧ 4096 < d) ∨ (c = ((ch n k : Nat) : Int) ∧ d = c ∧ c ≤ 4096)) := by
  have := sets_L hn hk (min k (n - k)) 0 big big (by omega) (by simp only [big]; omega) (by simp only [big]; omega) (by rw [ch_0]; omega)
  rw [ch_0] at this
  exact this
def after (items : Nat) : List Int → List (List Int)
  | [] => []
  | x :: s => (after items s).map (x :: ·) ++ combos (s.length + 1) (rg (x.toNat + 1) (items - (x.toNat + 1)))
theorem combos_first {items : Nat} : ∀ (k lo m : Nat), k ≤ m → lo + m = items → combos k (rg lo m) = rg lo k :: after items (rg lo k)
  | 0, lo, m, _, _ => by cases m <;> rfl
  | k + 1, lo, m, hk, hm => by
    obtain ⟨m, rfl⟩ : ∃ i, m = i + 1 := ⟨m - 1, by omega⟩
    rw [rg, combos, combos_first (items := items) k (lo + 1) m (by omega) (by omega)]
    simp only [rg, after, List.map_cons, List.cons_append, rg_len, Int.toNat_natCast]
    rw [show items - (lo + 1) = m from by omega]
theorem after_last {items : Nat} : ∀ (j : Nat), j ≤ items → after items (rg (items - j) j) = []
  | 0, _ => rfl
  | j + 1, h => by
    rw [rg, after]
    simp only [Int.toNat_natCast, rg_len]
    rw [show items - (j + 1) + 1 = items - j from by omega, after_last j (by omega), combos_short _ _ (by rw [rg_len]; omega)]; rfl
theorem after_next {items : Nat} {y j : Nat} (h : y + j + 1 < items) : ∀ pre : List Int, after items (pre ++ (y : Int) :: rg (items - j) j) = (pre ++ rg (y + 1) (j + 1)) :: after items (pre ++ rg (y + 1) (j + 1))
  | [] => by
    simp only [List.nil_append]
    rw [after, after_last j (by omega)]
    simp only [Int.toNat_natCast, rg_len, List.map_nil, List.nil_append]
    exact combos_first (j + 1) (y + 1) _ (by omega) (by omega)
  | x :: pre => by
    simp only [List.cons_append]
    rw [after, after_next h pre, after]
    simp only [List.map_cons, List.cons_append, List.length_append, List.length_cons, rg_len]
def Up (items : Nat) : Nat → List Int → Prop
  | _, [] => True
  | lo, x :: s => ∃ n : Nat, x = n ∧ lo ≤ n ∧ n + s.length < items ∧ Up items (n + 1) s
theorem up_rg {items : Nat} : ∀ (n lo a : Nat), lo ≤ a → a + n ≤ items → Up items lo (rg a n)
  | 0, _, _, _, _ => trivial
  | n + 1, lo, a, h1, h2 => ⟨a, rfl, h1, by rw [rg_len]; omega, up_rg n (a + 1) (a + 1) (by omega) (by omega)⟩
theorem up_split {items : Nat} : ∀ (s : List Int) (lo : Nat), Up items lo s → s.length ≤ items → s = rg (items - s.length) s.length ∨ ∃ (pre : List Int) (y j : Nat), s = pre ++ (y : Int) :: rg (items - j) j ∧ y + j + 1 < items
  | [], _, _, _ => .inl rfl
  | x :: s, lo, ⟨n, e, h1, h2, h3⟩, hl => by
    simp only [List.length_cons] at hl
    subst e
    rcases up_split s (n + 1) h3 (by omega) with h | ⟨pre, y, j, h, h4⟩
    · by_cases hn : n + s.length + 1 = items
      · left
        simp only [List.length_cons, rg]
        rw [show items - (s.length + 1) = n from by omega, show n + 1 = items - s.length from by omega, ← h]
      · right
        exact ⟨[], n, s.length, by rw [← h]; rfl, by omega⟩
    · exact .inr ⟨(n : Int) :: pre, y, j, by rw [h]; rfl, h4⟩
theorem up_next {items y j : Nat} (h : y + j + 1 < items) : ∀ (pre : List Int) (lo : Nat), Up items lo (pre ++ (y : Int) :: rg (items - j) j) → Up items lo (pre ++ rg (y + 1) (j + 1))
  | [], lo, ⟨n, e, h1, _, _⟩ => up_rg (j + 1) lo (y + 1) (by omega) (by omega)
  | x :: pre, lo, ⟨n, e, h1, h2, h3⟩ => ⟨n, e, h1, by simpa [rg_len] using h2, up_next h pre (n + 1) h3⟩
theorem up_mem {items : Nat} : ∀ (s : List Int) (lo : Nat), Up items lo s → ∀ x ∈ s, 0 ≤ x ∧ x < items
  | [], _, _, x, hx => by cases hx
  | y :: s, lo, ⟨n, e, h1, h2, h3⟩, x, hx => by
    rcases List.mem_cons.1 hx with rfl | hx
    · omega
    · exact up_mem s (n + 1) h3 x hx
theorem lidx_app {a b : List Int} {i : Int} (h : (a.length : Int) ≤ i) : lidx (a ++ b) i = lidx b (i - a.length) := by
  unfold lidx
  rw [if_pos (by omega), if_pos (by omega), List.getElem?_append_right (by omega)]
  congr 1; omega
theorem lidx_rg : ∀ (n lo i : Nat), i < n → lidx (rg lo n) (i : Int) = some ((lo + i : Nat) : Int)
  | n + 1, lo, 0, _ => by unfold lidx; rw [if_pos (by omega)]; rfl
  | n + 1, lo, i + 1, h => by
    have := lidx_rg n (lo + 1) i (by omega)
    unfold lidx at this ⊢
    rw [if_pos (by omega)] at this ⊢
    rw [Int.toNat_natCast] at this ⊢
    rw [rg, List.getElem?_cons_succ, this]
    congr 2; omega
theorem lupd_app {a b : List Int} {x y : Int} : lupd (a ++ x :: b) (a.length : Int) y = some (a ++ y :: b) := by
  rw [lupd_ok (by omega) (by simp; omega)]
  rw [Int.toNat_natCast, List.set_append_right _ _ (by omega)]
  simp
theorem rg_snoc : ∀ (n lo : Nat), rg lo (n + 1) = rg lo n ++ [((lo + n : Nat) : Int)]
  | 0, lo => rfl
  | n + 1, lo => by
    rw [rg, rg_snoc n (lo + 1)]
    simp only [rg, List.cons_append]
    congr 3; omega
theorem back_L {items size : Nat} (hi : items ≤ 1024) (kx : Int → Int → Option (Int × Int × Int)) (B : Int) {pre : List Int} {y j : Nat} (h : y + j + 1 < items) (hs : pre.length + 1 + j = size) (hsz : size ≤ items) : ∀ (i fuel : Nat), i ≤ j → i < fuel →
    ref19_Failures_L3 kx (items : Int) (size : Int) B (pre ++ (y : Int) :: rg (items - j) j) fuel ((pre.length + i : Nat) : Int) = kx (pre.length : Int) B
  | 0, fuel, _, hf => by
    obtain ⟨fuel, rfl⟩ : ∃ k, fuel = k + 1 := ⟨fuel - 1, by omega⟩
    rw [ref19_Failures_L3]
    unfold ref19_Failures_B3
    rw [if_pos (by omega), lidx_app (by omega)]
    have : lidx ((y : Int) :: rg (items - j) j) (((pre.length + 0 : Nat) : Int) - pre.length) = some (y : Int) := by
      unfold lidx; rw [if_pos (by omega), show (((pre.length + 0 : Nat) : Int) - pre.length).toNat = 0 from by omega]; rfl
    rw [this]
    simp only [Option.bind_some]
    rw [w64_id (x := (items : Int) - size) (by omega) (by omega), w64_id (by omega) (by omega), decide_eq_false (by omega), if_neg (by simp)]
    simp
  | i + 1, fuel, hij, hf => by
    obtain ⟨fuel, rfl⟩ : ∃ k, fuel = k + 1 := ⟨fuel - 1, by omega⟩
    rw [ref19_Failures_L3]
    unfold ref19_Failures_B3
    rw [if_pos (by omega), lidx_app (by omega)]
    have : lidx ((y : Int) :: rg (items - j) j) (((pre.length + (i + 1) : Nat) : Int) - pre.length) = some ((items - j + i : Nat) : Int) := by
      have h1 := lidx_rg j (items - j) i (by omega)
      unfold lidx at h1 ⊢
      rw [if_pos (by omega)] at h1 ⊢
      rw [show (((pre.length + (i + 1) : Nat) : Int) - pre.length).toNat = i + 1 from by omega, List.getElem?_cons_succ]
      rwa [Int.toNat_natCast] at h1
    rw [this]
    simp only [Option.bind_some]
    rw [w64_id (x := (items : Int) - size) (by omega) (by omega), w64_id (by omega) (by omega), decide_eq_true (by omega), if_pos rfl, w64_id (by omega) (by omega), show ((pre.length + (i + 1) : Nat) : Int) - 1 = ((pre.length + i : Nat) : Int) from by omega]
    exact back_L hi kx B h hs hsz i fuel (by omega) (by omega)
theorem back_all {items size : Nat} (hi : items ≤ 1024) (kx : Int → Int → Option (Int × Int × Int)) (B : Int) (hsz : size ≤ items) : ∀ (i fuel : Nat), i ≤ size → i < fuel →
    ref19_Failures_L3 kx (items : Int) (size : Int) B (rg (items - size) size) fuel ((i : Int) - 1) = kx (-1) B
  | 0, fuel, _, hf => by
    obtain ⟨fuel, rfl⟩ : ∃ k, fuel = k + 1 := ⟨fuel - 1, by omega⟩
    rw [ref19_Failures_L3]
    unfold ref19_Failures_B3
    rw [if_neg (by omega)]
    simp
  | i + 1, fuel, hij, hf => by
    obtain ⟨fuel, rfl⟩ : ∃ k, fuel = k + 1 := ⟨fuel - 1, by omega⟩
    rw [ref19_Failures_L3]
    unfold ref19_Failures_B3
    rw [if_pos (by omega), show ((i + 1 : Nat) : Int) - 1 = (i : Int) from by omega, lidx_rg _ _ _ (by omega)]
    simp only [Option.bind_some]
    rw [w64_id (x := (items : Int) - size) (by omega) (by omega), w64_id (by omega) (by omega), decide_eq_true (by omega), if_pos rfl, w64_id (by omega) (by omega)]
    exact back_all hi kx B hsz i fuel (by omega) (by omega)
theorem fill_L {size : Nat} (hs : size ≤ 1024) (rec : Int → Int → List Int → Int → Option (Int × Int × Int)) (f i0 B : Int) (hi0 : 0 ≤ i0 ∧ i0 ≤ 100000) {pre : List Int} {y : Nat} (hy : y ≤ 1024) : ∀ (rest : List Int) (i fuel : Nat), pre.length + 1 + i + rest.length = size → rest.length < fuel →
    ref19_Failures_L1 rec f i0 (size : Int) B fuel ((pre.length + 1 + i : Nat) : Int) (pre ++ rg (y + 1) (1 + i) ++ rest) = rec f (i0 + 1) (pre ++ rg (y + 1) (1 + i + rest.length)) B
  | [], i, fuel, hl, hf => by
    obtain ⟨fuel, rfl⟩ : ∃ k, fuel = k + 1 := ⟨fuel - 1, by omega⟩
    simp only [List.length_nil] at hl
    rw [ref19_Failures_L1]
    unfold ref19_Failures_B1
    rw [if_neg (by omega), w64_id (by omega) (by omega)]
    simp
  | x :: rest, i, fuel, hl, hf => by
    obtain ⟨fuel, rfl⟩ : ∃ k, fuel = k + 1 := ⟨fuel - 1, by omega⟩
    simp only [List.length_cons] at hl hf
    rw [ref19_Failures_L1]
    unfold ref19_Failures_B1
    rw [if_pos (by omega), w64_id (x := ((pre.length + 1 + i : Nat) : Int) - 1) (by omega) (by omega)]
    have h1 : lidx (pre ++ rg (y + 1) (1 + i) ++ x :: rest) (((pre.length + 1 + i : Nat) : Int) - 1) = some ((y + 1 + i : Nat) : Int) := by
      have h2 := lidx_rg (1 + i) (y + 1) i (by omega)
      unfold lidx at h2 ⊢
      rw [if_pos (by omega)] at h2 ⊢
      rw [List.getElem?_append_left (by simp [rg_len]; omega), List.getElem?_append_right (by omega), show (((pre.length + 1 + i : Nat) : Int) - 1).toNat - pre.length = i from by omega]
      rwa [Int.toNat_natCast] at h2
    have h3 : lidx (pre ++ rg (y + 1) (1 + i) ++ x :: rest) ((pre.length + 1 + i : Nat) : Int) = some x := by
      unfold lidx
      rw [if_pos (by omega), Int.toNat_natCast, List.getElem?_append_right (by simp [rg_len]; omega)]
      rw [show pre.length + 1 + i - (pre ++ rg (y + 1) (1 + i)).length = 0 from by simp [rg_len]; omega]; rfl
    rw [h1, h3]
    simp only [Option.bind_some]
    rw [w64_id (x := ((y + 1 + i : Nat) : Int) + 1) (by omega) (by omega)]
    have h4 : lupd (pre ++ rg (y + 1) (1 + i) ++ x :: rest) ((pre.length + 1 + i : Nat) : Int) (((y + 1 + i : Nat) : Int) + 1) = some (pre ++ rg (y + 1) (1 + (i + 1)) ++ rest) := by
      have : ((pre.length + 1 + i : Nat) : Int) = ((pre ++ rg (y + 1) (1 + i)).length : Int) := by simp [rg_len]; omega
      rw [this, lupd_app]
      rw [show 1 + (i + 1) = (1 + i) + 1 from by omega, rg_snoc]
      simp only [List.append_assoc, List.singleton_append]
      congr 4; omega
    rw [h4]
    simp only [Option.bind_some]
    rw [w64_id (by omega) (by omega), show ((pre.length + 1 + i : Nat) : Int) + 1 = ((pre.length + 1 + (i + 1) : Nat) : Int) from by omega]
    rw [fill_L hs rec f i0 B hi0 hy rest (i + 1) fuel (by omega) (by omega)]
    simp only [List.length_cons]
    congr 3; omega
theorem rfail_L {h : Hsh} (hk : HshOK h) {items size : Nat} (hi : items ≤ 1024) (hsz : size ≤ items) {total : Nat} (ht : total ≤ 4096) : ∀ (R fuel : Nat) (s : List Int) (f i : Nat), (after items s).length = R → i + 1 + R = total → R < fuel → s.length = size → Up items 0 s → f ≤ i →
    ref19_Failures_L5 (items : Int) (size : Int) (total : Int) h.2 fuel (f : Int) (i : Int) s h.1 = some (((f + (s :: after items s).countP (bad h) : Nat) : Int), (total : Int), 0) := by
  intro R
  induction R with
  | zero | succ R ih =>
    intro fuel s f i hR hit hf hs hu hfi
    obtain ⟨fuel, rfl⟩ : ∃ k, fuel = k + 1 := ⟨fuel - 1, by omega⟩
    rw [ref19_Failures_L5]
    unfold ref19_Failures_B5
    rw [if_pos (by omega)]
    have hmem := up_mem s 0 hu
    have hasg : ∃ l e, ref19_Assign (h.1, h.2) s = some (l, e) ∧ (e ≠ 0 ↔ bad h s = true) := by
      have hb := hk.2.1
      have hit : ∀ n ∈ s, ItemOK n := fun n hn => by have := hmem n hn; unfold ItemOK; omega
      rcases assign_ok h s (by omega) with ⟨a, _⟩ | ⟨_, ⟨n, hn, a⟩, _⟩ | ⟨_, _, a, _, a2⟩ | ⟨_, _, a0, a1, _, a2⟩ | ⟨_, _, a0, a1, bk, fx, _, a2, _⟩
      · exact absurd hk a
      · exact absurd (hit n hn) a
      · exact ⟨_, _, a2, by rw [bad_iff]; simp [a]⟩
      · exact ⟨_, _, a2, by rw [bad_iff]; simp [a1]⟩
      · exact ⟨_, _, a2, by rw [bad_iff]; simp [a1]; omega⟩
    obtain ⟨l, e, ea, he⟩ := hasg
    rw [ea]
    simp only [Option.bind_some]
    have hgo : ∀ g : Nat, g ≤ i + 1 → ref19_Failures_J4 (ref19_Failures_L5 (items : Int) (size : Int) (total : Int) h.2 fuel) (i : Int) (items : Int) (size : Int) (total : Int) h.1 s (g : Int) = some (((g + (after items s).countP (bad h) : Nat) : Int), (total : Int), 0) := by
      intro g hg
      unfold ref19_Failures_J4
      rw [w64_id (by omega) (by omega)]
      rcases up_split s 0 hu (by omega) with h1 | ⟨pre, y, j, h1, h2⟩
      · rw [hs] at h1
        rw [h1, back_all hi _ h.1 hsz size big (by omega) (by simp only [big]; omega), after_last size hsz]
        unfold ref19_Failures_J2
        rw [if_pos (by omega)]
        simp
      · have hl : pre.length + 1 + j = size := by rw [← hs, h1]; simp [rg_len]; omega
        have hnx := after_next h2 pre
        have hb := back_L (pre := pre) hi (ref19_Failures_J2 (ref19_Failures_L5 (items : Int) (size : Int) (total : Int) h.2 fuel) (g : Int) (i : Int) (size : Int) (total : Int) s) h.1 h2 hl hsz j big (by omega) (by simp only [big]; omega)
        rw [show ((pre.length + j : Nat) : Int) = (size : Int) - 1 from by omega, ← h1] at hb
        rw [hb]
        unfold ref19_Failures_J2
        rw [if_neg (by omega)]
        have h3 : lidx s (pre.length : Int) = some (y : Int) := by
          rw [h1, lidx_app (by omega)]
          unfold lidx; rw [if_pos (by omega), show ((pre.length : Int) - pre.length).toNat = 0 from by omega]; rfl
        rw [h3]
        simp only [Option.bind_some]
        rw [w64_id (x := (y : Int) + 1) (by omega) (by omega), h1, lupd_app]
        simp only [Option.bind_some]
        rw [w64_id (by omega) (by omega)]
        have hfl := fill_L (size := size) (by omega) (ref19_Failures_L5 (items : Int) (size : Int) (total : Int) h.2 fuel) (g : Int) (i : Int) h.1 (by omega) (pre := pre) (y := y) (by omega) (rg (items - j) j) 0 big (by rw [rg_len]; omega) (by rw [rg_len]; simp only [big]; omega)
        simp only [Nat.add_zero, rg_len] at hfl
        have e1 : pre ++ rg (y + 1) 1 ++ rg (items - j) j = pre ++ ((y : Int) + 1) :: rg (items - j) j := by simp [rg]
        rw [e1, show ((pre.length + 1 : Nat) : Int) = (pre.length : Int) + 1 from by omega] at hfl
        rw [hfl, Nat.add_comm 1 j]
        have hup := up_next h2 pre 0 (by rw [← h1]; exact hu)
        rw [← h1] at hnx ⊢
        rw [hnx] at hR ⊢
        first
          | (exfalso; simp at hR; done)
          | (have := ih fuel (pre ++ rg (y + 1) (j + 1)) g (i + 1) (by simpa using hR) (by omega) (by omega) (by simp [rg_len]; omega) hup (by omega)
             rw [show ((i + 1 : Nat) : Int) = (i : Int) + 1 from by omega] at this
             rw [this])
    rw [List.countP_cons]
    by_cases hb : bad h s = true
    · rw [if_pos (he.2 hb), w64_id (by omega) (by omega), show (f : Int) + 1 = ((f + 1 : Nat) : Int) from by omega, hgo (f + 1) (by omega), if_pos hb]
      congr 3; omega
    · rw [if_neg (fun h => hb (he.1 h)), hgo f (by omega), if_neg hb]
      congr 3
theorem build_set {size : Nat} (hs : size ≤ 1024) (kx : List Int → Int → Option (Int × Int × Int)) (B : Int) : ∀ (r n fuel : Nat), n + r = size → r < fuel → ref19_Failures_L7 kx (size : Int) B fuel (rg 0 n) (n : Int) = kx (rg 0 size) B
  | 0, n, fuel, hn, hf => by
    obtain ⟨fuel, rfl⟩ : ∃ k, fuel = k + 1 := ⟨fuel - 1, by omega⟩
    rw [ref19_Failures_L7]
    unfold ref19_Failures_B7
    rw [if_neg (by omega), show n = size from by omega]
  | r + 1, n, fuel, hn, hf => by
    obtain ⟨fuel, rfl⟩ : ∃ k, fuel = k + 1 := ⟨fuel - 1, by omega⟩
    rw [ref19_Failures_L7]
    unfold ref19_Failures_B7
    rw [if_pos (by omega), lapp_ok (by simp [rg_len]; omega)]
    simp only [Option.bind_some]
    have := rg_snoc n 0
    rw [Nat.zero_add] at this
    rw [← this, w64_id (by omega) (by omega), show (n : Int) + 1 = ((n + 1 : Nat) : Int) from by omega]
    exact build_set hs kx B r (n + 1) fuel (by omega) (by omega)
theorem fails_same (h : Hsh) (a b : Int) : ∃ r, cuckoo_Failures h a b = some r ∧ ref19_Failures h a b = some r := by
  rcases check_ok h with ⟨e, hk⟩ | ⟨e, _⟩
  · by_cases hr : (((a < 0) ∨ (1024 < a)) ∨ (b < 0)) ∨ (a < b)
    · refine ⟨(0, 0, 1), ?_, ?_⟩
      · unfold cuckoo_Failures; rw [e]; simp only [Option.bind_some]; rw [if_neg (by simp), if_pos hr]
      · unfold ref19_Failures; rw [rcheck, e]; simp only [Option.bind_some]; rw [if_neg (by simp), if_pos hr]
    · obtain ⟨n, rfl⟩ : ∃ n : Nat, a = n := ⟨a.toNat, by omega⟩
      obtain ⟨k, rfl⟩ : ∃ k : Nat, b = k := ⟨b.toNat, by omega⟩
      have hn : n ≤ 1024 := by omega
      have hkn : k ≤ n := by omega
      obtain ⟨c, d, e1, e2, ⟨h1, h2⟩ | ⟨h1, h2, h3⟩⟩ := sets_ok hn hkn
      · refine ⟨(0, 0, 4), ?_, ?_⟩
        · unfold cuckoo_Failures; rw [e]; simp only [Option.bind_some]; rw [if_neg (by simp), if_neg hr, e1]; simp only [Option.bind_some]; rw [if_pos h1]
        · unfold ref19_Failures; rw [rcheck, e]; simp only [Option.bind_some]; rw [if_neg (by simp), if_neg hr, e2]; simp only [Option.bind_some]; rw [if_pos h2]
      · have hlen : (combos k (rg 0 n)).length = ch n k := by rw [combos_len, rg_len]
        have hF := failures_ok hk hn hkn e1 h3 (by rw [hlen]; omega)
        refine ⟨_, hF, ?_⟩
        unfold ref19_Failures
        rw [rcheck, e]
        simp only [Option.bind_some]
        rw [if_neg (by simp), if_neg hr, e2]
        simp only [Option.bind_some]
        rw [if_neg (by omega)]
        have hbs := build_set (size := k) (by omega) (ref19_Failures_J6 (n : Int) (k : Int) d h.2) h.1 k 0 big (by omega) (by simp only [big]; omega)
        rw [show rg 0 0 = [] from rfl, show ((0 : Nat) : Int) = 0 from rfl] at hbs
        rw [hbs]
        unfold ref19_Failures_J6
        have hcf := combos_first (items := n) k 0 n hkn (by omega)
        have hla : (after n (rg 0 k)).length + 1 = ch n k := by rw [← hlen, hcf]; simp
        have := rfail_L hk hn hkn (total := ch n k) (by omega) (after n (rg 0 k)).length big (rg 0 k) 0 0 rfl (by omega) (by simp only [big]; omega) (rg_len _ _) (up_rg _ _ _ (by omega) (by omega)) (by omega)
        rw [h2, h1]
        rw [show ((0 : Nat) : Int) = 0 from rfl] at this
        rw [this, hlen, hcf, Nat.zero_add]
  · refine ⟨(0, 0, 2), ?_, ?_⟩
    · unfold cuckoo_Failures; rw [e]; simp only [Option.bind_some]; rw [if_pos (by simp)]
    · unfold ref19_Failures; rw [rcheck, e]; simp only [Option.bind_some]; rw [if_pos (by simp)]
end Go.Proofs.YtnfalgmfmiolbaaGreat
end

section
namespace Go.Proofs.YtnfalgmfmiolbaaGreat
set_option linter.unusedVariables false
def layB (h : Hsh) (n : Nat) (b : Int) : List Int := (rg 0 n).filter fun i => decide (b ∈ homeL h i)
def lay (h : Hsh) (n : Nat) : List (List Int) := (rg 0 h.1.toNat).map (layB h n)
theorem at_map {α β : Type} (d : α) (e : β) (f : α → β) {l : List α} {i : Int} (h0 : 0 ≤ i) (h1 : i < l.length) : at' e (l.map f) i = f (at' d l i) := by
  unfold at'
  rw [List.getD_eq_getElem?_getD, List.getD_eq_getElem?_getD, List.getElem?_map, List.getElem?_eq_getElem (by omega : i.toNat < l.length)]; rfl
theorem getD_rg : ∀ (n lo k : Nat), k < n → (rg lo n).getD k 0 = ((lo + k : Nat) : Int)
  | n + 1, lo, 0, _ => by simp [rg]
  | n + 1, lo, k + 1, hk => by rw [rg, List.getD_cons_succ, getD_rg n (lo + 1) k (by omega)]; congr 1; omega
theorem at_rg {n lo : Nat} {i : Int} (h0 : 0 ≤ i) (h1 : i < n) : at' 0 (rg lo n) i = lo + i := by
  unfold at'
  rw [getD_rg n lo i.toNat (by omega)]
  omega
theorem lay_len (h : Hsh) (n : Nat) : (lay h n).length = h.1.toNat := by unfold lay; simp [rg_len]
theorem lay_at {h : Hsh} {n : Nat} {b : Int} (b0 : 0 ≤ b) (bB : b < h.1) : at' [] (lay h n) b = layB h n b := by
  unfold lay
  rw [at_map 0 [] _ b0 (by rw [rg_len]; omega), at_rg b0 (by omega)]
  simp
theorem ext_at {α : Type} (d : α) {l m : List α} (hl : l.length = m.length) (h : ∀ b : Int, 0 ≤ b → b < l.length → at' d l b = at' d m b) : l = m := by
  apply List.ext_getElem hl
  intro n h1 h2
  have := h n (by omega) (by omega)
  unfold at' at this
  rw [Int.toNat_natCast, List.getD_eq_getElem?_getD, List.getD_eq_getElem?_getD, List.getElem?_eq_getElem h1, List.getElem?_eq_getElem h2] at this
  exact this
theorem layB_succ (h : Hsh) (n : Nat) (b : Int) : layB h (n + 1) b = layB h n b ++ if b ∈ homeL h n then [(n : Int)] else [] := by
  unfold layB
  have := rg_snoc n 0
  rw [Nat.zero_add] at this
  rw [this, List.filter_append]
  by_cases hb : b ∈ homeL h n <;> simp [hb]
theorem layB_lt {h : Hsh} {n : Nat} {b x : Int} (hx : x ∈ layB h n b) : 0 ≤ x ∧ x < n := by
  have := (rg_mem n 0 x).1 (List.mem_filter.1 hx).1
  omega
theorem layB_len (h : Hsh) (n : Nat) (b : Int) : (layB h n b).length ≤ n := by
  have := List.length_filter_le (fun i => decide (b ∈ homeL h i)) (rg 0 n)
  rw [rg_len] at this
  exact this
def Mid (h : Hsh) (n : Nat) (dn : List Int) (v : List (List Int)) : Prop := (v.length : Int) = h.1 ∧ ∀ b, 0 ≤ b → b < h.1 → at' [] v b = layB h n b ++ if b ∈ dn then [(n : Int)] else []
theorem Mid.put {h : Hsh} {n : Nat} {dn : List Int} {v : List (List Int)} (m : Mid h n dn v) {b : Int} (b0 : 0 ≤ b) (bB : b < h.1) (hb : b ∉ dn) : Mid h n (dn ++ [b]) (v.set b.toNat (at' [] v b ++ [(n : Int)])) := by
  have hl := m.1
  refine ⟨by simpa using m.1, fun c c0 cB => ?_⟩
  rw [at_set [] b0 (by omega) c0]
  by_cases e : c = b
  · subst e
    rw [if_pos rfl, m.2 c c0 cB, if_neg hb]; simp
  · rw [if_neg e, m.2 c c0 cB]
    congr 1
    simp [e]
theorem Mid.skip {h : Hsh} {n : Nat} {dn : List Int} {v : List (List Int)} (m : Mid h n dn v) {b : Int} (hb : b ∈ dn) : Mid h n (dn ++ [b]) v := by
  refine ⟨m.1, fun c c0 cB => ?_⟩
  rw [m.2 c c0 cB]
  congr 1
  by_cases e : c = b
  · subst e; simp [hb]
  · simp [e]
theorem lay_L1 {h : Hsh} {n : Nat} (hn : n ≤ 1024) (rec : Int → List (List Int) → Int → Option (List (List Int) × Int)) (z : Int) : ∀ (bs dn : List Int) (v : List (List Int)), (∀ b ∈ bs, 0 ≤ b ∧ b < h.1) → Mid h n dn v →
    ∃ w, cuckoo_Layout_L1 rec (n : Int) z bs v = rec ((n + 1 : Nat) : Int) w z ∧ Mid h n (dn ++ bs) w
  | [], dn, v, _, m => ⟨v, by rw [cuckoo_Layout_L1, w64_id (by omega) (by omega)]; rfl, by simpa using m⟩
  | b :: bs, dn, v, hb, m => by
    obtain ⟨b0, bB⟩ := hb b List.mem_cons_self
    have hl := m.1
    have hv := m.2 b b0 bB
    have hlb := layB_len h n b
    rw [cuckoo_Layout_L1]
    unfold cuckoo_Layout_B1
    rw [at_idx [] b0 (by omega)]
    simp only [Option.bind_some]
    by_cases hd : b ∈ dn
    · rw [if_pos hd] at hv
      have h1 : ((at' [] v b).length : Int) = (layB h n b).length + 1 := by rw [hv]; simp
      have h2 : lidx (at' [] v b) (w64 (((at' [] v b).length : Int) - 1)) = some (n : Int) := by
        rw [w64_id (by omega) (by omega), hv, lidx_app (by simp)]
        unfold lidx
        rw [if_pos (by simp)]
        simp
      rw [if_neg (by omega), h2]
      simp only [Option.bind_some]
      rw [if_neg (by simp)]
      obtain ⟨w, e, hw⟩ := lay_L1 hn rec z bs (dn ++ [b]) v (fun c hc => hb c (List.mem_cons_of_mem _ hc)) (m.skip hd)
      exact ⟨w, e, by simpa using hw⟩
    · rw [if_neg hd, List.append_nil] at hv
      have hc : ((if ((at' [] v b).length : Int) = 0 then some true else (lidx (at' [] v b) (w64 (((at' [] v b).length : Int) - 1))).bind fun u383 => some (decide (u383 ≠ (n : Int)))) : Option Bool) = some true := by
        by_cases h0 : ((at' [] v b).length : Int) = 0
        · rw [if_pos h0]
        · rw [if_neg h0, w64_id (by rw [hv]; omega) (by rw [hv]; omega), at_idx 0 (by omega) (by omega)]
          simp only [Option.bind_some]
          have hm : at' 0 (at' [] v b) (((at' [] v b).length : Int) - 1) ∈ at' [] v b := at_mem 0 (by omega) (by omega)
          generalize at' 0 (at' [] v b) (((at' [] v b).length : Int) - 1) = x at hm ⊢
          rw [hv] at hm
          have := layB_lt hm
          congr 1
          simp; omega
      rw [hc, Option.bind_some, if_pos rfl, lapp_ok (by rw [hv]; simp; omega)]
      simp only [Option.bind_some]
      rw [lupd_ok b0 (by omega)]
      simp only [Option.bind_some]
      obtain ⟨w, e, hw⟩ := lay_L1 hn rec z bs (dn ++ [b]) _ (fun c hc => hb c (List.mem_cons_of_mem _ hc)) (m.put b0 bB hd)
      exact ⟨w, e, by simpa using hw⟩
theorem has_ok (x : Int) : ∀ l : List Int, ref19_has_L1 x l = some (decide (x ∈ l))
  | [] => rfl
  | y :: l => by
    rw [ref19_has_L1]
    unfold ref19_has_B1
    by_cases e : y = x
    · rw [if_pos e]; simp [e]
    · rw [if_neg e, has_ok x l]
      congr 1
      have : ¬ x = y := fun h => e h.symm
      simp [this]
theorem rlay_L1 {h : Hsh} {n : Nat} (hn : n ≤ 1024) (rec : Int → List (List Int) → Int → Option (List (List Int) × Int)) (z : Int) : ∀ (bs dn : List Int) (v : List (List Int)), (∀ b ∈ bs, 0 ≤ b ∧ b < h.1) → Mid h n dn v →
    ∃ w, ref19_Layout_L1 rec (n : Int) (dn ++ bs) z bs dn.length v = rec ((n + 1 : Nat) : Int) w z ∧ Mid h n (dn ++ bs) w
  | [], dn, v, _, m => ⟨v, by rw [ref19_Layout_L1, w64_id (by omega) (by omega)]; rfl, by simpa using m⟩
  | b :: bs, dn, v, hb, m => by
    obtain ⟨b0, bB⟩ := hb b List.mem_cons_self
    have hl := m.1
    have hv := m.2 b b0 bB
    have hlb := layB_len h n b
    rw [ref19_Layout_L1]
    unfold ref19_Layout_B1
    rw [lsub_ok (by omega) (by omega) (by simp; omega)]
    simp only [Option.bind_some]
    have hd1 : ((dn ++ b :: bs).drop (0 : Int).toNat).take ((dn.length : Int) - 0).toNat = dn := by simp
    rw [hd1]
    unfold ref19_has
    rw [has_ok]
    simp only [Option.bind_some]
    by_cases hd : b ∈ dn
    · rw [decide_eq_true hd, if_neg (by simp)]
      have ih := rlay_L1 hn rec z bs (dn ++ [b]) v (fun c hc => hb c (List.mem_cons_of_mem _ hc)) (m.skip hd)
      simp only [List.append_assoc, List.singleton_append, List.length_append, List.length_singleton] at ih
      exact ih
    · rw [if_neg hd, List.append_nil] at hv
      rw [decide_eq_false hd, if_pos (by simp), at_idx [] b0 (by omega)]
      simp only [Option.bind_some]
      rw [lapp_ok (by rw [hv]; simp; omega)]
      simp only [Option.bind_some]
      rw [lupd_ok b0 (by omega)]
      simp only [Option.bind_some]
      have ih := rlay_L1 hn rec z bs (dn ++ [b]) _ (fun c hc => hb c (List.mem_cons_of_mem _ hc)) (m.put b0 bB hd)
      simp only [List.append_assoc, List.singleton_append, List.length_append, List.length_singleton] at ih
      exact ih
theorem Mid.next {h : Hsh} {n : Nat} {w : List (List Int)} (m : Mid h n ([] ++ homeL h n) w) : Mid h (n + 1) [] w := by
  refine ⟨m.1, fun b b0 bB => ?_⟩
  rw [m.2 b b0 bB, layB_succ]; simp
theorem Mid.done {h : Hsh} (hk : HshOK h) {n : Nat} {w : List (List Int)} (m : Mid h n [] w) : w = lay h n := by
  have hl := m.1
  have := hk.1
  refine ext_at [] (by rw [lay_len]; omega) fun b b0 bB => ?_
  rw [m.2 b b0 (by omega), lay_at b0 (by omega)]; simp
theorem lay_L2 {h : Hsh} (hk : HshOK h) {items : Nat} (hi : items ≤ 1024) : ∀ (r n fuel : Nat) (v : List (List Int)), n + r = items → r < fuel → Mid h n [] v → cuckoo_Layout_L2 (items : Int) h.2 fuel (n : Int) v h.1 = some (lay h items, 0)
  | 0, n, fuel, v, hn, hf, m => by
    obtain ⟨fuel, rfl⟩ : ∃ k, fuel = k + 1 := ⟨fuel - 1, by omega⟩
    rw [cuckoo_Layout_L2]
    unfold cuckoo_Layout_B2
    rw [if_neg (by omega), m.done hk, show n = items from by omega]
  | r + 1, n, fuel, v, hn, hf, m => by
    obtain ⟨fuel, rfl⟩ : ∃ k, fuel = k + 1 := ⟨fuel - 1, by omega⟩
    rw [cuckoo_Layout_L2]
    unfold cuckoo_Layout_B2
    rw [if_pos (by omega), homes_ok (h := (h.1, h.2)) hk (by unfold ItemOK; omega)]
    simp only [Option.bind_some]
    obtain ⟨w, e, hw⟩ := lay_L1 (h := h) (n := n) (by omega) (cuckoo_Layout_L2 (items : Int) h.2 fuel) h.1 (homeL h n) [] v (homeL_range hk n) m
    rw [show homeL (h.1, h.2) (n : Int) = homeL h n from rfl, e]
    exact lay_L2 hk hi r (n + 1) fuel w (by omega) (by omega) hw.next
theorem rlay_L2 {h : Hsh} (hk : HshOK h) {items : Nat} (hi : items ≤ 1024) : ∀ (r n fuel : Nat) (v : List (List Int)), n + r = items → r < fuel → Mid h n [] v → ref19_Layout_L2 (items : Int) h.2 fuel (n : Int) v h.1 = some (lay h items, 0)
  | 0, n, fuel, v, hn, hf, m => by
    obtain ⟨fuel, rfl⟩ : ∃ k, fuel = k + 1 := ⟨fuel - 1, by omega⟩
    rw [ref19_Layout_L2]
    unfold ref19_Layout_B2
    rw [if_neg (by omega), m.done hk, show n = items from by omega]
  | r + 1, n, fuel, v, hn, hf, m => by
    obtain ⟨fuel, rfl⟩ : ∃ k, fuel = k + 1 := ⟨fuel - 1, by omega⟩
    rw [ref19_Layout_L2]
    unfold ref19_Layout_B2
    rw [if_pos (by omega), rhomes_ok (h := (h.1, h.2)) hk (by unfold ItemOK; omega)]
    simp only [Option.bind_some]
    obtain ⟨w, e, hw⟩ := rlay_L1 (h := h) (n := n) (by omega) (ref19_Layout_L2 (items : Int) h.2 fuel) h.1 (homeL h n) [] v (homeL_range hk n) m
    rw [List.nil_append, List.length_nil] at e
    rw [show homeL (h.1, h.2) (n : Int) = homeL h n from rfl, e]
    exact rlay_L2 hk hi r (n + 1) fuel w (by omega) (by omega) hw.next
theorem mid0 {h : Hsh} (hk : HshOK h) : Mid h 0 [] (List.replicate h.1.toNat ([] : List Int)) := by
  have := hk.1
  refine ⟨by simp; omega, fun b b0 bB => ?_⟩
  rw [at_rep _ _ b0 (by omega)]; simp [layB, rg]
theorem layout_yes {h : Hsh} (hk : HshOK h) {n : Nat} (hn : n ≤ 1024) : cuckoo_Layout h n = some (lay h n, 0) ∧ ref19_Layout h n = some (lay h n, 0) := by
  have h1 := hk.1; have h2 := hk.2.1
  have hm : lmk h.1 ([] : List Int) = some (List.replicate h.1.toNat []) := by unfold lmk; rw [if_pos (by omega)]
  have e0 : cuckoo_Check h = some 0 := by
    rcases check_ok h with ⟨e, _⟩ | ⟨_, hq⟩
    · exact e
    · exact absurd hk hq
  constructor
  · unfold cuckoo_Layout
    rw [e0, Option.bind_some, if_neg (by simp), if_neg (by omega), hm, Option.bind_some]
    exact lay_L2 hk hn n 0 big _ (by omega) (by simp only [big]; omega) (mid0 hk)
  · unfold ref19_Layout
    rw [rcheck, e0, Option.bind_some, if_neg (by simp), if_neg (by omega), hm, Option.bind_some]
    exact rlay_L2 hk hn n 0 big _ (by omega) (by simp only [big]; omega) (mid0 hk)
def Rst (h : Hsh) (l : List Int) : Nat → List Bool → List Int → Prop
  | _, v, [] => ∀ j : Int, 0 ≤ j → j < l.length → at' false v j = true
  | i, v, x :: xs => (x = -1 ∧ Rst h l (i + 1) v xs) ∨ (0 ≤ x ∧ x < l.length ∧ at' false v x = false ∧ (i : Int) ∈ homeL h (at' 0 l x) ∧ Rst h l (i + 1) (v.set x.toNat true) xs)
theorem Rst.all {h : Hsh} {l : List Int} : ∀ (xs : List Int) (i : Nat) (v : List Bool), v.length = l.length → Rst h l i v xs →
    (∀ y ∈ xs, -1 ≤ y ∧ y < l.length) ∧ (∀ j : Int, 0 ≤ j → j < l.length → xs.count j + (if at' false v j = true then 1 else 0) = 1) ∧ (∀ k : Nat, k < xs.length → 0 ≤ xs.getD k 0 → ((i + k : Nat) : Int) ∈ homeL h (at' 0 l (xs.getD k 0)))
  | [], i, v, hv, hr => ⟨by simp, fun j h0 h1 => by rw [hr j h0 h1]; simp, fun k hk => by simp at hk⟩
  | x :: xs, i, v, hv, hr => by
    rcases hr with ⟨h1, hr⟩ | ⟨x0, xl, hf, hm, hr⟩
    · obtain ⟨a, b, c⟩ := Rst.all xs (i + 1) v hv hr
      refine ⟨fun y hy => ?_, fun j h0 h2 => ?_, fun k hk h0 => ?_⟩
      · rcases List.mem_cons.1 hy with rfl | hy
        · omega
        · exact a y hy
      · rw [List.count_cons]
        have : (x == j) = false := by simp; omega
        rw [this]
        simpa using b j h0 h2
      · cases k with
        | zero => simp only [List.getD_cons_zero] at h0; omega
        | succ k =>
          simp only [List.getD_cons_succ, List.length_cons] at h0 hk ⊢
          have := c k (by omega) h0
          rwa [show i + 1 + k = i + (k + 1) from by omega] at this
    · obtain ⟨a, b, c⟩ := Rst.all xs (i + 1) (v.set x.toNat true) (by simpa using hv) hr
      refine ⟨fun y hy => ?_, fun j h0 h2 => ?_, fun k hk h0 => ?_⟩
      · rcases List.mem_cons.1 hy with rfl | hy
        · omega
        · exact a y hy
      · have := b j h0 h2
        rw [at_set false x0 (by omega) h0] at this
        rw [List.count_cons]
        by_cases e : j = x
        · subst e
          rw [if_pos rfl] at this
          rw [hf]; simp at this ⊢; exact this
        · rw [if_neg e] at this
          have e2 : (x == j) = false := by simp; omega
          rw [e2]; simpa using this
      · cases k with
        | zero => simpa using hm
        | succ k =>
          simp only [List.getD_cons_succ, List.length_cons] at h0 hk ⊢
          have := c k (by omega) h0
          rwa [show i + 1 + k = i + (k + 1) from by omega] at this
def ixL (x : Int) : List Int → Int → Int
  | [], _ => -1
  | y :: l, i => if x = y then i else ixL x l (i + 1)
end Go.Proofs.YtnfalgmfmiolbaaGreat
end

section
namespace Go.Proofs.YtnfalgmfmiolbaaGreat
set_option linter.unusedVariables false
def spot (ls : List (List Int)) (bk : List Int) (i x : Int) : Int := ixL x (at' [] ls (ixL i bk 0)) 0
end Go.Proofs.YtnfalgmfmiolbaaGreat
end

section
namespace Go.Proofs.YtnfalgmfmiolbaaGreat
def stp (b : Int) : Nat → Int → Nat
  | 0, _ => 1
  | k + 1, n => if n ≤ b then 1 else 1 + stp b k ((n + b - 1) / b)
theorem ceil_le {n b m : Int} (hb : 1 ≤ b) : (n + b - 1) / b ≤ m ↔ n ≤ m * b := by
  constructor
  · intro h
    have h1 := Int.mul_ediv_add_emod (n + b - 1) b
    have h2 := Int.emod_lt_of_pos (n + b - 1) (by omega : 0 < b)
    have h3 : b * ((n + b - 1) / b) ≤ b * m := Int.mul_le_mul_of_nonneg_left h (by omega)
    rw [Int.mul_comm m b]; omega
  · intro h
    have : (n + b - 1) / b < m + 1 := Int.ediv_lt_of_lt_mul (by omega) (by rw [Int.add_mul]; omega)
    omega
theorem ceil_lt {n b : Int} (hb : 2 ≤ b) (h : b < n) : 1 ≤ (n + b - 1) / b ∧ (n + b - 1) / b ≤ n - 1 := by
  constructor
  · exact Int.le_ediv_of_mul_le (by omega) (by omega)
  · rw [ceil_le (by omega)]
    have h1 : 0 ≤ (n - 2) * (b - 2) := Int.mul_nonneg (by omega) (by omega)
    have h2 : (n - 2) * (b - 2) = n * b - 2 * n - 2 * b + 4 := by rw [Int.sub_mul, Int.mul_sub, Int.mul_sub]; omega
    rw [Int.sub_mul]; omega
theorem stp_pos (b : Int) : ∀ (k : Nat) (n : Int), 1 ≤ stp b k n
  | 0, _ => Nat.le_refl _
  | k + 1, n => by simp only [stp]; split <;> omega
theorem stp_le {b : Int} (hb : 2 ≤ b) : ∀ (k : Nat) (n : Int), n ≤ k → ∀ j : Nat, stp b k n ≤ j + 1 ↔ n ≤ b ^ (j + 1)
  | 0, n, h, j => by
    have : 0 < b ^ (j + 1) := Int.pow_pos (by omega)
    simp only [stp]; omega
  | k + 1, n, h, j => by
    simp only [stp]
    split
    · rename_i hn
      have h1 : b ^ 1 ≤ b ^ (j + 1) := by
        rw [Int.pow_succ b j, Int.pow_succ, Int.pow_zero]
        have h0 : 0 < b ^ j := Int.pow_pos (by omega)
        exact Int.mul_le_mul_of_nonneg_right (by omega) (by omega)
      rw [Int.pow_succ, Int.pow_zero] at h1
      omega
    · rename_i hn
      have hc := ceil_lt hb (by omega : b < n)
      cases j with
      | zero =>
        have := stp_pos b k ((n + b - 1) / b)
        rw [Int.pow_succ, Int.pow_zero]
        omega
      | succ j =>
        have ih := stp_le hb k ((n + b - 1) / b) (by omega) j
        have e : 1 + stp b k ((n + b - 1) / b) ≤ j + 1 + 1 ↔ stp b k ((n + b - 1) / b) ≤ j + 1 := by omega
        rw [e, ih, ceil_le (by omega), ← Int.pow_succ]
theorem stp_fuel {b : Int} (hb : 2 ≤ b) {k m : Nat} {n : Int} (h1 : n ≤ k) (h2 : n ≤ m) : stp b k n = stp b m n := by
  have a := stp_pos b k n
  have c := stp_pos b m n
  have h3 := stp_le hb k n h1 (stp b m n - 1)
  have h4 := stp_le hb m n h2 (stp b m n - 1)
  have h5 := stp_le hb k n h1 (stp b k n - 1)
  have h6 := stp_le hb m n h2 (stp b k n - 1)
  have e1 : stp b m n - 1 + 1 = stp b m n := by omega
  have e2 : stp b k n - 1 + 1 = stp b k n := by omega
  rw [e1] at h3 h4
  rw [e2] at h5 h6
  have := h3.2 (h4.1 (Nat.le_refl _))
  have := h6.2 (h5.1 (Nat.le_refl _))
  omega
def st (b n : Int) : Nat := stp b 256 n
theorem st_small {b n : Int} (h : n ≤ b) : st b n = 1 := by
  show (if n ≤ b then 1 else _) = 1
  rw [if_pos h]
theorem st_large {b n : Int} (hb : 2 ≤ b) (h : b < n) (hn : n ≤ 256) : st b n = 1 + st b ((n + b - 1) / b) := by
  have hc := ceil_lt hb h
  have h1 : st b n = 1 + stp b 255 ((n + b - 1) / b) := by
    unfold st
    show (if n ≤ b then 1 else _) = _
    rw [if_neg (by omega)]
  rw [h1, stp_fuel hb (k := 255) (m := 256) (by omega) (by omega)]; rfl
theorem w64_ceil {n b : Int} (h1 : 1 ≤ n) (h2 : n ≤ 100000) (h3 : 1 ≤ b) (h4 : b ≤ 100000) : w64 (Int.tdiv (w64 (w64 (n + b) - 1)) b) = (n + b - 1) / b := by
  have a := Int.ediv_nonneg (by omega : 0 ≤ n + b - 1) (by omega : 0 ≤ b)
  have c := Int.ediv_le_self b (by omega : 0 ≤ n + b - 1)
  rw [w64_id (x := n + b) (by omega) (by omega), w64_id (x := n + b - 1) (by omega) (by omega), Int.tdiv_eq_ediv_of_nonneg (by omega), w64_id (by omega) (by omega)]
theorem nz_of {y : Int} (h : y ≠ 0) : nz y = some () := by unfold nz; rw [if_neg h]
theorem steps_L {b : Int} (hb : 2 ≤ b) (hb2 : b ≤ 8) : ∀ (f : Nat) (n c : Int), 1 ≤ n → n ≤ 256 → n < f → 0 ≤ c → c + n ≤ 1000 → fence_Steps_L1 b f n c = some (c - 1 + st b n, 0)
  | 0, n, c, h1, _, h3, _, _ => by omega
  | f + 1, n, c, h1, h2, h3, h4, h5 => by
    show fence_Steps_B1 b (fence_Steps_L1 b f) n c = _
    unfold fence_Steps_B1
    split
    · rename_i h
      have hc := ceil_lt hb h
      rw [nz_of (by omega)]
      simp only [Option.bind_some]
      rw [w64_ceil h1 (by omega) (by omega) (by omega), w64_id (x := c + 1) (by omega) (by omega), steps_L hb hb2 f _ _ hc.1 (by omega) (by omega) (by omega) (by omega), st_large hb h h2]
      congr 2; omega
    · rw [st_small (by omega)]
      congr 2; omega
theorem rsteps_L {b : Int} (hb : 2 ≤ b) (hb2 : b ≤ 8) : ∀ (f : Nat) (n c : Int), 1 ≤ n → n ≤ 256 → n < f → 0 ≤ c → c + n ≤ 1000 → ref21_Steps_L1 b f n c = some (c - 1 + st b n, 0)
  | 0, n, c, h1, _, h3, _, _ => by omega
  | f + 1, n, c, h1, h2, h3, h4, h5 => by
    show ref21_Steps_B1 b (ref21_Steps_L1 b f) n c = _
    unfold ref21_Steps_B1
    split
    · rename_i h
      have hc := ceil_lt hb h
      rw [nz_of (by omega)]
      simp only [Option.bind_some]
      rw [w64_ceil h1 (by omega) (by omega) (by omega), w64_id (x := c + 1) (by omega) (by omega), rsteps_L hb hb2 f _ _ hc.1 (by omega) (by omega) (by omega) (by omega), st_large hb h h2]
      congr 2; omega
    · rw [st_small (by omega)]
      congr 2; omega
def stepsI (n b : Int) : Int × Int := if (1 ≤ n ∧ n ≤ 256) ∧ 2 ≤ b ∧ b ≤ 8 then (st b n, 0) else (0, 1)
theorem steps_eq (n b : Int) : fence_Steps n b = some (stepsI n b) := by
  unfold fence_Steps fence_sized stepsI
  by_cases h : n < 1 ∨ 256 < n
  · rw [if_pos h, if_neg (by omega)]; rfl
  · rw [if_neg h]
    simp only [Option.bind_some]
    by_cases h2 : 2 ≤ b ∧ b ≤ 8
    · rw [if_neg (by simp [h2]), if_pos (by omega), steps_L h2.1 h2.2 _ _ _ (by omega) (by omega) (by simp only [big]; omega) (by omega) (by omega)]
      congr 2; omega
    · rw [if_pos (by simp; omega), if_neg (by omega)]
theorem rsteps_eq (n b : Int) : ref21_Steps n b = some (stepsI n b) := by
  unfold ref21_Steps stepsI
  split
  · rw [if_neg (by omega)]
  · rw [if_pos (by omega), rsteps_L (by omega) (by omega) _ _ _ (by omega) (by omega) (by simp only [big]; omega) (by omega) (by omega)]
    congr 2; omega
end Go.Proofs.YtnfalgmfmiolbaaGreat
end

section
namespace Go.Proofs.YtnfalgmfmiolbaaGreat
abbrev gd (l : List ByteArray) (i : Nat) : ByteArray := l.getD i ByteArray.empty
def okAt (l : List ByteArray) (i : Nat) : Prop := (1 ≤ (gd l i).size ∧ (gd l i).size ≤ 32) ∧ (i = 0 ∨ sLt (gd l (i - 1)) (gd l i))
instance (l : List ByteArray) (i : Nat) : Decidable (okAt l i) := by unfold okAt; infer_instance
def AscF (l : List ByteArray) (i : Nat) : Prop := ∀ j, j < l.length → i ≤ j → okAt l j
instance (l : List ByteArray) (i : Nat) : Decidable (AscF l i) := by unfold AscF; infer_instance
def AscP (l : List ByteArray) : Prop := ∀ j, j < l.length → okAt l j
instance (l : List ByteArray) : Decidable (AscP l) := by unfold AscP; infer_instance
def KeyP (w : ByteArray) : Prop := 1 ≤ w.size ∧ w.size ≤ 32
instance (w : ByteArray) : Decidable (KeyP w) := by unfold KeyP; infer_instance
theorem nb_t {p : Prop} [Decidable p] (h : p) : ¬ ((!decide p) = true) := by simp [h]
theorem nb_f {p : Prop} [Decidable p] (h : ¬ p) : (!decide p) = true := by simp [h]
theorem proper_eq (w : ByteArray) : fence_proper w = some (decide (KeyP w)) := by
  unfold fence_proper; exact congrArg some (decide_eq_decide.2 (by unfold KeyP; omega))
theorem drop_gd {l xs : List ByteArray} {x : ByteArray} {i : Nat} (h : l.drop i = x :: xs) : i < l.length ∧ x = gd l i := by
  have h1 := drop_lt h
  have h2 := drop_idx h
  rw [lidx_nat .empty (by omega)] at h2
  exact ⟨by omega, (Option.some.inj h2).symm⟩
theorem asc_L {z : List ByteArray} (hz : z.length ≤ 10000000) : ∀ (xs : List ByteArray) (i : Nat), z.drop i = xs → fence_ascend_L1 z xs i = some (decide (AscF z i))
  | [], i, h => by
    have := drop_nil h
    show some true = _
    congr 1
    exact (decide_eq_true (fun j h1 h2 => by omega)).symm
  | x :: xs, i, h => by
    obtain ⟨hi, rfl⟩ := drop_gd h
    show fence_ascend_B1 z (fence_ascend_L1 z xs (i + 1)) (gd z i) i = _
    unfold fence_ascend_B1
    rw [asc_L hz xs (i + 1) (drop_succ h), proper_eq]
    simp only [Option.bind_some]
    have e2 : (if (0 < (i : Int)) then ((lidx z (w64 ((i : Int) - 1))).bind fun u127 => some (decide (¬ sLt u127 (gd z i)))) else some false) = some (decide (i ≠ 0 ∧ ¬ sLt (gd z (i - 1)) (gd z i))) := by
      by_cases h0 : i = 0
      · rw [if_neg (by omega)]; simp [h0]
      · rw [if_pos (by omega), w64_id (by omega) (by omega), show ((i : Int) - 1) = ((i - 1 : Nat) : Int) by omega, lidx_nat .empty (by omega)]
        simp [h0]
    rw [e2]
    simp only [Option.bind_some]
    have e3 : (if (!decide (KeyP (gd z i))) = true then some true else some (decide (i ≠ 0 ∧ ¬ sLt (gd z (i - 1)) (gd z i)))) = some (decide (¬ okAt z i)) := by
      by_cases hk : KeyP (gd z i)
      · rw [if_neg (nb_t hk)]
        congr 1
        rw [decide_eq_decide]
        unfold okAt
        constructor
        · rintro ⟨h1, h2⟩ ⟨_, h3 | h3⟩
          · exact h1 h3
          · exact h2 h3
        · intro h1
          exact ⟨fun h2 => h1 ⟨hk, .inl h2⟩, fun h2 => h1 ⟨hk, .inr h2⟩⟩
      · rw [if_pos (nb_f hk)]
        congr 1
        exact (decide_eq_true (p := ¬ okAt z i) (fun h1 => hk h1.1)).symm
    rw [e3]
    simp only [Option.bind_some]
    by_cases ok : okAt z i
    · rw [if_neg (by simp [ok])]
      congr 1
      rw [decide_eq_decide]
      constructor
      · intro h1 j h2 h3
        rcases Nat.eq_or_lt_of_le h3 with rfl | h4
        · exact ok
        · exact h1 j h2 h4
      · exact fun h1 j h2 h3 => h1 j h2 (by omega)
    · rw [if_pos (by simp [ok])]
      congr 1
      exact (decide_eq_false (fun h1 => ok (h1 i hi (Nat.le_refl _)))).symm
theorem ascend_eq {z : List ByteArray} (hz : z.length ≤ 10000000) : fence_ascend z = some (decide (AscP z)) := by
  unfold fence_ascend
  rw [asc_L hz z 0 rfl]
  congr 1
  rw [decide_eq_decide]
  exact ⟨fun h j h1 => h j h1 (by omega), fun h j h1 _ => h j h1⟩
theorem rasc_L (z : List ByteArray) : ∀ (xs : List ByteArray) (i : Nat), ref21_ascend_L1 z xs i = fence_ascend_L1 z xs i
  | [], _ => rfl
  | x :: xs, i => by
    show ref21_ascend_B1 z (ref21_ascend_L1 z xs (i + 1)) x i = fence_ascend_B1 z (fence_ascend_L1 z xs (i + 1)) x i
    rw [rasc_L z xs (i + 1)]
    rfl
theorem rascend_eq {z : List ByteArray} (hz : z.length ≤ 10000000) : ref21_ascend z = some (decide (AscP z)) := (rasc_L z z 0).trans (ascend_eq hz)
def FenP (f : Int × List ByteArray) : Prop := ((2 ≤ f.1 ∧ f.1 ≤ 8) ∧ 1 ≤ f.2.length ∧ f.2.length ≤ 256) ∧ AscP f.2
instance (f : Int × List ByteArray) : Decidable (FenP f) := by unfold FenP; infer_instance
theorem check_eq (f : Int × List ByteArray) : fence_Check f = some (if FenP f then 0 else 2) := by
  unfold fence_Check fence_sized
  simp only [Option.bind_some]
  by_cases h : (2 ≤ f.1 ∧ f.1 ≤ 8) ∧ 1 ≤ f.2.length ∧ f.2.length ≤ 256
  · rw [if_neg (by simp; omega), ascend_eq (by omega)]
    simp only [Option.bind_some]
    by_cases h2 : AscP f.2
    · rw [if_neg (nb_t h2), if_pos ⟨h, h2⟩]
    · rw [if_pos (nb_f h2), if_neg (fun h3 => h2 h3.2)]
  · rw [if_pos (by simp; omega), if_neg (fun h3 => h h3.1)]; rfl
theorem rcheck_eq (f : Int × List ByteArray) : ref21_Check f = some (if FenP f then 0 else 2) := by
  unfold ref21_Check
  by_cases h : (2 ≤ f.1 ∧ f.1 ≤ 8) ∧ 1 ≤ f.2.length ∧ f.2.length ≤ 256
  · rw [if_neg (by omega), rascend_eq (by omega)]
    simp only [Option.bind_some]
    by_cases h2 : AscP f.2
    · rw [if_neg (nb_t h2), if_pos ⟨h, h2⟩]
    · rw [if_pos (nb_f h2), if_neg (fun h3 => h2 h3.2)]
  · rw [if_pos (by omega), if_neg (fun h3 => h h3.1)]; rfl
end Go.Proofs.YtnfalgmfmiolbaaGreat
end

section
namespace Go.Proofs.YtnfalgmfmiolbaaGreat
set_option linter.unusedVariables false
def DiceOK (d : List Int × Int) : Prop := 0 ≤ d.2 ∧ d.2 ≤ 1000 ∧ d.1.length ≤ 300 ∧ ∀ x ∈ d.1, 0 ≤ x ∧ x ≤ 255
theorem dpick {d : List Int × Int} (hd : DiceOK d) {n : Int} (hn : 1 ≤ n) : ∃ v e, play_Dice_Pick d n = some (v, e) ∧ 0 ≤ v ∧ v < n ∧ DiceOK e := by
  obtain ⟨h1, h2, h3, h4⟩ := hd
  unfold play_Dice_Pick
  by_cases hl : (d.1.length : Int) ≤ d.2
  · rw [if_pos hl]; exact ⟨0, d, rfl, by omega, by omega, h1, h2, h3, h4⟩
  · rw [if_neg hl, w64_id (x := d.2 + 1) (by omega) (by omega), show d.2 + 1 - 1 = d.2 from by omega, w64_id (x := d.2) (by omega) (by omega), lidx_ok 0 h1 (by omega), Option.bind_some, nz_ok (by omega), Option.bind_some]
    generalize hx : d.1.getD d.2.toNat 0 = x
    have hm : x ∈ d.1 := by
      rw [← hx, List.getD_eq_getElem?_getD, List.getElem?_eq_getElem (by omega)]
      exact List.getElem_mem _
    have hxr := h4 x hm
    rw [w64_id (x := x) (by omega) (by omega)]
    exact ⟨_, _, rfl, Int.tmod_nonneg _ (by omega), Int.tmod_lt_of_pos _ (by omega), by dsimp only; omega, by dsimp only; omega, h3, h4⟩
theorem dnew {t : List Int} (ht : ∀ x ∈ t, 0 ≤ x ∧ x ≤ 255) : ∃ d, play_New t = some d ∧ DiceOK d := by
  unfold play_New play_New_J1
  by_cases hl : 300 < (t.length : Int)
  · rw [if_pos hl, lsub_ok (by omega) (by omega) (by omega), Option.bind_some]
    refine ⟨_, rfl, by dsimp only; omega, by dsimp only; omega, ?_, fun x hx => ht x ?_⟩
    · simp; omega
    · simp only [Int.toNat_zero, List.drop_zero] at hx
      exact List.mem_of_mem_take hx
  · rw [if_neg hl]
    exact ⟨_, rfl, by dsimp only; omega, by dsimp only; omega, by dsimp only; omega, ht⟩
end Go.Proofs.YtnfalgmfmiolbaaGreat
end

section
namespace Go.Proofs.YtnfalgmfmiolbaaGreat
set_option linter.unusedVariables false
set_option maxRecDepth 100000
theorem sane43 : law43_sane = some true := by kernel_rfl
theorem dhash_L (z : Int) : ∀ (m fuel : Nat) (d : List Int × Int) (ps : List (Int × Int)), m < fuel → m ≤ 3 → ps.length + m ≤ 100 → DiceOK d → (∀ p ∈ ps, PairOK p) →
    ∃ qs e, play_Dice_Hashing_L2 play_Dice_Hashing_J1 z fuel (m : Int) d.1 d.2 ps = some ((z, qs), e) ∧ DiceOK e ∧ qs.length = ps.length + m ∧ ∀ p ∈ qs, PairOK p
  | 0, fuel + 1, d, ps, _, _, _, hd, hp => by
    rw [play_Dice_Hashing_L2]
    unfold play_Dice_Hashing_B2
    rw [if_neg (by omega)]
    exact ⟨ps, (d.1, d.2), rfl, hd, by simp, hp⟩
  | m + 1, fuel + 1, d, ps, hf, hm, hps, hd, hp => by
    rw [play_Dice_Hashing_L2]
    unfold play_Dice_Hashing_B2
    rw [if_pos (by omega)]
    obtain ⟨v, e1, h1, a1, b1, c1⟩ := dpick (d := (d.1, d.2)) hd (n := 50) (by omega)
    rw [h1, Option.bind_some]
    obtain ⟨w, e2, h2, a2, b2, c2⟩ := dpick c1 (n := 50) (by omega)
    rw [h2, Option.bind_some, lapp_ok (by simp; omega), Option.bind_some]
    dsimp only
    rw [w64_id (x := 1 + v) (by omega) (by omega), w64_id (x := ((m + 1 : Nat) : Int) - 1) (by omega) (by omega), show ((m + 1 : Nat) : Int) - 1 = (m : Int) from by omega]
    obtain ⟨qs, e, k1, k2, k3, k4⟩ := dhash_L z m fuel e2 (ps ++ [(1 + v, w)]) (by omega) (by omega) (by rw [List.length_append, List.length_singleton]; omega) c2 (fun p hp' => by
      rcases List.mem_append.1 hp' with h | h
      · exact hp p h
      · rw [List.mem_singleton.1 h]; unfold PairOK; dsimp only; omega)
    exact ⟨qs, e, k1, k2, by rw [k3]; simp; omega, k4⟩
theorem dhash {d : List Int × Int} (hd : DiceOK d) : ∃ h e, play_Dice_Hashing d = some (h, e) ∧ HshOK h ∧ 2 ≤ h.1 ∧ h.1 ≤ 6 ∧ DiceOK e := by
  unfold play_Dice_Hashing
  obtain ⟨v, e1, h1, a1, b1, c1⟩ := dpick hd (n := 5) (by omega)
  rw [h1, Option.bind_some]
  obtain ⟨k, e2, h2, a2, b2, c2⟩ := dpick c1 (n := 3) (by omega)
  rw [h2, Option.bind_some]
  dsimp only
  rw [w64_id (x := 2 + v) (by omega) (by omega), w64_id (x := 1 + k) (by omega) (by omega)]
  obtain ⟨qs, e, k1, k2, k3, k4⟩ := dhash_L (2 + v) (k.toNat + 1) big e2 [] (by simp only [big]; omega) (by omega) (by simp; omega) c2 (by simp)
  rw [show ((k.toNat + 1 : Nat) : Int) = 1 + k from by omega] at k1
  exact ⟨(2 + v, qs), e, k1, ⟨by dsimp only; omega, by dsimp only; omega, by dsimp only; simp at k3; omega, by dsimp only; simp at k3; omega, k4⟩, by dsimp only; omega, by dsimp only; omega, k2⟩
def schemes : List (Int × Int × Int × Int) :=
  [(1, 3, 0, 0), (1, 4, 0, 0), (1, 5, 0, 0), (1, 6, 0, 0),
   (2, 3, 1, 0), (2, 4, 1, 0), (2, 5, 1, 0), (2, 6, 1, 0), (2, 3, 2, 0), (2, 4, 2, 0), (2, 5, 2, 0), (2, 6, 2, 0),
   (3, 3, 1, 1), (3, 4, 1, 1), (3, 5, 1, 1), (3, 6, 1, 1), (3, 3, 2, 1), (3, 4, 2, 1), (3, 5, 2, 1), (3, 6, 2, 1),
   (3, 4, 1, 2), (3, 5, 1, 2), (3, 6, 1, 2)]
theorem dscheme {d : List Int × Int} (hd : DiceOK d) : ∃ x e, play_Dice_Scheme d = some (x, e) ∧ x ∈ schemes ∧ DiceOK e := by
  unfold play_Dice_Scheme
  obtain ⟨v, e1, h1, a1, b1, c1⟩ := dpick hd (n := 4) (by omega)
  rw [h1, Option.bind_some]
  obtain ⟨k, e2, h2, a2, b2, c2⟩ := dpick c1 (n := 3) (by omega)
  rw [h2, Option.bind_some]
  dsimp only
  rw [w64_id (x := 3 + v) (by omega) (by omega)]
  have hv : v = 0 ∨ v = 1 ∨ v = 2 ∨ v = 3 := by omega
  by_cases hk0 : k = 0
  · rw [if_pos hk0]
    refine ⟨_, _, rfl, ?_, c2⟩
    rcases hv with rfl | rfl | rfl | rfl <;> decide
  · rw [if_neg hk0]
    by_cases hk1 : k = 1
    · rw [if_pos hk1]
      obtain ⟨w, e3, h3, a3, b3, c3⟩ := dpick c2 (n := 2) (by omega)
      rw [h3, Option.bind_some]
      dsimp only
      rw [w64_id (x := 1 + w) (by omega) (by omega)]
      refine ⟨_, _, rfl, ?_, c3⟩
      have hw : w = 0 ∨ w = 1 := by omega
      rcases hv with rfl | rfl | rfl | rfl <;> rcases hw with rfl | rfl <;> decide
    · rw [if_neg hk1]
      have one : ∀ e : List Int × Int, DiceOK e → ∃ x e', (play_Dice_Pick e 2).bind (fun u49 => some ((3, 3 + v, w64 (1 + u49.1), (1 : Int)), u49.2)) = some (x, e') ∧ x ∈ schemes ∧ DiceOK e' := fun e he => by
        obtain ⟨w, e3, h3, a3, b3, c3⟩ := dpick he (n := 2) (by omega)
        rw [h3, Option.bind_some]
        dsimp only
        rw [w64_id (x := 1 + w) (by omega) (by omega)]
        refine ⟨_, _, rfl, ?_, c3⟩
        have hw : w = 0 ∨ w = 1 := by omega
        rcases hv with rfl | rfl | rfl | rfl <;> rcases hw with rfl | rfl <;> decide
      by_cases h4 : 3 + v < 4
      · rw [if_pos h4, Option.bind_some]
        dsimp only
        rw [if_pos rfl]
        exact one _ c2
      · rw [if_neg h4]
        obtain ⟨w, e3, h3, a3, b3, c3⟩ := dpick c2 (n := 2) (by omega)
        rw [h3, Option.bind_some, Option.bind_some]
        dsimp only
        by_cases hw : w = 0
        · rw [if_pos (by simp [hw])]
          exact one _ c3
        · rw [if_neg (by simp [hw])]
          refine ⟨_, _, rfl, ?_, c3⟩
          rcases hv with rfl | rfl | rfl | rfl
          · omega
          · decide
          · decide
          · decide
theorem add_same (a b : Int × Int × Int) : cost_Add a b = ref28_Add a b := by
  unfold cost_Add cost_each cost_Add_f1 ref28_Add
  rfl
end Go.Proofs.YtnfalgmfmiolbaaGreat
end

section
namespace Go.Proofs.YtnfalgmfmiolbaaGreat
set_option linter.unusedVariables false
set_option maxRecDepth 100000
theorem lmk_ok {α : Type} {n : Int} {z : α} (h0 : 0 ≤ n) (h1 : n ≤ 16777216) : lmk n z = some (List.replicate n.toNat z) := by unfold lmk; rw [if_pos ⟨h0, h1⟩]
theorem bt {p : Prop} [Decidable p] (h : p) : decide p = true := decide_eq_true h
theorem bf {p : Prop} [Decidable p] (h : ¬ p) : ¬ (decide p = true) := by simp [h]
theorem sd {p q : Prop} [Decidable p] [Decidable q] (h : p ↔ q) : some (decide p) = some (decide q) := congrArg some (decide_eq_decide.2 h)
abbrev Sch := Int × Int × Int × Int
def okS (s : Sch) : Prop := (2 ≤ s.2.1 ∧ s.2.1 ≤ 10) ∧ ((s.1 = 1 ∧ s.2.2.1 = 0 ∧ s.2.2.2 = 0) ∨ (s.1 = 2 ∧ 1 ≤ s.2.2.1 ∧ s.2.2.1 ≤ s.2.1 - 1 ∧ s.2.2.2 = 0) ∨
  (s.1 = 3 ∧ 1 ≤ s.2.2.1 ∧ 1 ≤ s.2.2.2 ∧ 2 * s.2.2.2 + s.2.2.1 - 1 ≤ s.2.1))
instance (s : Sch) : Decidable (okS s) := by unfold okS; infer_instance
theorem within_eq (x lo hi : Int) : scheme_within x lo hi = some (decide (lo ≤ x ∧ x ≤ hi)) := rfl
theorem shape_eq (s : Sch) : scheme_Shape s = some (decide (okS s)) := by
  obtain ⟨k, n, a, b⟩ := s
  unfold scheme_Shape
  simp only [within_eq, Option.bind_some]
  by_cases hn : 2 ≤ n ∧ n ≤ 10
  · rw [if_neg (nb_t hn)]
    by_cases h1 : k = 1
    · rw [if_pos h1]; exact sd (by unfold okS; dsimp only; omega)
    rw [if_neg h1]
    by_cases h2 : k = 2
    · rw [if_pos h2, w64_id (by omega) (by omega)]; exact sd (by rw [decide_eq_true_eq]; unfold okS; dsimp only; omega)
    rw [if_neg h2]
    by_cases h3 : k = 3
    · rw [if_pos h3]
      by_cases ha : 1 ≤ a ∧ a ≤ n
      · rw [if_pos (bt ha)]
        simp only [Option.bind_some]
        by_cases hb : 1 ≤ b ∧ b ≤ n
        · rw [w64_id (x := 2 * b) (by omega) (by omega), w64_id (x := 2 * b + a) (by omega) (by omega), w64_id (by omega) (by omega)]
          exact sd (by rw [decide_eq_true_eq]; unfold okS; dsimp only; omega)
        · exact sd (by rw [decide_eq_true_eq]; unfold okS; dsimp only; omega)
      · rw [if_neg (bf ha)]
        simp only [Option.bind_some]
        exact sd (by unfold okS; dsimp only; simp only [Bool.false_eq_true, false_and, false_iff]; omega)
    rw [if_neg h3]
    exact (congrArg some (decide_eq_false (by unfold okS; dsimp only; omega))).symm
  · rw [if_pos (nb_f hn)]
    exact (congrArg some (decide_eq_false (by unfold okS; dsimp only; omega))).symm
theorem rshape_eq (s : Sch) : ref23_Shape s = some (decide (okS s)) := by
  obtain ⟨k, n, a, b⟩ := s
  unfold ref23_Shape
  dsimp only
  by_cases hn : 2 ≤ n ∧ n ≤ 10
  · rw [if_neg (by omega)]
    by_cases h1 : k = 1
    · rw [if_pos h1]; exact sd (by unfold okS; dsimp only; omega)
    rw [if_neg h1]
    by_cases h2 : k = 2
    · rw [if_pos h2, w64_id (by omega) (by omega)]; exact sd (by unfold okS; dsimp only; omega)
    rw [if_neg h2]
    by_cases h3 : k = 3
    · rw [if_pos h3]
      by_cases ha : (1 ≤ a ∧ a ≤ 10) ∧ 1 ≤ b ∧ b ≤ 10
      · rw [w64_id (x := 2 * b) (by omega) (by omega), w64_id (x := 2 * b + a) (by omega) (by omega), w64_id (by omega) (by omega)]
        exact sd (by unfold okS; dsimp only; omega)
      · exact sd (by unfold okS; dsimp only; omega)
    rw [if_neg h3]
    exact (congrArg some (decide_eq_false (by unfold okS; dsimp only; omega))).symm
  · rw [if_pos (by omega)]
    exact (congrArg some (decide_eq_false (by unfold okS; dsimp only; omega))).symm
theorem fld_L (z : Int) (hz : 2 ≤ z ∧ z ≤ 65521) : ∀ (m fuel : Nat) (v : Int), 2 ≤ v → v + m = 257 → m < fuel →
    ∃ b : Bool, residue_Of_L2 residue_Of_J1 z fuel v = some (if b = true then (z, true) else (0, false)) ∧ ref03_Check_L1 z fuel v = some (if b = true then 0 else 9)
  | m, 0, _, _, _, h => by omega
  | m, fuel + 1, v, h1, h2, h3 => by
    rw [residue_Of_L2, ref03_Check_L1]
    unfold residue_Of_B2 ref03_Check_B1
    have hv : v ≤ 257 := by omega
    have hvv : 0 ≤ v * v ∧ v * v ≤ 66049 := ⟨Int.mul_nonneg (by omega) (by omega), Int.le_trans (Int.mul_le_mul hv hv (by omega) (by omega)) (by decide)⟩
    rw [w64_id (x := v * v) (by omega) (by omega)]
    by_cases hc : v * v ≤ z
    · rw [if_pos hc, if_pos hc, nz_ok (by omega), Option.bind_some, Option.bind_some]
      by_cases hd : Int.tmod z v = 0
      · rw [if_pos hd, if_pos hd]; exact ⟨false, rfl, rfl⟩
      · rw [if_neg hd, if_neg hd, w64_id (by omega) (by omega)]
        cases m with
        | zero =>
          have : v = 257 := by omega
          subst this
          omega
        | succ m => exact fld_L z hz m fuel (v + 1) (by omega) (by omega) (by omega)
    · rw [if_neg hc, if_neg hc]; exact ⟨true, rfl, rfl⟩
theorem fld_ex (f : Int) : ∃ b : Bool, residue_Of f = some (if b = true then (f, true) else (0, false)) ∧ ref03_Check f = some (if b = true then 0 else 9) ∧ (b = true → 2 ≤ f ∧ f ≤ 65521) := by
  unfold residue_Of ref03_Check
  by_cases h : f < 2 ∨ 65521 < f
  · rw [if_pos h, if_pos h]; exact ⟨false, rfl, rfl, fun h => by cases h⟩
  · rw [if_neg h, if_neg h]
    obtain ⟨b, h1, h2⟩ := fld_L f (by omega) 255 big 2 (by omega) (by omega) (by simp only [big]; omega)
    exact ⟨b, h1, h2, fun _ => by omega⟩
theorem fcheck_of {f : Int} {b : Bool} (h : residue_Of f = some (if b = true then (f, true) else (0, false))) : field_Check f = some (if b = true then 0 else 9) := by
  unfold field_Check
  rw [h, Option.bind_some]
  cases b <;> rfl
def okF (s : Sch) (f : Int) (b : Bool) : Bool := decide (okS s ∧ b = true ∧ (s.1 = 1 ∨ s.2.1 < f))
theorem valid_both (s : Sch) (f : Int) {b : Bool} (h1 : residue_Of f = some (if b = true then (f, true) else (0, false))) (h2 : ref03_Check f = some (if b = true then 0 else 9)) : scheme_Valid s f = some (okF s f b) ∧ ref23_Valid s f = some (okF s f b) := by
  unfold scheme_Valid ref23_Valid okF
  rw [shape_eq, rshape_eq, fcheck_of h1, h2, Option.bind_some, Option.bind_some]
  by_cases hs : okS s
  · rw [if_pos (bt hs), Option.bind_some]
    have e : ((if b = true then (0 : Int) else 9) = 0) ↔ b = true := by cases b <;> simp
    simp only [hs, true_and]
    constructor <;> exact congrArg some (decide_eq_decide.2 (by rw [decide_eq_true_eq, e]))
  · rw [if_neg (bf hs)]
    simp [hs]
theorem fil_L (z f : Int) (F : Nat → List Int → Int → Option (List Int × Int)) (hF : ∀ n v i, F (n + 1) v i = if i < z then (lapp v [f]).bind fun u => F n u (w64 (i + 1)) else some (v, 0)) (hz : z ≤ 100000) : ∀ (m fuel : Nat) (v : List Int) (i : Int), 0 ≤ i → i + m = z → m < fuel → (v.length : Int) = i → ∃ r : List Int, F fuel v i = some (r, 0) ∧ (r.length : Int) = z ∧ r = v ++ List.replicate m f
  | m, 0, _, _, _, _, h, _ => by omega
  | 0, fuel + 1, v, i, h0, h1, h2, h3 => by
    rw [hF, if_neg (by omega)]
    exact ⟨v, rfl, by omega, by simp⟩
  | m + 1, fuel + 1, v, i, h0, h1, h2, h3 => by
    rw [hF, if_pos (by omega), lapp_ok (by simp; omega), Option.bind_some, w64_id (by omega) (by omega)]
    obtain ⟨r, k1, k2, k3⟩ := fil_L z f F hF hz m fuel (v ++ [f]) (i + 1) (by omega) (by omega) (by omega) (by simp; omega)
    exact ⟨r, k1, k2, by rw [k3, List.replicate_succ]; simp⟩
theorem mul_rng {a b A B : Int} (ha : 1 ≤ a ∧ a ≤ A) (hb : 1 ≤ b ∧ b ≤ B) : 1 ≤ a * b ∧ a * b ≤ A * B := by
  constructor
  · have := Int.mul_le_mul ha.1 hb.1 (by omega) (by omega); omega
  · exact Int.mul_le_mul ha.2 hb.2 (by omega) (by omega)
theorem fills {z f : Int} (hz : 1 ≤ z ∧ z ≤ 100000) (F G : Nat → List Int → Int → Option (List Int × Int)) (hF : ∀ n v i, F (n + 1) v i = if i < z then (lapp v [f]).bind fun u => F n u (w64 (i + 1)) else some (v, 0)) (hG : ∀ n v i, G (n + 1) v i = if i < z then (lapp v [f]).bind fun u => G n u (w64 (i + 1)) else some (v, 0)) :
    ∃ r : List Int, F big [] 0 = some (r, 0) ∧ G big [] 0 = some (r, 0) ∧ (r.length : Int) = z := by
  obtain ⟨r, h1, h2, h3⟩ := fil_L z f F hF hz.2 z.toNat big [] 0 (by omega) (by omega) (by simp only [big]; omega) rfl
  obtain ⟨q, k1, k2, k3⟩ := fil_L z f G hG hz.2 z.toNat big [] 0 (by omega) (by omega) (by simp only [big]; omega) rfl
  exact ⟨r, h1, by rw [k1, k3, h3], h2⟩
theorem up_div {c b K : Int} (hc : 1 ≤ c ∧ c ≤ K) (hb : 1 ≤ b ∧ b ≤ 10) (hK : K ≤ 1024) : 1 ≤ Int.tdiv (c + b - 1) b ∧ Int.tdiv (c + b - 1) b ≤ K := by
  rw [Int.tdiv_eq_ediv_of_nonneg (by omega)]
  constructor
  · exact (Int.le_ediv_iff_mul_le (by omega)).2 (by omega)
  · refine Int.lt_add_one_iff.1 (Int.ediv_lt_of_lt_mul (by omega) ?_)
    have := Int.mul_le_mul_of_nonneg_left hb.1 (show (0 : Int) ≤ K by omega)
    have h2 : (K + 1) * b = K * b + b := by rw [Int.add_mul]; omega
    omega
theorem limits_both (s : Sch) (f : Int) {b : Bool} (h1 : residue_Of f = some (if b = true then (f, true) else (0, false))) (h2 : ref03_Check f = some (if b = true then 0 else 9)) (hv : okF s f b = true) {c : Int} (hc : 1 ≤ c ∧ c ≤ 30) :
    ∃ l : List Int, scheme_Limits s f c = some (l, 0) ∧ ref23_Limits s f c = some (l, 0) ∧ 1 ≤ l.length ∧ l.length ≤ 300 := by
  obtain ⟨v1, v2⟩ := valid_both s f h1 h2
  unfold okF at hv
  have hv' := hv
  rw [decide_eq_true_eq] at hv
  obtain ⟨⟨hn, hs⟩, rfl, hf⟩ := hv
  rw [if_pos rfl] at h1 h2
  unfold scheme_Limits ref23_Limits scheme_look
  rw [v1, v2]
  unfold okF
  rw [hv', Option.bind_some, Option.bind_some, if_neg (by decide), if_neg (by decide), within_eq, Option.bind_some, if_neg (nb_t (by omega)), Option.bind_some, if_neg (by decide), if_neg (by omega)]
  unfold scheme_kindOf
  rcases hs with ⟨k, ka, kb⟩ | ⟨k, ka, kb, kc⟩ | ⟨k, ka, kb, kc⟩
  · rw [if_pos k, if_pos k, Option.bind_some]
    dsimp only
    unfold scheme_sums_limits parity_Limits ref16_Limits parity_check
    rw [h1, h2, Option.bind_some, Option.bind_some]
    dsimp only
    rw [if_neg (by decide), if_neg (by omega), Option.bind_some, if_neg (by decide), if_neg (by decide), if_neg (by omega)]
    have hz := mul_rng hc (show 1 ≤ s.2.1 - 1 ∧ s.2.1 - 1 ≤ 9 by omega)
    rw [w64_id (x := s.2.1 - 1) (by omega) (by omega), w64_id (x := c * (s.2.1 - 1)) (by omega) (by omega)]
    obtain ⟨r, r1, r2, r3⟩ := fills (z := c * (s.2.1 - 1)) (f := f) (by omega) (parity_Limits_L1 _ f) (ref16_Limits_L1 _ f) (fun _ _ _ => rfl) (fun _ _ _ => rfl)
    rw [r1, r2]
    exact ⟨r, rfl, rfl, by omega, by omega⟩
  · rw [if_neg (by omega), if_pos k, if_neg (by omega), if_pos k, Option.bind_some]
    dsimp only
    unfold scheme_curves_limits curve_Limits ref17_Limits curve_check curve_Check curve_valid ref17_Check ref23_plan
    rw [h1, h2, Option.bind_some, Option.bind_some, Option.bind_some, Option.bind_some]
    dsimp only
    rw [w64_id (x := s.2.1 - 1) (by omega) (by omega), if_neg (by decide), if_neg (by rw [decide_eq_true (by omega)]; simp; omega), if_neg (by decide), if_neg (by omega), Option.bind_some, if_neg (by omega), Option.bind_some, if_neg (by decide), Option.bind_some, if_neg (by decide), if_neg (by omega)]
    have hz := mul_rng hc (show 1 ≤ s.2.2.1 ∧ s.2.2.1 ≤ 9 by omega)
    rw [w64_id (x := c * s.2.2.1) (by omega) (by omega)]
    obtain ⟨r, r1, r2, r3⟩ := fills (z := c * s.2.2.1) (f := f) (by omega) (curve_Limits_L1 _ f) (ref17_Limits_L1 _ f) (fun _ _ _ => rfl) (fun _ _ _ => rfl)
    rw [r1, r2]
    exact ⟨r, rfl, rfl, by omega, by omega⟩
  · have hu := up_div (c := c) (b := s.2.2.2) (K := 30) (by omega) (by omega) (by omega)
    rw [if_neg (by omega), if_neg (by omega), if_neg (by omega), if_neg (by omega)]
    unfold scheme_storage ref23_storage ref23_Units
    rw [rshape_eq, Option.bind_some, Option.bind_some, Option.bind_some, Option.bind_some]
    dsimp only
    have hok : okS s := ⟨hn, .inr (.inr ⟨k, ka, kb, kc⟩)⟩
    rw [bt hok, if_neg (by simp; omega), if_pos k, nz_ok (by omega), Option.bind_some]
    unfold scheme_groups_limits scheme_groups_units
    rw [nz_ok (by omega), Option.bind_some, w64_id (x := c + s.2.2.2) (by omega) (by omega), w64_id (x := c + s.2.2.2 - 1) (by omega) (by omega), w64_id (x := Int.tdiv _ _) (by omega) (by omega), Option.bind_some, Option.bind_some]
    generalize Int.tdiv (c + s.2.2.2 - 1) s.2.2.2 = u at hu
    unfold coded_Limits ref18_Limits coded_check coded_Check ref18_Check
    rw [h1, h2, Option.bind_some, Option.bind_some]
    dsimp only
    rw [w64_id (x := 2 * s.2.2.2) (by omega) (by omega), w64_id (x := 2 * s.2.2.2 + s.2.2.1) (by omega) (by omega), w64_id (x := 2 * s.2.2.2 + s.2.2.1 - 1) (by omega) (by omega), if_neg (by decide), if_neg (by omega), if_neg (by decide), if_neg (by omega), Option.bind_some, Option.bind_some, if_neg (by omega), Option.bind_some, if_neg (by decide), if_neg (by decide), if_neg (by omega)]
    have hz := mul_rng hu (show 1 ≤ s.2.2.1 ∧ s.2.2.1 ≤ 10 by omega)
    rw [w64_id (x := u * s.2.2.1) (by omega) (by omega)]
    obtain ⟨r, r1, r2, r3⟩ := fills (z := u * s.2.2.1) (f := f) (by omega) (coded_Limits_L1 _ f) (ref18_Limits_L1 _ f) (fun _ _ _ => rfl) (fun _ _ _ => rfl)
    rw [r1, r2]
    exact ⟨r, rfl, rfl, by omega, by omega⟩
end Go.Proofs.YtnfalgmfmiolbaaGreat
end

section
namespace Go.Proofs.YtnfalgmfmiolbaaGreat
set_option linter.unusedVariables false
set_option maxRecDepth 100000
theorem mul_all : ((List.range 301).all fun l => (List.range 17).all fun p => decide (math_bits_Mul (IntKind.u64.wrap (l : Int)) (IntKind.u64.wrap (p : Int)) = some (0, (l : Int) * (p : Int)))) = true := by kernel_rfl
theorem mul_at {l p : Nat} (hl : l ≤ 300) (hp : p ≤ 16) : math_bits_Mul (IntKind.u64.wrap (l : Int)) (IntKind.u64.wrap (p : Int)) = some (0, (l : Int) * (p : Int)) :=
  of_decide_eq_true (List.all_eq_true.1 (List.all_eq_true.1 mul_all l (List.mem_range.2 (by omega))) p (List.mem_range.2 (by omega)))
theorem lcpy_len {α : Type} (l src : List α) {i : Int} {n : Nat} (h0 : 0 ≤ i) (h : i.toNat + min src.length n ≤ l.length) : (lcpy l i n src).length = l.length := by
  unfold lcpy
  simp only [List.length_append, List.length_take, List.length_drop]
  omega
theorem rep_L (N : Nat) (hN : N ≤ 100000) : ∀ (m fuel : Nat) (v : Nat) (l : List Int), 1 ≤ v → v ≤ N → N - v ≤ m → m < fuel → l.length = N → ∃ r, slices_Repeat_Lintint_L1 fuel (v : Int) l = some r ∧ r.length = N
  | m, 0, _, _, _, _, _, h, _ => by omega
  | m, fuel + 1, v, l, h1, h2, h3, h4, hl => by
    rw [slices_Repeat_Lintint_L1]
    unfold slices_Repeat_Lintint_B1
    by_cases hc : (v : Int) < (l.length : Int)
    · rw [if_pos hc]
      unfold psub
      rw [if_pos (by omega), Option.bind_some, if_pos (by omega), Option.bind_some]
      dsimp only
      rw [lsub_ok (by omega) (by omega) (by omega), Option.bind_some, lsub_ok (by omega) (by omega) (by omega), Option.bind_some]
      have e1 : ((l.drop (0 + (v : Int)).toNat).take (0 + ((l.length : Int) - 0) - (0 + (v : Int))).toNat).length = N - v := by simp; omega
      have e2 : ((l.drop (0 + (0 : Int)).toNat).take (0 + (v : Int) - (0 + 0)).toNat).length = v := by simp; omega
      rw [e1, e2, w64_id (by omega) (by omega)]
      cases m with
      | zero => omega
      | succ m =>
        obtain ⟨r, k1, k2⟩ := rep_L N hN m fuel (v + min v (N - v)) (lcpy l (0 + (v : Int)) (N - v) ((l.drop (0 + (0 : Int)).toNat).take (0 + (v : Int) - (0 + 0)).toNat)) (by omega) (by omega) (by omega) (by omega) (by rw [lcpy_len _ _ (by omega) (by rw [e2]; omega)]; exact hl)
        refine ⟨r, ?_, k2⟩
        rw [← k1]
        congr 1
    · rw [if_neg hc]; exact ⟨l, rfl, hl⟩
theorem repeat_ok {l : List Int} {p : Int} (hl : 1 ≤ l.length ∧ l.length ≤ 300) (hp : 1 ≤ p ∧ p ≤ 16) : ∃ r, slices_Repeat_Lintint l p = some r ∧ (r.length : Int) = l.length * p := by
  obtain ⟨q, rfl⟩ : ∃ q : Nat, p = (q : Int) := ⟨p.toNat, by omega⟩
  unfold slices_Repeat_Lintint
  rw [if_neg (by omega)]
  unfold slices_Repeat_Lintint_J3
  rw [mul_at hl.2 (by omega), Option.bind_some]
  have hz := mul_rng (a := (l.length : Int)) (b := (q : Int)) (A := 300) (B := 16) (by omega) (by omega)
  have hz2 : (l.length : Int) ≤ l.length * q := by
    have := Int.mul_le_mul_of_nonneg_left hp.1 (show (0 : Int) ≤ l.length by omega); omega
  dsimp only
  rw [if_neg (by omega)]
  unfold slices_Repeat_Lintint_J2
  rw [w64_id (by omega) (by omega), lmk_ok (by omega) (by omega), Option.bind_some, lsub_ok (by omega) (by omega) (by simp), Option.bind_some]
  generalize hM : ((l.length : Int) * (q : Int)) = M at hz hz2 ⊢
  have e : ((List.replicate M.toNat (0 : Int)).drop (0 : Int).toNat).take (((List.replicate M.toNat (0 : Int)).length : Int) - 0).toNat = List.replicate M.toNat 0 := by simp; omega
  rw [e]
  have hlen : (List.replicate M.toNat (0 : Int)).length = M.toNat := by simp
  rw [hlen, show min l.length M.toNat = l.length by omega]
  obtain ⟨r, r1, r2⟩ := rep_L M.toNat (by omega) M.toNat big l.length (lcpy (List.replicate M.toNat 0) 0 M.toNat l) hl.1 (by omega) (by omega) (by simp only [big]; omega) (by rw [lcpy_len _ _ (by omega) (by rw [hlen]; show 0 + min l.length M.toNat ≤ M.toNat; omega), hlen])
  exact ⟨r, r1, by omega⟩
theorem r24_L {s : Sch} {f c : Int} {l : List Int} (h : ref23_Limits s f c = some (l, 0)) (hl : l.length ≤ 300) {p : Int} (hp : p ≤ 16) : ∀ (m fuel : Nat) (v : List Int) (i : Nat), (i : Int) + m = p → m < fuel → v.length = i * l.length → ∃ r : List Int, ref24_Limits_L1 c p f s.1 s.2.1 s.2.2.1 s.2.2.2 fuel v (i : Int) = some (r, 0) ∧ r.length = (i + m) * l.length
  | m, 0, _, _, _, h, _ => by omega
  | 0, fuel + 1, v, i, h1, h2, h3 => by
    rw [ref24_Limits_L1]
    unfold ref24_Limits_B1
    rw [if_neg (by omega)]
    exact ⟨v, rfl, h3⟩
  | m + 1, fuel + 1, v, i, h1, h2, h3 => by
    rw [ref24_Limits_L1]
    unfold ref24_Limits_B1
    have hb : i * l.length ≤ 16 * 300 := Nat.mul_le_mul (by omega) hl
    rw [if_pos (by omega), show ((s.1, s.2.1, s.2.2.1, s.2.2.2) : Sch) = s from rfl, h, Option.bind_some]
    dsimp only
    rw [if_neg (by decide), lapp_ok (by omega), Option.bind_some, w64_id (by omega) (by omega), show (i : Int) + 1 = ((i + 1 : Nat) : Int) by omega]
    obtain ⟨r, r1, r2⟩ := r24_L h hl hp m fuel (v ++ l) (i + 1) (by omega) (by omega) (by rw [List.length_append, h3, Nat.add_mul]; omega)
    exact ⟨r, r1, by rw [r2, show i + 1 + m = i + (m + 1) by omega]⟩
theorem draws_same (s : Sch) (f c p : Int) (hc : c ≤ 30) : ∃ r, bounds_Draws s f c p = some r ∧ ref43_Draws s f c p = some r := by
  obtain ⟨b, f1, f2, f3⟩ := fld_ex f
  obtain ⟨v1, v2⟩ := valid_both s f f1 f2
  unfold bounds_Draws ref43_Draws wish_Limits ref24_Limits
  rw [v1, v2, Option.bind_some, Option.bind_some]
  cases hv : okF s f b with
  | false =>
    rw [if_pos (by decide), if_pos (by decide), Option.bind_some, Option.bind_some]
    exact ⟨_, rfl, rfl⟩
  | true =>
    rw [if_neg (by decide), if_neg (by decide)]
    unfold wish_within
    rw [Option.bind_some]
    by_cases hr : (1 ≤ p ∧ p ≤ 16) ∧ 1 ≤ c
    · rw [if_neg (nb_t hr.1), Option.bind_some, Option.bind_some, if_neg (by rw [decide_eq_true (by omega)]; simp), if_neg (by omega)]
      obtain ⟨l, l1, l2, l3, l4⟩ := limits_both s f f1 f2 hv (c := c) ⟨hr.2, hc⟩
      obtain ⟨r, r1, r2⟩ := repeat_ok (l := l) (p := p) ⟨l3, l4⟩ hr.1
      obtain ⟨q, q1, q2⟩ := r24_L l2 l4 (p := p) hr.1.2 p.toNat big [] 0 (by omega) (by simp only [big]; omega) (by simp)
      rw [l1, Option.bind_some]
      dsimp only
      rw [if_neg (by decide), r1, Option.bind_some, Option.bind_some]
      rw [show ref24_Limits_L1 c p f s.1 s.2.1 s.2.2.1 s.2.2.2 big [] 0 = some (q, 0) from q1, Option.bind_some]
      dsimp only
      rw [if_neg (by decide)]
      refine ⟨_, rfl, ?_⟩
      have e : (q.length : Int) = (r.length : Int) := by
        rw [r2, q2, Nat.zero_add]
        push_cast
        rw [Int.toNat_of_nonneg (by omega), Int.mul_comm]
      rw [e]
    · have e2 : (((p < 1 ∨ 16 < p) ∨ c < 1) ∨ 1024 < c) := by omega
      rw [if_pos e2, Option.bind_some]
      by_cases hp : 1 ≤ p ∧ p ≤ 16
      · rw [if_neg (nb_t hp), Option.bind_some, Option.bind_some, if_pos (by rw [decide_eq_false (by omega)]; rfl), Option.bind_some]
        exact ⟨_, rfl, rfl⟩
      · rw [if_pos (nb_f hp), Option.bind_some, if_pos rfl, Option.bind_some]
        exact ⟨_, rfl, rfl⟩
theorem units_same (s : Sch) (x : Int) : ∃ r, cost_Units s x = some r ∧ ref28_Units s x = some r := by
  unfold cost_Units ref28_Units
  rw [shape_eq, rshape_eq, Option.bind_some, Option.bind_some]
  by_cases hs : okS s
  · rw [if_neg (nb_t hs), if_neg (nb_t hs)]
    by_cases hx : x < 1 ∨ 1024 < x
    · rw [if_pos hx, if_pos hx]; exact ⟨_, rfl, rfl⟩
    · rw [if_neg hx, if_neg hx]
      unfold scheme_Units ref23_Units
      rw [shape_eq, rshape_eq, Option.bind_some, Option.bind_some, if_neg (nb_t hs), within_eq, Option.bind_some, Option.bind_some, if_neg (nb_t (by omega)), if_neg (show ¬ (((!decide (okS s)) = true ∨ x < 1) ∨ 1024 < x) by rw [decide_eq_true hs]; simp; omega)]
      by_cases hk : s.1 = 3
      · rw [if_pos hk, if_pos hk]
        have hb : s.2.2.2 ≠ 0 := by obtain ⟨_, h⟩ := hs; omega
        unfold scheme_storage scheme_groups_units
        simp only [Option.bind_some, nz_ok hb]
        exact ⟨_, rfl, rfl⟩
      · rw [if_neg hk, if_neg hk]; exact ⟨_, rfl, rfl⟩
  · rw [if_pos (nb_f hs), if_pos (nb_f hs)]; exact ⟨_, rfl, rfl⟩
theorem of_same (s : Sch) (x w : Int) : ∃ r, cost_Of s x w 1 = some r ∧ ref28_Of s x w 1 = some r := by
  obtain ⟨r, h1, h2⟩ := units_same s x
  have e : ref28_Of s x w 1 = cost_Of s x w 1 := by unfold cost_Of ref28_Of; rw [h1, h2]
  rw [e]
  have : ∃ q, cost_Of s x w 1 = some q := by
    unfold cost_Of
    rw [h1, Option.bind_some]
    by_cases he : r.2 ≠ 0
    · rw [if_pos he]; exact ⟨_, rfl⟩
    · rw [if_neg he]
      by_cases hw : (((w < 1) ∨ (64 < w)) ∨ ((1 : Int) < 1)) ∨ ((16 : Int) < 1)
      · rw [if_pos hw]; exact ⟨_, rfl⟩
      · rw [if_neg hw]; exact ⟨_, rfl⟩
  obtain ⟨q, hq⟩ := this
  exact ⟨q, hq, hq⟩
theorem batch_L (s : Sch) (w B : Int) (ls : List (List Int)) (hls : ls.length ≤ 100000) : ∀ (xs : List (List Int)) (i fuel : Nat) (a b c : Int), ls.drop i = xs → i ≤ ls.length → ls.length - i < fuel →
    ∃ r, bounds_Batched_L2 bounds_Batched_J1 w s.1 s.2.1 s.2.2.1 s.2.2.2 B xs a b c = some r ∧ ref43_Batched_L3 ref43_Batched_J1 w ls s.1 s.2.1 s.2.2.1 s.2.2.2 B fuel (i : Int) a b c = some r
  | _, i, 0, _, _, _, _, _, h => by omega
  | [], i, fuel + 1, a, b, c, hd, hi, hf => by
    have : ls.length ≤ i := List.drop_eq_nil_iff.1 hd
    rw [ref43_Batched_L3]
    unfold ref43_Batched_B3
    rw [if_neg (by omega)]
    exact ⟨((a, b, c), 0), rfl, rfl⟩
  | x :: xs, i, fuel + 1, a, b, c, hd, hi, hf => by
    have hlt : i < ls.length := by
      rcases Nat.lt_or_ge i ls.length with h | h
      · exact h
      · rw [List.drop_eq_nil_of_le h] at hd; cases hd
    have hx : ls.getD i [] = x := by
      rw [List.drop_eq_getElem_cons hlt] at hd
      rw [List.getD_eq_getElem?_getD, List.getElem?_eq_getElem hlt]
      exact (List.cons.inj hd).1
    have ih := fun a b c => batch_L s w B ls hls xs (i + 1) fuel a b c (by rw [← List.drop_drop, hd]; rfl) (by omega) (by omega)
    rw [ref43_Batched_L3]
    unfold ref43_Batched_B3
    show ∃ r, bounds_Batched_B2 bounds_Batched_J1 w s.1 s.2.1 s.2.2.1 s.2.2.2 B (bounds_Batched_L2 bounds_Batched_J1 w s.1 s.2.1 s.2.2.1 s.2.2.2 B xs) x a b c = _ ∧ _
    unfold bounds_Batched_B2
    rw [if_pos (show (i : Int) < (ls.length : Int) by omega), lidx_nat [] hlt, Option.bind_some, hx, w64_id (by omega) (by omega), show (i : Int) + 1 = ((i + 1 : Nat) : Int) by omega]
    by_cases h0 : (x.length : Int) = 0
    · rw [if_pos h0, if_pos h0]
      exact ih a b c
    · rw [if_neg h0, if_neg h0, Option.bind_some]
      obtain ⟨r, r1, r2⟩ := of_same s x.length w
      rw [show ((s.1, s.2.1, s.2.2.1, s.2.2.2) : Sch) = s from rfl, r1, r2, Option.bind_some, Option.bind_some]
      unfold ref43_Batched_J2
      by_cases he : r.2 ≠ 0
      · rw [if_pos he, if_pos he]; exact ⟨_, rfl, rfl⟩
      · rw [if_neg he, if_neg he, add_same]
        unfold ref28_Add
        rw [Option.bind_some, Option.bind_some, w64_id (x := (i : Int) + 1) (by omega) (by omega)]
        exact ih _ _ _
theorem batched_same (h : Hsh) (s : Sch) (n w : Int) : ∃ r, bounds_Batched h s n w = some r ∧ ref43_Batched h s n w = some r := by
  unfold bounds_Batched ref43_Batched
  rcases check_ok h with ⟨e, hk⟩ | ⟨e, _⟩
  · by_cases hn : n < 0 ∨ 1024 < n
    · have h1 : cuckoo_Layout h n = some ([], 4) := by unfold cuckoo_Layout; rw [e, Option.bind_some, if_neg (by simp), if_pos hn]
      have h2 : ref19_Layout h n = some ([], 4) := by unfold ref19_Layout; rw [rcheck, e, Option.bind_some, if_neg (by simp), if_pos hn]
      rw [h1, h2, Option.bind_some, Option.bind_some, if_pos (by decide), if_pos (by decide)]
      exact ⟨_, rfl, rfl⟩
    · obtain ⟨m, rfl⟩ : ∃ m : Nat, n = m := ⟨n.toNat, by omega⟩
      obtain ⟨h1, h2⟩ := layout_yes hk (n := m) (by omega)
      rw [h1, h2, Option.bind_some, Option.bind_some]
      dsimp only
      rw [if_neg (by decide), if_neg (by decide)]
      have hl := lay_len h m
      have hB := hk.2.1
      exact batch_L s w h.1 (lay h m) (by omega) (lay h m) 0 big 0 0 0 rfl (by omega) (by simp only [big]; omega)
  · have h1 : cuckoo_Layout h n = some ([], 2) := by unfold cuckoo_Layout; rw [e, Option.bind_some, if_pos (by simp)]
    have h2 : ref19_Layout h n = some ([], 2) := by unfold ref19_Layout; rw [rcheck, e, Option.bind_some, if_pos (by simp)]
    rw [h1, h2, Option.bind_some, Option.bind_some, if_pos (by decide), if_pos (by decide)]
    exact ⟨_, rfl, rfl⟩
theorem looks_same (h : Hsh) (f : Int × List ByteArray) : ∃ r, bounds_Looks h f = some r ∧ ref43_Looks h f = some r := by
  unfold bounds_Looks ref43_Looks
  rw [rcheck, check_eq, rcheck_eq]
  rcases check_ok h with ⟨e, _⟩ | ⟨e, _⟩
  · rw [e]
    by_cases hf : FenP f
    · have hb := hf.1
      rw [if_pos hf, steps_eq, rsteps_eq, show stepsI f.2.length f.1 = ((st f.1 f.2.length : Int), 0) by unfold stepsI; rw [if_pos (by omega)]]
      exact ⟨((h.2.length : Int), (st f.1 f.2.length : Int), 0), rfl, rfl⟩
    · rw [if_neg hf]
      exact ⟨(0, 0, 2), rfl, rfl⟩
  · rw [e]
    exact ⟨(0, 0, 2), rfl, rfl⟩
theorem failure_same (h : Hsh) (a b : Int) : ∃ r, bounds_Failure h a b = some r ∧ ref43_Failure h a b = some r := by
  obtain ⟨r, h1, h2⟩ := fails_same h a b
  unfold bounds_Failure ref43_Failure
  rw [h1, h2]
  exact ⟨_, rfl, rfl⟩
end Go.Proofs.YtnfalgmfmiolbaaGreat
end

section
namespace Go.Proofs.YtnfalgmfmiolbaaGreat
set_option linter.unusedVariables false
set_option maxRecDepth 100000
theorem dfield {d : List Int × Int} (hd : DiceOK d) : ∃ x e, play_Dice_Field d = some (x, e) ∧ DiceOK e := by
  unfold play_Dice_Field
  obtain ⟨v, e1, h1, a1, b1, c1⟩ := dpick hd (n := 4) (by omega)
  rw [h1, Option.bind_some]
  dsimp only
  rw [lidx_ok 0 (by omega) (by simp; omega), Option.bind_some]
  exact ⟨_, _, rfl, c1⟩
theorem dodd {d : List Int × Int} (hd : DiceOK d) : ∃ x e, play_Dice_Odd d = some (x, e) ∧ DiceOK e := by
  unfold play_Dice_Odd
  obtain ⟨s, e0, h0, s0, c0⟩ := dscheme hd
  rw [h0, Option.bind_some]
  obtain ⟨v, e1, h1, a1, b1, c1⟩ := dpick c0 (n := 6) (by omega)
  dsimp only
  rw [h1, Option.bind_some]
  dsimp only
  split
  · obtain ⟨v, e2, h2, a2, b2, c2⟩ := dpick c1 (n := 6) (by omega)
    rw [h2, Option.bind_some]
    exact ⟨_, _, rfl, c2⟩
  split
  · obtain ⟨v, e2, h2, a2, b2, c2⟩ := dpick c1 (n := 6) (by omega)
    rw [h2, Option.bind_some, lidx_ok 0 (by omega) (by simp; omega), Option.bind_some]
    exact ⟨_, _, rfl, c2⟩
  split
  · obtain ⟨v, e2, h2, a2, b2, c2⟩ := dpick c1 (n := 4) (by omega)
    rw [h2, Option.bind_some, lidx_ok 0 (by omega) (by simp; omega), Option.bind_some]
    exact ⟨_, _, rfl, c2⟩
  split
  · obtain ⟨v, e2, h2, a2, b2, c2⟩ := dpick c1 (n := 4) (by omega)
    rw [h2, Option.bind_some, lidx_ok 0 (by omega) (by simp; omega), Option.bind_some]
    exact ⟨_, _, rfl, c2⟩
  · exact ⟨_, _, rfl, c1⟩
theorem pmod_ok {x n : Int} (hn : 1 ≤ n) (hn2 : n ≤ 1000) : ∃ r, play_Mod x n = some r ∧ 0 ≤ r ∧ r < n := by
  unfold play_Mod
  rw [nz_ok (by omega), Option.bind_some]
  have h1 := Int.tmod_lt_of_pos x (show (0 : Int) < n by omega)
  have h2 : -n < Int.tmod x n := by
    have h3 := Int.tmod_lt_of_pos (-x) (show (0 : Int) < n by omega)
    rw [Int.neg_tmod] at h3
    omega
  split
  · rw [w64_id (by omega) (by omega)]; exact ⟨_, rfl, by omega, by omega⟩
  · exact ⟨_, rfl, by omega, h1⟩
abbrev I13 := (List Int) → Int → Int → Int → Int → Int → Int → Int → Int → Int → Int → Int → Int → Option Bool
theorem L1_ok (rec : I13) (d : List Int) (p a1 a2 a3 a4 a5 a6 a7 a8 a9 a10 a11 : Int) (h : Hsh) : ∀ xs, law43_BoundsSteps_L1 rec d p h.1 h.2 a1 a2 a3 a4 a5 a6 a7 a8 a9 a10 a11 xs = rec d p a1 a2 a3 a4 a5 a6 a7 a8 a9 a10 a11
  | [] => rfl
  | x :: xs => by
    show law43_BoundsSteps_B1 rec d p h.1 h.2 a1 a2 a3 a4 a5 a6 a7 a8 a9 a10 a11 (law43_BoundsSteps_L1 rec d p h.1 h.2 a1 a2 a3 a4 a5 a6 a7 a8 a9 a10 a11 xs) x = _
    unfold law43_BoundsSteps_B1
    obtain ⟨r, h1, h2⟩ := looks_same h x
    rw [show ((h.1, h.2) : Hsh) = h from rfl, h1, h2, Option.bind_some, Option.bind_some, if_neg (by simp)]
    exact L1_ok rec d p a1 a2 a3 a4 a5 a6 a7 a8 a9 a10 a11 h xs
theorem L3_ok (kx : Int → Int → Int → Int → Int → Int → Int → Int → Int → Int → Int → Int → Int → Option Bool) (p a1 a2 a3 a4 a5 a6 a7 a8 a9 a10 a11 : Int) (h : Hsh) : ∀ xs, law43_BoundsSteps_L3 kx p h.1 h.2 a1 a2 a3 a4 a5 a6 a7 a8 a9 a10 a11 xs = kx p h.1 a1 a2 a3 a4 a5 a6 a7 a8 a9 a10 a11
  | [] => rfl
  | x :: xs => by
    show law43_BoundsSteps_B3 kx p h.1 h.2 a1 a2 a3 a4 a5 a6 a7 a8 a9 a10 a11 (law43_BoundsSteps_L3 kx p h.1 h.2 a1 a2 a3 a4 a5 a6 a7 a8 a9 a10 a11 xs) x = _
    unfold law43_BoundsSteps_B3
    obtain ⟨r, h1, h2⟩ := failure_same h x.1 x.2
    rw [show ((h.1, h.2) : Hsh) = h from rfl, h1, h2, Option.bind_some, Option.bind_some, if_neg (by simp)]
    exact L3_ok kx p a1 a2 a3 a4 a5 a6 a7 a8 a9 a10 a11 h xs
theorem L4_ok (n z : Int) (ks : List ByteArray) : ∀ (hs : List Hsh) (d : List Int × Int) (a1 a2 a3 a4 a5 a6 a7 a8 a9 a10 a11 : Int), DiceOK d → law43_BoundsSteps_L4 n z ks hs d.1 d.2 a1 a2 a3 a4 a5 a6 a7 a8 a9 a10 a11 = some true
  | [], _, _, _, _, _, _, _, _, _, _, _, _, _ => rfl
  | h :: hs, d, a1, a2, a3, a4, a5, a6, a7, a8, a9, a10, a11, hd => by
    show law43_BoundsSteps_B4 n z ks (law43_BoundsSteps_L4 n z ks hs) h d.1 d.2 a1 a2 a3 a4 a5 a6 a7 a8 a9 a10 a11 = _
    unfold law43_BoundsSteps_B4
    obtain ⟨v, e1, h1, _, _, c1⟩ := dpick (d := (d.1, d.2)) hd (n := 8) (by omega)
    rw [h1, Option.bind_some]
    obtain ⟨w, e2, h2, _, _, c2⟩ := dpick c1 (n := 4) (by omega)
    rw [h2, Option.bind_some]
    dsimp only
    rw [L3_ok]
    unfold law43_BoundsSteps_J2
    rw [L1_ok]
    exact L4_ok n z ks hs e2 a1 a2 a3 a4 a5 a6 a7 a8 a9 a10 a11 c2
abbrev I17 := (List Int) → Int → Int → Int → Int → Int → Int → Int → Int → Int → Int → Int → Int → Int → Int → Int → Int → Option Bool
theorem L6_ok (rec : I17) (d : List Int) (p a1 a2 a3 a4 a5 a6 a7 a8 a9 a10 a11 : Int) (h : Hsh) (s : Sch) : ∀ xs, law43_BoundsSteps_L6 rec d p h.1 h.2 s.1 s.2.1 s.2.2.1 s.2.2.2 a1 a2 a3 a4 a5 a6 a7 a8 a9 a10 a11 xs = rec d p s.1 s.2.1 s.2.2.1 s.2.2.2 a1 a2 a3 a4 a5 a6 a7 a8 a9 a10 a11
  | [] => rfl
  | x :: xs => by
    show law43_BoundsSteps_B6 rec d p h.1 h.2 s.1 s.2.1 s.2.2.1 s.2.2.2 a1 a2 a3 a4 a5 a6 a7 a8 a9 a10 a11 (law43_BoundsSteps_L6 rec d p h.1 h.2 s.1 s.2.1 s.2.2.1 s.2.2.2 a1 a2 a3 a4 a5 a6 a7 a8 a9 a10 a11 xs) x = _
    unfold law43_BoundsSteps_B6
    obtain ⟨r, h1, h2⟩ := batched_same h s x.1 x.2
    rw [show ((h.1, h.2) : Hsh) = h from rfl, show ((s.1, s.2.1, s.2.2.1, s.2.2.2) : Sch) = s from rfl, h1, h2, Option.bind_some, Option.bind_some, if_neg (by simp)]
    exact L6_ok rec d p a1 a2 a3 a4 a5 a6 a7 a8 a9 a10 a11 h s xs
theorem L7_ok (rec : I13) (n w : Int) (s : Sch) (a1 a2 a3 a4 a5 a6 a7 a8 a9 a10 a11 : Int) (hrec : ∀ e : List Int × Int, DiceOK e → rec e.1 e.2 a1 a2 a3 a4 a5 a6 a7 a8 a9 a10 a11 = some true) : ∀ (hs : List Hsh) (d : List Int × Int), DiceOK d →
    law43_BoundsSteps_L7 rec n w hs d.1 d.2 s.1 s.2.1 s.2.2.1 s.2.2.2 a1 a2 a3 a4 a5 a6 a7 a8 a9 a10 a11 = some true
  | [], d, hd => hrec d hd
  | h :: hs, d, hd => by
    show law43_BoundsSteps_B7 rec n w (law43_BoundsSteps_L7 rec n w hs) h d.1 d.2 s.1 s.2.1 s.2.2.1 s.2.2.2 a1 a2 a3 a4 a5 a6 a7 a8 a9 a10 a11 = _
    unfold law43_BoundsSteps_B7
    obtain ⟨v, e1, h1, _, _, c1⟩ := dpick (d := (d.1, d.2)) hd (n := 9) (by omega)
    rw [h1, Option.bind_some]
    obtain ⟨q, e2, h2, _, _, c2⟩ := dpick c1 (n := 4) (by omega)
    rw [h2, Option.bind_some]
    dsimp only
    rw [L6_ok]
    exact L7_ok rec n w s a1 a2 a3 a4 a5 a6 a7 a8 a9 a10 a11 hrec hs e2 c2
theorem L9_ok (kx : Int → Int → Int → Int → Int → Int → Int → Int → Int → Int → Int → Int → Int → Int → Int → Int → Option Bool) (n p d a1 a2 a3 a4 a5 a6 a7 a8 a9 a10 a11 : Int) (s : Sch) : ∀ fs, law43_BoundsSteps_L9 kx n p d s.1 s.2.1 s.2.2.1 s.2.2.2 a1 a2 a3 a4 a5 a6 a7 a8 a9 a10 a11 fs = kx d s.1 s.2.1 s.2.2.1 s.2.2.2 a1 a2 a3 a4 a5 a6 a7 a8 a9 a10 a11
  | [] => rfl
  | f :: fs => by
    show law43_BoundsSteps_B9 kx n p d s.1 s.2.1 s.2.2.1 s.2.2.2 a1 a2 a3 a4 a5 a6 a7 a8 a9 a10 a11 (law43_BoundsSteps_L9 kx n p d s.1 s.2.1 s.2.2.1 s.2.2.2 a1 a2 a3 a4 a5 a6 a7 a8 a9 a10 a11 fs) f = _
    unfold law43_BoundsSteps_B9
    obtain ⟨r, h1, h2⟩ := draws_same s f (min n 30) p (by omega)
    rw [show ((s.1, s.2.1, s.2.2.1, s.2.2.2) : Sch) = s from rfl, h1, h2, Option.bind_some, Option.bind_some, if_neg (by simp)]
    exact L9_ok kx n p d a1 a2 a3 a4 a5 a6 a7 a8 a9 a10 a11 s fs
theorem L10_ok (kx : I13) (n w p : Int) (ps : List (Int × Int)) (a1 a2 a3 a4 a5 a6 a7 a8 a9 a10 a11 : Int) (hk : ∀ e : List Int × Int, DiceOK e → kx e.1 e.2 a1 a2 a3 a4 a5 a6 a7 a8 a9 a10 a11 = some true) : ∀ (ss : List Sch) (d : List Int × Int), DiceOK d →
    law43_BoundsSteps_L10 kx n w p ps ss d.1 d.2 a1 a2 a3 a4 a5 a6 a7 a8 a9 a10 a11 = some true
  | [], d, hd => hk d hd
  | s :: ss, d, hd => by
    show law43_BoundsSteps_B10 kx n w p ps (law43_BoundsSteps_L10 kx n w p ps ss) s d.1 d.2 a1 a2 a3 a4 a5 a6 a7 a8 a9 a10 a11 = _
    unfold law43_BoundsSteps_B10
    obtain ⟨f, e1, h1, c1⟩ := dfield (d := (d.1, d.2)) hd
    rw [h1, Option.bind_some]
    dsimp only
    rw [L9_ok]
    unfold law43_BoundsSteps_J8
    obtain ⟨h, e2, k1, k2, k3, k4, k5⟩ := dhash (d := (e1.1, e1.2)) c1
    rw [k1, Option.bind_some]
    exact L7_ok _ n w s a1 a2 a3 a4 a5 a6 a7 a8 a9 a10 a11 (fun e he => L10_ok kx n w p ps a1 a2 a3 a4 a5 a6 a7 a8 a9 a10 a11 hk ss e he) _ e2 k5
theorem servers {x : Sch} (hx : x ∈ schemes) : x.2.1 = 3 ∨ x.2.1 = 4 ∨ x.2.1 = 5 ∨ x.2.1 = 6 := by
  have h : (schemes.all fun x => decide (x.2.1 = 3 ∨ x.2.1 = 4 ∨ x.2.1 = 5 ∨ x.2.1 = 6)) = true := by decide
  exact of_decide_eq_true (List.all_eq_true.1 h x hx)
theorem notes_same {x : Sch} (hx : x ∈ schemes) {p : Int} (hp : 1 ≤ p ∧ p ≤ 16) : ∃ r, bounds_Notes x p = some r ∧ ref43_Notes x p = some r := by
  unfold bounds_Notes ref43_Notes bounds_asked
  rw [Option.bind_some]
  have h := servers hx
  have e : w64 (2 * w64 (p * x.2.1)) = w64 (w64 (2 * p) * x.2.1) := by
    rcases h with h | h | h | h <;> rw [h, w64_id (x := p * _) (by omega) (by omega), w64_id (x := 2 * p) (by omega) (by omega)] <;> congr 1 <;> omega
  rw [e]
  exact ⟨_, rfl, rfl⟩
theorem law_steps {t : List Int} (ht : ∀ y ∈ t, 0 ≤ y ∧ y ≤ 255) (raw : Sch) (f n w p z : Int) (h : Hsh) (g : Int × List ByteArray) : law43_BoundsSteps t raw f n w p z h g = some true := by
  unfold law43_BoundsSteps
  rw [sane43, Option.bind_some, if_neg (by decide)]
  split
  · rfl
  obtain ⟨d, h1, h2⟩ := dnew ht
  rw [h1, Option.bind_some]
  obtain ⟨w1, hw1, w2, w3⟩ := pmod_ok (x := w) (n := 64) (by omega) (by omega)
  obtain ⟨p1, hp1, p2, p3⟩ := pmod_ok (x := p) (n := 16) (by omega) (by omega)
  rw [hw1, Option.bind_some, hp1, Option.bind_some]
  obtain ⟨x, e1, s1, s2, s3⟩ := dscheme h2
  rw [s1, Option.bind_some]
  dsimp only
  rw [w64_id (x := 1 + p1) (by omega) (by omega), w64_id (x := 1 + w1) (by omega) (by omega)]
  obtain ⟨r, r1, r2⟩ := notes_same s2 (p := 1 + p1) (by omega)
  have hw : bounds_Words x (1 + w1) (1 + p1) = ref43_Words x (1 + w1) (1 + p1) := by
    unfold bounds_Words ref43_Words bounds_asked
    rw [Option.bind_some]
  have hs : bounds_Steps x (1 + w1) (1 + p1) = ref43_Steps x (1 + w1) (1 + p1) := by
    unfold bounds_Steps ref43_Steps
    rw [r1, r2, hw]
  have hws : ∃ q, ref43_Words x (1 + w1) (1 + p1) = some q := ⟨_, rfl⟩
  obtain ⟨q, hq⟩ := hws
  have hss : ∃ u, ref43_Steps x (1 + w1) (1 + p1) = some u := ⟨_, by unfold ref43_Steps; rw [r2, hq, Option.bind_some, Option.bind_some]⟩
  obtain ⟨u, hu⟩ := hss
  rw [r1, r2, Option.bind_some, Option.bind_some, if_neg (by simp), hw, hq, Option.bind_some, Option.bind_some, Option.bind_some, if_neg (by simp), hs, hu, Option.bind_some, Option.bind_some, Option.bind_some, if_neg (by simp)]
  obtain ⟨o, e2, o1, o2⟩ := dodd s3
  rw [o1, Option.bind_some]
  dsimp only
  refine L10_ok _ n w p h.2 _ _ _ _ _ _ _ _ _ _ _ (fun e he => ?_) _ e2 o2
  unfold law43_BoundsSteps_J5
  obtain ⟨h', e3, k1, k2, k3, k4, k5⟩ := dhash (d := (e.1, e.2)) he
  rw [k1, Option.bind_some]
  exact L4_ok n z g.2 _ e3 _ _ _ _ _ _ _ _ _ _ _ k5
end Go.Proofs.YtnfalgmfmiolbaaGreat
end
