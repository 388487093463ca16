/-
  Plain functions of which the lifted functions are made. No program in sight.
-/
import Derived.IntWalk
namespace Go.Proofs.Ytbhmhindommaeaa

abbrev w64 (x : Int) : Int := IntKind.i64.wrap x
abbrev wu8 (x : Int) : Int := IntKind.u8.wrap x
/-- An element; none where there is none. -/
def lidx {α : Type} (l : List α) (i : Int) : Option α := if 0 ≤ i then l[i.toNat]? else none
/-- A list with another element. -/
def lupd {α : Type} (l : List α) (i : Int) (y : α) : Option (List α) := if 0 ≤ i ∧ i < l.length then some (l.set i.toNat y) else none
/-- A part of a list. -/
def lsub {α : Type} (l : List α) (i j : Int) : Option (List α) := if 0 ≤ i ∧ i ≤ j ∧ j ≤ l.length then some ((l.drop i.toNat).take (j - i).toNat) else none
/-- l[i:j:m] -/
def lsub3 {α : Type} (l : List α) (i j m : Int) : Option (List α) := if j ≤ m ∧ m ≤ l.length then lsub l i j else none
theorem lsub3_some {α : Type} {l r : List α} {i j m : Int} (h : lsub3 l i j m = some r) : j ≤ m ∧ m ≤ l.length ∧ lsub l i j = some r := by
  unfold lsub3 at h
  split at h
  · rename_i hh; exact ⟨hh.1, hh.2, h⟩
  · cases h
def lapp {α : Type} (l m : List α) : Option (List α) := if l.length + m.length ≤ 16777216 then some (l ++ m) else none
def lmk {α : Type} (n : Int) (z : α) : Option (List α) := if 0 ≤ n ∧ n ≤ 16777216 then some (List.replicate n.toNat z) else none
def nz (y : Int) : Option Unit := if y = 0 then none else some ()
def sidx (s : ByteArray) (i : Int) : Option Int := if 0 ≤ i ∧ i < s.size then some ((s.data.toList.getD i.toNat 0).toNat : Int) else none
def ssub (s : ByteArray) (i j : Int) : Option ByteArray := if 0 ≤ i ∧ i ≤ j ∧ j ≤ s.size then some (s.extract i.toNat j.toNat) else none

/-- copy of src into l, from i on, at most n elements. -/
def lcpy {α : Type} (l : List α) (i : Int) (n : Nat) (src : List α) : List α := l.take i.toNat ++ src.take n ++ l.drop (i.toNat + min src.length n)
/-- The bytes of a text, the text of bytes. -/
def toB (s : ByteArray) : List Int := s.data.toList.map fun c => (c.toNat : Int)
def ofB (l : List Int) : ByteArray := ⟨(l.map fun n => UInt8.ofNat n.toNat).toArray⟩

def tobs (s : ByteArray) : Option (List Int) := if s.size ≤ 9223372036854775807 then some (toB s) else none
theorem tobs_some {s : ByteArray} {l : List Int} (h : tobs s = some l) : s.size ≤ 9223372036854775807 ∧ l = toB s := by
  unfold tobs at h
  split at h
  · cases h; exact ⟨by assumption, rfl⟩
  · cases h

theorem bind_some {α β : Type} {o : Option α} {f : α → Option β} {r : β} (h : o.bind f = some r) : ∃ x, o = some x ∧ f x = some r := by
  cases o with
  | none => cases h
  | some x => exact ⟨x, rfl, h⟩
theorem ifT {α : Type} {c : Prop} [Decidable c] {a b r : α} (h : (if c then a else b) = r) (hc : c) : a = r := by rw [if_pos hc] at h; exact h
theorem ifF {α : Type} {c : Prop} [Decidable c] {a b r : α} (h : (if c then a else b) = r) (hc : ¬ c) : b = r := by rw [if_neg hc] at h; exact h
theorem ifBF {α : Type} {c : Bool} {a b r : α} (h : (if c = true then a else b) = r) (hc : c = false) : b = r := by rw [if_neg (by simp [hc])] at h; exact h
theorem lidx_some {α : Type} {l : List α} {i : Int} {x : α} (h : lidx l i = some x) : 0 ≤ i ∧ i < l.length ∧ l[i.toNat]? = some x := by
  unfold lidx at h
  split at h
  · exact ⟨by assumption, by have := (List.getElem?_eq_some_iff.1 h).1; omega, h⟩
  · cases h
theorem lidx_of {α : Type} {l : List α} {i : Int} {x : α} (h0 : 0 ≤ i) (h : l[i.toNat]? = some x) : lidx l i = some x := by unfold lidx; rw [if_pos h0]; exact h
theorem lupd_some {α : Type} {l m : List α} {i : Int} {y : α} (h : lupd l i y = some m) : 0 ≤ i ∧ i < l.length ∧ m = l.set i.toNat y := by
  unfold lupd at h
  split at h
  · rename_i hh; cases h; exact ⟨hh.1, hh.2, rfl⟩
  · cases h
theorem lsub_some {α : Type} {l m : List α} {i j : Int} (h : lsub l i j = some m) : 0 ≤ i ∧ i ≤ j ∧ j ≤ l.length ∧ m = (l.drop i.toNat).take (j - i).toNat := by
  unfold lsub at h
  split at h
  · rename_i hh; cases h; exact ⟨hh.1, hh.2.1, hh.2.2, rfl⟩
  · cases h
theorem lapp_some {α : Type} {l m k : List α} (h : lapp l m = some k) : l.length + m.length ≤ 16777216 ∧ k = l ++ m := by
  unfold lapp at h
  split at h
  · cases h; exact ⟨by assumption, rfl⟩
  · cases h
theorem lmk_some {α : Type} {n : Int} {z : α} {l : List α} (h : lmk n z = some l) : 0 ≤ n ∧ n ≤ 16777216 ∧ l = List.replicate n.toNat z := by
  unfold lmk at h
  split at h
  · rename_i hh; cases h; exact ⟨hh.1, hh.2, rfl⟩
  · cases h
theorem nz_some {y : Int} {u : Unit} (h : nz y = some u) : y ≠ 0 := by
  unfold nz at h
  split at h
  · cases h
  · assumption
theorem sidx_some {s : ByteArray} {i x : Int} (h : sidx s i = some x) : 0 ≤ i ∧ i < s.size ∧ x = ((s.data.toList.getD i.toNat 0).toNat : Int) := by
  unfold sidx at h
  split at h
  · rename_i hh; cases h; exact ⟨hh.1, hh.2, rfl⟩
  · cases h
theorem ssub_some {s t : ByteArray} {i j : Int} (h : ssub s i j = some t) : 0 ≤ i ∧ i ≤ j ∧ j ≤ s.size ∧ t = s.extract i.toNat j.toNat := by
  unfold ssub at h
  split at h
  · rename_i hh; cases h; exact ⟨hh.1, hh.2.1, hh.2.2, rfl⟩
  · cases h
theorem w64_id {x : Int} (h1 : -9223372036854775808 ≤ x) (h2 : x ≤ 9223372036854775807) : w64 x = x := IntWalk.i64_in x ⟨h1, h2⟩
theorem wu8_id {x : Int} (h1 : 0 ≤ x) (h2 : x ≤ 255) : wu8 x = x := IntWalk.u8_in x ⟨h1, h2⟩
theorem drop_nil {α : Type} {l : List α} {i : Nat} (h : l.drop i = []) : ¬ ((i : Int) < (l.length : Int)) := by
  have := List.drop_eq_nil_iff.1 h; omega
theorem drop_lt {α : Type} {l xs : List α} {x : α} {i : Nat} (h : l.drop i = x :: xs) : (i : Int) < (l.length : Int) := by
  have : (l.drop i).length = xs.length + 1 := by rw [h]; rfl
  rw [List.length_drop] at this; omega
theorem drop_idx {α : Type} {l xs : List α} {x : α} {i : Nat} (h : l.drop i = x :: xs) : lidx l (i : Int) = some x := by
  refine lidx_of (by omega) ?_
  rw [Int.toNat_natCast]
  have : (l.drop i)[0]? = some x := by rw [h]; rfl
  simpa using this
theorem drop_succ {α : Type} {l xs : List α} {x : α} {i : Nat} (h : l.drop i = x :: xs) : l.drop (i + 1) = xs := by
  rw [← List.drop_drop, h]; rfl
theorem idx_wrap {α : Type} {l xs : List α} {x : α} {i : Nat} (hb : l.length ≤ 9223372036854775807) (h : l.drop i = x :: xs) : IntKind.i64.wrap ((i : Int) + 1) = ((i + 1 : Nat) : Int) := by
  have := drop_lt h
  rw [IntWalk.i64_in _ (by omega)]; omega
theorem drop_cons {α : Type} {l : List α} {i : Nat} {x : α} (h : l[i]? = some x) : l.drop i = x :: l.drop (i + 1) := by
  obtain ⟨h1, h2⟩ := List.getElem?_eq_some_iff.1 h
  rw [List.drop_eq_getElem_cons h1, h2]

/-- A map, as the list of its entries. -/
def mput {α β : Type} [DecidableEq α] : List (α × β) → α → β → List (α × β)
  | [], k, v => [(k, v)]
  | (a, b) :: l, k, v => if a = k then (a, v) :: l else (a, b) :: mput l k v
def mget {α β : Type} [DecidableEq α] : List (α × β) → α → Option β
  | [], _ => none
  | (a, b) :: l, k => if a = k then some b else mget l k

/-- make(T, 0, n): is the room allowed? -/
def lcap (n : Int) : Option Unit := if 0 ≤ n ∧ n ≤ 16777216 then some () else none
/-- append within a room. -/
def lapz {α : Type} (N : Nat) (l m : List α) : Option (List α) := if l.length + m.length ≤ N then some (l ++ m) else none
/-- The row behind a slice, up to its room. -/
def padz {α : Type} (N : Nat) (z : α) (l : List α) : List α := l ++ List.replicate (N - l.length) z
/-- A row as a slice. -/
def lfull {α : Type} (N : Nat) (z : α) (l : List α) : Option (List α) := if l.length ≤ N then some (padz N z l) else none
/-- An iterator yields. -/
def yc {α : Type} (y : α) (o : Option (List α)) : Option (List α) := o.map (y :: ·)
theorem yc_some {α : Type} {y : α} {o : Option (List α)} {l : List α} {i : Nat} (h : yc y o = some (l.drop i)) : l[i]? = some y ∧ o = some (l.drop (i + 1)) := by
  cases o with
  | none => cases h
  | some m =>
    simp only [yc, Option.map_some, Option.some.injEq] at h
    constructor
    · have : (l.drop i)[0]? = some y := by rw [← h]; rfl
      simpa using this
    · rw [← List.drop_drop, ← h]; rfl
theorem yc_end {α : Type} {l : List α} {i : Nat} (h : some ([] : List α) = some (l.drop i)) (hi : i ≤ l.length) : i = l.length := by
  have := List.drop_eq_nil_iff.1 (Option.some.inj h).symm; omega
theorem yc_le {α : Type} {l : List α} {i : Nat} {x : α} (h : l[i]? = some x) : i + 1 ≤ l.length := (List.getElem?_eq_some_iff.1 h).1
/-- Enough for every loop. -/
abbrev big : Nat := 1000000000
end Go.Proofs.Ytbhmhindommaeaa
