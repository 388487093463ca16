/-
  Arguments of whatever type, as the shell of a statement's proof hands them.
-/
import Derived.Test.YtbhmhindommaeaaK13
import Derived.Deep.Slices
import Derived.ChangeOld
namespace Go.Proofs.Ytbhmhindommaeaa
open Go.RowKit Go.ChangeShapes Go.WideShapes Go.Deep

/-- The cells read as a value of type t. -/
def Tr (P : Program) (W : World) (t : TypeId) (cs : List Value) : Prop := ∃ (H : Type) (enc : TypeId × Value → H) (n : Nat) (x : DataW H × List MemPlace), DataW.trod enc P W 0 (fun _ => true) true n t cs = some x

section
variable {H : Type} {enc : TypeId × Value → H} {P : Program} {W : World} {t : TypeId} {cs : List Value}

theorem tr_of {v : Value} {d : DataW H} {ps : List MemPlace} (h : DataW.Trod enc P W 0 (fun _ => true) true t v d ps) : Tr P W t v.cells.toList := by
  obtain ⟨n, hn⟩ := h
  exact ⟨H, enc, n, _, hn⟩
theorem tr_agg {cs : List Value} {d : DataW H} {ps : List MemPlace} (h : DataW.Trod enc P W 0 (fun _ => true) true t (.agg cs.toArray) d ps) : Tr P W t cs := by
  have := tr_of h
  simpa [Value.cells] using this
theorem tr_slice {a : Option Addr} {n cap : Nat} {d : DataW H} {ps : List MemPlace} (h : DataW.Trod enc P W 0 (fun _ => true) true t (.slice a n cap) d ps) : Tr P W t [.slice a n cap] := by
  have := tr_of h
  simpa [Value.cells] using this

theorem Tr.int {k : IntKind} (h : Tr P W t cs) (ht : P.underlying t = some (.int k)) : ∃ n, cs = [.int k n] ∧ (Lit.int k n).wf = true := by
  obtain ⟨H, enc, n, x, h⟩ := h
  obtain ⟨m, h1, _, h2⟩ := DataW.trod_int ht h
  exact ⟨m, h1, h2⟩
theorem Tr.bool (h : Tr P W t cs) (ht : P.underlying t = some .bool) : ∃ b, cs = [.bool b] := by
  obtain ⟨H, enc, n, x, h⟩ := h
  obtain ⟨m, h1, _⟩ := DataW.trod_bool ht h
  exact ⟨m, h1⟩
theorem Tr.str (h : Tr P W t cs) (ht : P.underlying t = some .string) : ∃ s : ByteArray, cs = [.string s] ∧ s.size ≤ maxLen := by
  obtain ⟨H, enc, n, x, h⟩ := h
  obtain ⟨m, h1, _, h2⟩ := DataW.trod_string ht h
  exact ⟨m, h1, h2⟩
theorem Tr.len {fs : Array Field} {m : Nat} (h : Tr P W t cs) (ht : P.underlying t = some (.struct fs)) (hm : P.cellsOf t = m) : cs.length = m := by
  obtain ⟨H, enc, n, x, h⟩ := h
  obtain ⟨_, _, _, _, h1, _⟩ := DataW.trod_struct ht h
  rw [h1, hm]
theorem Tr.fld {fs : Array Field} (i : Nat) {f : Field} {m : Nat} {cs' : List Value} (h : Tr P W t cs) (ht : P.underlying t = some (.struct fs)) (hf : fs[i]? = some f) (hm : P.cellsOf f.type = m) (hc : (cs.drop f.offset).take m = cs') : Tr P W f.type cs' := by
  obtain ⟨H, enc, n, x, h⟩ := h
  obtain ⟨xs, n', _, _, _, h2, h3⟩ := DataW.trod_struct ht h
  have hlt : i < xs.length := by
    rw [h2]
    exact (Array.getElem?_eq_some_iff.1 hf).1
  have := h3 i f hf
  rw [hm, hc, List.getElem?_eq_getElem hlt] at this
  exact ⟨H, enc, n', _, this⟩

theorem Tr.slice {e : TypeId} {sz : Nat} (h : Tr P W t cs) (ht : P.underlying t = some (.slice e)) (hsz : P.cellsOf e = sz) (hpos : 0 < sz) : ∃ a n cap xss, cs = [.slice a n cap] ∧ Sl (whole W) sz (.slice a n cap) xss ∧ (∀ x ∈ xss, Tr P W e x) ∧ n ≤ maxLen ∧ xss.length = n := by
  obtain ⟨H, enc, fuel, x, h⟩ := h
  rcases open_slice ht h with ⟨rfl, _⟩ | ⟨a, n, cap, m, f, D, Pl, rfl, _, hl, hmx, hm, _, hel⟩
  · exact ⟨none, 0, 0, [], rfl, Sl.nil _ _, by simp, by simp [maxLen], rfl⟩
  · rw [hsz] at hel
    simp only [if_true] at hm
    obtain rfl := hm.symm
    obtain ⟨X, hX⟩ := choose_lt (α := List Value) (fun i hi => hel i (Nat.lt_of_lt_of_le hi hl))
    have hlen : ∀ i, i < n → (X i).length = sz := fun i hi => by
      obtain ⟨_, h1, _⟩ := World.cells?_some (hX i hi).1
      exact h1
    have hcell : ∀ i, i < n → ∀ j c, (X i)[j]? = some c → W.cell? ((a.add (i * sz)).add j) = some c := fun i hi j c hj => by
      obtain ⟨_, h1, h2⟩ := World.cells?_some (hX i hi).1
      have hjl : j < (X i).length := by rcases Nat.lt_or_ge j (X i).length with h | h; exact h; rw [List.getElem?_eq_none h] at hj; cases hj
      exact (h2 j (by omega)).trans hj
    refine ⟨some a, n, cap, (List.range n).map X, rfl, ⟨some a, cap, by simp, by simpa using hl, fun x hx => ?_, fun hne => ?_⟩, fun x hx => ?_, by omega, by simp⟩
    · obtain ⟨i, hi, rfl⟩ := List.mem_map.1 hx
      exact hlen i (List.mem_range.1 hi)
    · have hn : 0 < n := by
        rcases Nat.eq_zero_or_pos n with h0 | h0
        · subst h0; simp at hne
        · exact h0
      have h0 : ∃ c, (X 0)[0]? = some c := by
        have := hlen 0 hn
        exact ⟨(X 0)[0]'(by omega), List.getElem?_eq_getElem _⟩
      obtain ⟨c0, hc0⟩ := h0
      have hc := hcell 0 hn 0 c0 hc0
      have ha : (a.add (0 * sz)).add 0 = a := by simp [Addr.add]
      rw [ha] at hc
      obtain ⟨b, o, sp⟩ := a
      obtain ⟨rfl, _⟩ := cell_whole hc
      refine ⟨b, o, rfl, fun i x hi j c hj => ?_⟩
      rw [List.getElem?_map] at hi
      have hin : i < n := by
        rcases Nat.lt_or_ge i n with h | h
        · exact h
        · rw [List.getElem?_eq_none (by simpa using h)] at hi; cases hi
      rw [List.getElem?_range hin] at hi
      simp only [Option.map_some, Option.some.injEq] at hi
      subst hi
      have := hcell i hin j c hj
      rw [addr_add, addr_add] at this
      exact (cell_whole this).2
    · obtain ⟨i, hi, rfl⟩ := List.mem_map.1 hx
      have := (hX i (List.mem_range.1 hi)).2
      exact ⟨H, enc, f, _, this⟩

/-- A list of cells, said by a list of what they hold. -/
theorem lift_map {α : Type} {f : α → List Value} {Q : α → Prop} : ∀ {xss : List (List Value)}, (∀ x ∈ xss, ∃ y, x = f y ∧ Q y) → ∃ l : List α, xss = l.map f ∧ ∀ y ∈ l, Q y
  | [], _ => ⟨[], rfl, by simp⟩
  | x :: xss, h => by
    obtain ⟨y, rfl, hy⟩ := h x List.mem_cons_self
    obtain ⟨l, rfl, hl⟩ := lift_map (fun z hz => h z (List.mem_cons_of_mem _ hz))
    exact ⟨y :: l, rfl, fun z hz => by
      rcases List.mem_cons.1 hz with rfl | hz
      · exact hy
      · exact hl z hz⟩

theorem Tr.sliceOf {α : Type} {e : TypeId} {sz : Nat} (f : α → List Value) (Q : α → Prop) (h : Tr P W t cs) (ht : P.underlying t = some (.slice e)) (hsz : P.cellsOf e = sz) (hpos : 0 < sz) (hQ : ∀ x, Tr P W e x → ∃ y, x = f y ∧ Q y) :
    ∃ a n cap, ∃ l : List α, cs = [.slice a n cap] ∧ Sl (whole W) sz (.slice a n cap) (l.map f) ∧ (∀ y ∈ l, Q y) ∧ n ≤ maxLen ∧ l.length = n := by
  obtain ⟨a, n, cap, xss, h1, h2, h3, h4, h5⟩ := h.slice ht hsz hpos
  obtain ⟨l, rfl, hl⟩ := lift_map (f := f) (Q := Q) (fun x hx => hQ x (h3 x hx))
  exact ⟨a, n, cap, l, h1, h2, hl, h4, by simpa using h5⟩

theorem arg_agg {fs : Array Field} {r : Reach} {b : Nat} {v : Value} (ht : P.underlying t = some (.struct fs)) (h : Value.okWide P W r b t v) : ∃ cs : List Value, v = .agg cs.toArray := by
  obtain ⟨cs, rfl, _⟩ := okWide_struct ht h
  exact ⟨cs.toList, by simp⟩
theorem len1 {α : Type} {l : List α} (h : l.length = 1) : ∃ a, l = [a] := by match l, h with | [a], _ => exact ⟨a, rfl⟩
theorem len2 {α : Type} {l : List α} (h : l.length = 2) : ∃ a b, l = [a, b] := by match l, h with | [a, b], _ => exact ⟨a, b, rfl⟩
theorem len3 {α : Type} {l : List α} (h : l.length = 3) : ∃ a b c, l = [a, b, c] := by match l, h with | [a, b, c], _ => exact ⟨a, b, c, rfl⟩
theorem len4 {α : Type} {l : List α} (h : l.length = 4) : ∃ a b c d, l = [a, b, c, d] := by match l, h with | [a, b, c, d], _ => exact ⟨a, b, c, d, rfl⟩
theorem len_succ {α : Type} {l : List α} {n : Nat} (h : l.length = n + 1) : ∃ a r, l = a :: r ∧ r.length = n := by
  cases l with
  | nil => simp at h
  | cons a r => exact ⟨a, r, rfl, by simpa using h⟩
end
end Go.Proofs.Ytbhmhindommaeaa
