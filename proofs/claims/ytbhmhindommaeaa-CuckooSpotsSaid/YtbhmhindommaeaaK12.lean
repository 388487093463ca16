/-
  From a call's contract to what a statement asks; slices that came in.
-/
import Derived.Test.YtbhmhindommaeaaK11
namespace Go.Proofs.Ytbhmhindommaeaa
open Go.RowKit

def whole (w : World) : Hp := fun b => w.heap[b]?

theorem whole_in (w : World) : HpIn (whole w) w := fun _ _ h => h

theorem calls_of_ret {P : Program} {f : FuncId} {args : Array Value} {w : World} {Q : Value → Prop} (h : RetV P f args [whole w] Q) :
    Calls P f args w fun e w' => (∃ v, e = .returned v ∧ Q v) ∧ Below w.heap.size w w' := by
  refine Calls.mono (h w (fun G hG => by simp at hG; subst hG; exact whole_in w) (by simp) (by simp) (by simp)) fun e w' ⟨v, he, Fr, bl, sl, _, hi, hq, _⟩ => ⟨⟨v, he, hq⟩, ?_⟩
  exact ⟨hi.keep.os, hi.keep.tape, hi.keep.output, hi.keep.size, fun b hb => hi.keep.block b hb (by simp)⟩

theorem calls_true {P : Program} {f : FuncId} {args : Array Value} {w : World} (h : RetV P f args [whole w] (fun v => v = .bool true)) :
    Calls P f args w fun e w' => e = .returned (.bool true) ∧ Below w.heap.size w w' :=
  (calls_of_ret h).mono fun e w' ⟨⟨v, he, hv⟩, hb⟩ => ⟨by rw [he, hv], hb⟩

theorem cell_whole {w : World} {a : Addr} {v : Value} (h : w.cell? a = some v) : a.spot = none ∧ rcell (whole w) a.block a.off = some v := by
  unfold World.cell? at h
  unfold rcell whole
  cases hb : w.heap[a.block]? with
  | none => rw [hb] at h; cases h
  | some o =>
    rw [hb] at h
    cases o <;> simp at h
    obtain ⟨h1, h2⟩ := h
    exact ⟨h1, by simpa using h2⟩

/-- A slice of numbers that came in, as the shell of a statement's proof tells it. -/
theorem sl_of_row {k : IntKind} {w : World} {a : Option Addr} {len cap : Nat} {zs : List Int}
    (h : (a = none ∧ len = 0 ∧ cap = 0 ∧ zs = []) ∨ ∃ x, a = some x ∧ len ≤ cap ∧ cap ≤ maxLen ∧ zs.length = cap ∧ (∀ i, i < zs.length → w.cell? (x.add i) = some (.int k (zs.getD i 0))) ∧ ∀ n ∈ zs, (Lit.int k n).wf = true) :
    Sl (whole w) 1 (.slice a len cap) ((zs.take len).map fun x => [Value.int k x]) ∧ (∀ n ∈ zs.take len, (Lit.int k n).wf = true) ∧ (zs.take len).length ≤ maxLen := by
  rcases h with ⟨rfl, rfl, rfl, rfl⟩ | ⟨x, rfl, h1, h2, h3, h4, h5⟩
  · exact ⟨⟨none, 0, rfl, Nat.le_refl _, by simp, fun h => by simp at h⟩, by simp, by simp⟩
  · have hl : (zs.take len).length = len := by simp; omega
    refine ⟨⟨some x, cap, by rw [List.length_map, hl], by rw [List.length_map, hl]; exact h1, fun y hy => by obtain ⟨u, _, rfl⟩ := List.mem_map.1 hy; rfl, fun hne => ?_⟩, fun n hn => h5 n (List.mem_of_mem_take hn), by rw [hl]; omega⟩
    have hpos : 0 < len := by
      rcases Nat.eq_zero_or_pos len with h | h
      · subst h; simp at hne
      · exact h
    have h0 := h4 0 (by omega)
    have hx : x.add 0 = x := by simp [Addr.add]
    rw [hx] at h0
    obtain ⟨b, o, sp⟩ := x
    obtain ⟨rfl, _⟩ := cell_whole h0
    refine ⟨b, o, rfl, fun i y hi j c hj => ?_⟩
    rw [List.getElem?_map] at hi
    cases hz : (zs.take len)[i]? with
    | none => rw [hz] at hi; cases hi
    | some u =>
      rw [hz] at hi
      simp only [Option.map_some, Option.some.injEq] at hi
      subst hi
      have hi2 : i < len := by
        rcases Nat.lt_or_ge i len with h | h
        · exact h
        · rw [List.getElem?_eq_none (by rw [hl]; exact h)] at hz; cases hz
      have hj0 : j = 0 := by
        cases j with
        | zero => rfl
        | succ j => simp at hj
      subst hj0
      simp only [List.getElem?_cons_zero, Option.some.injEq] at hj
      subst hj
      have h6 := h4 i (by omega)
      rw [addr_add] at h6
      have h7 := (cell_whole h6).2
      rw [List.getElem?_take_of_lt hi2] at hz
      have h8 : zs.getD i 0 = u := by rw [List.getD_eq_getElem?_getD, hz]; rfl
      rw [h8] at h7
      simpa using h7

theorem wf_u8 {n : Int} (h : (Lit.int .u8 n).wf = true) : 0 ≤ n ∧ n ≤ 255 := by simpa [Lit.wf, IntKind.min, IntKind.max, IntKind.signed, IntKind.bits] using h
theorem wf_i64 {n : Int} (h : (Lit.int .i64 n).wf = true) : -9223372036854775808 ≤ n ∧ n ≤ 9223372036854775807 := by simpa [Lit.wf, IntKind.min, IntKind.max, IntKind.signed, IntKind.bits] using h
theorem wf_i16 {n : Int} (h : (Lit.int .i16 n).wf = true) : -32768 ≤ n ∧ n ≤ 32767 := by simpa [Lit.wf, IntKind.min, IntKind.max, IntKind.signed, IntKind.bits] using h
end Go.Proofs.Ytbhmhindommaeaa
