/- A statement's slices, as the walks take them. -/
import Derived.Test.YtbhmhindommaeaaL7
import Derived.Test.YtbhmhindommaeaaK14
namespace Go.Proofs.Ytbhmhindommaeaa
open Go.RowKit

theorem tr_str {P : Program} {W : World} {H : Type} {enc : TypeId × Value → H} {t : TypeId} {s : ByteArray} {d : DataW H} {ps : List MemPlace} (h : DataW.Trod enc P W 0 (fun _ => true) true t (.string s) d ps) : Tr P W t [.string s] := by
  have := tr_of h
  simpa [Value.cells] using this

theorem slR_of {α : Type} {A : Rep α} {G : Hp} {f : α → List Value} {Q : α → Prop} {a : Option Addr} {n c : Nat} {l : List α} (h : Sl G A.sz (.slice a n c) (l.map f)) (hq : ∀ y ∈ l, Q y) (hm : n ≤ maxLen) (hg : l.length = n) (hr : ∀ x, Q x → A.r G (f x) x) : SlR A G a c l := by
  subst hg
  refine ⟨hm, _, h, by simp, fun i x y h1 h2 => ?_⟩
  rw [List.getElem?_map, h2] at h1
  obtain rfl := Option.some.inj h1
  exact hr y (hq y (List.mem_of_getElem? h2))
theorem slInts {k : IntKind} {G : Hp} {Q : Int → Prop} {a : Option Addr} {n c : Nat} {l : List Int} (h : Sl G 1 (.slice a n c) (l.map fun x => [Value.int k x])) (hq : ∀ y ∈ l, Q y) (hm : n ≤ maxLen) (hg : l.length = n) : SlR (Rep.int k) G a c l := slR_of h hq hm hg (fun _ _ => rfl)
theorem slStrs {G : Hp} {Q : ByteArray → Prop} {a : Option Addr} {n c : Nat} {l : List ByteArray} (h : Sl G 1 (.slice a n c) (l.map fun x => [Value.string x])) (hq : ∀ y ∈ l, Q y) (hm : n ≤ maxLen) (hg : l.length = n) : SlR Rep.str G a c l := slR_of h hq hm hg (fun _ _ => rfl)
/-- A slice of slices: each one's list. -/
theorem slSls {α : Type} {A : Rep α} {G : Hp} {f : α → List Value} {R : α → Prop} (hr : ∀ x, R x → A.r G (f x) x) {a : Option Addr} {n c : Nat} {l : List Value} (h : Sl G 1 (.slice a n c) (l.map fun x => [x]))
    (hq : ∀ v ∈ l, ∃ a n cap, ∃ m : List α, v = .slice a n cap ∧ Sl G A.sz (.slice a n cap) (m.map f) ∧ (∀ y ∈ m, R y) ∧ n ≤ maxLen ∧ m.length = n) (hm : n ≤ maxLen) (hg : l.length = n) :
    ∃ ls : List (List α), ls.length = n ∧ SlR (Rep.sl A) G a c ls ∧ ∀ x ∈ ls, (∀ y ∈ x, R y) ∧ x.length ≤ maxLen := by
  have key : ∀ l : List Value, (∀ v ∈ l, ∃ a n cap, ∃ m : List α, v = .slice a n cap ∧ Sl G A.sz (.slice a n cap) (m.map f) ∧ (∀ y ∈ m, R y) ∧ n ≤ maxLen ∧ m.length = n) →
      ∃ ls : List (List α), ls.length = l.length ∧ RL (Rep.sl A) G (l.map fun x => [x]) ls ∧ ∀ x ∈ ls, (∀ y ∈ x, R y) ∧ x.length ≤ maxLen := by
    intro l
    induction l with
    | nil => exact fun _ => ⟨[], rfl, ⟨rfl, fun i c x h1 => by simp at h1⟩, fun x hx => by cases hx⟩
    | cons v l ih =>
      intro hq
      obtain ⟨ls, h1, h2, h3⟩ := ih (fun v hv => hq v (List.mem_cons_of_mem _ hv))
      obtain ⟨a, n, cap, m, rfl, e1, e2, e3, e4⟩ := hq v (List.mem_cons_self ..)
      subst e4
      refine ⟨m :: ls, by simp [h1], ⟨by simp [h1], fun i c x g1 g2 => ?_⟩, fun x hx => ?_⟩
      · cases i with
        | zero =>
          simp at g1 g2
          subst g1 g2
          exact ⟨a, cap, rfl, slR_of e1 e2 e3 rfl hr⟩
        | succ i => exact h2.2 i c x (by simpa using g1) (by simpa using g2)
      · rcases List.mem_cons.1 hx with rfl | hx
        · exact ⟨e2, e3⟩
        · exact h3 x hx
  obtain ⟨ls, h1, h2, h3⟩ := key l hq
  refine ⟨ls, by omega, ⟨by rw [h1, hg]; exact hm, _, ?_, h2⟩, h3⟩
  rw [h1, hg]; exact h
end Go.Proofs.Ytbhmhindommaeaa
