/-
  s[l:h:m].
-/
import Derived.Test.YtbhmhindommaeaaK19
namespace Go.Proofs.Ytbhmhindommaeaa
open Go.RowKit

/-- s[l:h:m] of a slice with elements of sz cells. -/
def subV3 (v : Value) (l h m sz : Nat) : Value := match v with
  | .slice a _ _ => .slice (if m = l then a else a.map (·.add (l * sz))) (h - l) (m - l)
  | _ => undef

theorem Sl.sub3 {G : Hp} {sz : Nat} {v : Value} {xs : List (List Value)} (h : Sl G sz v xs) {l r m : Nat} (h1 : l ≤ r) (h2 : r ≤ m) (h3 : r ≤ xs.length) : Sl G sz (subV3 v l r m sz) ((xs.drop l).take (r - l)) := by
  obtain ⟨a, cap, rfl, hcap, hsz, hc⟩ := h
  have hlen : ((xs.drop l).take (r - l)).length = r - l := by simp; omega
  refine ⟨if m = l then a else a.map (·.add (l * sz)), m - l, by simp [subV3, hlen], by rw [hlen]; omega, fun x hx => hsz x (List.mem_of_mem_drop (List.mem_of_mem_take hx)), fun hne => ?_⟩
  have hml : l < r := by
    rcases Nat.lt_or_ge l r with h | h
    · exact h
    · exfalso; apply hne; rw [List.eq_nil_iff_length_eq_zero, hlen]; omega
  have hne' : xs ≠ [] := by rintro rfl; simp at h3; omega
  obtain ⟨b, o, rfl, hc'⟩ := hc hne'
  refine ⟨b, o + l * sz, ?_, fun i x hi j c hj => ?_⟩
  · rw [if_neg (by omega)]; simp [addr_add]
  · have hi' : xs[l + i]? = some x := by
      have : i < r - l := by
        rcases Nat.lt_or_ge i (r - l) with h | h
        · exact h
        · rw [List.getElem?_eq_none (by rw [hlen]; exact h)] at hi; cases hi
      rw [List.getElem?_take_of_lt this, List.getElem?_drop] at hi
      exact hi
    have := hc' (l + i) x hi' j c hj
    rwa [Nat.add_mul, ← Nat.add_assoc] at this
theorem Sl.msub3 {α : Type} {G : Hp} {sz : Nat} {v : Value} {l : List α} {f : α → List Value} (h : Sl G sz v (l.map f)) {a b m : Nat} (h1 : a ≤ b) (h2 : b ≤ m) (h3 : b ≤ l.length) : Sl G sz (subV3 v a b m sz) (((l.drop a).take (b - a)).map f) := by
  have := h.sub3 h1 h2 (by simpa using h3)
  simpa [List.map_drop, List.map_take] using this

theorem Sl.capm {α : Type} {G : Hp} {sz : Nat} {a : Option Addr} {n c : Nat} {l : List α} {f : α → List Value} (h : Sl G sz (.slice a n c) (l.map f)) : l.length ≤ c := by
  obtain ⟨a', c', hv, hc, _⟩ := h
  simp only [List.length_map, Value.slice.injEq] at hv hc
  omega
theorem Sl.lenm {α : Type} {G : Hp} {sz : Nat} {a : Option Addr} {n c : Nat} {l : List α} {f : α → List Value} (h : Sl G sz (.slice a n c) (l.map f)) : n = l.length := by
  obtain ⟨a', c', hv, hc, _⟩ := h
  simp only [List.length_map, Value.slice.injEq] at hv hc
  exact hv.2.1
section
variable {P : Program} {ρ : Env} {Fs : List Hp} {bl : Blks} {sl : List OwnS} {ty : TypeId}
theorem QOp.slice3 {sz : Nat} {len cap : Nat} {a : Option Addr} {t el : TypeId} {x lo hi mx : Operand} {k1 k2 k3 : IntKind} {l h m : Int} (hx : ev ρ x = some (.slice a len cap)) (hl : ev ρ lo = some (.int k1 l)) (hh : ev ρ hi = some (.int k2 h)) (hm : ev ρ mx = some (.int k3 m)) (ht : slOf P t = some el) (hz : szOf P el = some sz)
    (h0 : 0 ≤ l) (h1 : l ≤ h) (h2 : h ≤ m) (h3 : m ≤ (cap : Int)) : QOp P ρ Fs bl sl (.slice t x (some lo) (some hi) (some mx)) ty (subV3 (.slice a len cap) l.toNat h.toNat m.toNat sz) := .of fun e he w _ => by
  have hu := slOf_spec ht
  refine run_v (s := Instr.sliceAt t (e x) (some (e lo)) (some (e hi)) (some (e mx))) ?_
  rw [he x _ hx, he lo _ hl, he hi _ hh, he mx _ hm]
  unfold Instr.sliceAt
  rw [Sem.run_bind, run_underlying hu]
  simp only [Result.andThen_ok]
  unfold Instr.slice
  rw [Sem.run_bind, run_underlying hu]
  simp only [Result.andThen_ok]
  have hb : (Instr.sliceBounds true len cap (some (.int k1 l)) (some (.int k2 h)) (some (.int k3 m))).run P w = .ok (l.toNat, h.toNat, m.toNat) w := by
    unfold Instr.sliceBounds
    have e1 : 0 ≤ m := by omega
    have e2 : 0 ≤ h := by omega
    have e3 : h ≤ ((m.toNat : Nat) : Int) := by omega
    have e4 : l ≤ ((h.toNat : Nat) : Int) := by omega
    have e5 : h ≤ max m 0 := by omega
    have e6 : l ≤ max h 0 := by omega
    simp [Instr.sliceBound, asIntOf, h0, h3, e1, e2, e5, e6]
  rw [Sem.run_bind, hb]
  simp only [Result.andThen_ok]
  rw [Sem.run_bind, run_sizeOf hz]
  rfl
end
end Go.Proofs.Ytbhmhindommaeaa
