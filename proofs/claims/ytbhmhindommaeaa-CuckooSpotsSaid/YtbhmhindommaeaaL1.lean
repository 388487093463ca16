/-
  How plain values lie in memory (Rep); slices that read (SlR), slices of one's own (OL); the rules of the walk in these words.
-/
import Derived.Test.YtbhmhindommaeaaK20
import Derived.Test.YtbhmhindommaeaaP1
namespace Go.Proofs.Ytbhmhindommaeaa
open Go.RowKit

def HpLe (G G' : Hp) : Prop := ∀ b o, G b = some o → G' b = some o
theorem HpLe.refl (G : Hp) : HpLe G G := fun _ _ h => h
theorem HpLe.trans {A B C : Hp} (h : HpLe A B) (k : HpLe B C) : HpLe A C := fun b o x => k b o (h b o x)

theorem Rp.mono {G G' : Hp} {p : Value} {cs : List Value} (hg : HpLe G G') (h : Rp G p cs) : Rp G' p cs := by
  obtain ⟨b, o, rfl, h⟩ := h
  refine ⟨b, o, rfl, fun j c hj => ?_⟩
  have := h j c hj
  unfold rcell at this ⊢
  cases hgb : G b with
  | none => rw [hgb] at this; cases this
  | some ob => rw [hgb] at this; rw [hg b ob hgb]; exact this

/-- How values of a type lie in cells. -/
structure Rep (α : Type) where
  sz : Nat
  r : Hp → List Value → α → Prop
  len : ∀ {G : Hp} {c : List Value} {x : α}, r G c x → c.length = sz
  mono : ∀ {G G' : Hp} {c : List Value} {x : α}, HpLe G G' → r G c x → r G' c x
  one : ∀ {G : Hp} {c : List Value} {x : α}, r G c x → c.all (·.oneCell') = true

/-- xs are the cells of l's elements. -/
def RL {α : Type} (R : Rep α) (G : Hp) (xs : List (List Value)) (l : List α) : Prop := xs.length = l.length ∧ ∀ (i : Nat) (c : List Value) (x : α), xs[i]? = some c → l[i]? = some x → R.r G c x

/-- A slice that reads as l. -/
def SlR {α : Type} (R : Rep α) (G : Hp) (a : Option Addr) (k : Nat) (l : List α) : Prop :=
  l.length ≤ 9223372036854775807 ∧ ∃ xs, Sl G R.sz (.slice a l.length k) xs ∧ RL R G xs l

/-- The cells of a slice of one's own. -/
def OL {α : Type} (R : Rep α) (G : Hp) (cs : List Value) (l : List α) : Prop :=
  l.length ≤ 16777216 ∧ ∃ xs : List (List Value), cs = xs.flatten ∧ (∀ x ∈ xs, x.length = R.sz) ∧ RL R G xs l

theorem RL.mono {α : Type} {R : Rep α} {G G' : Hp} {xs : List (List Value)} {l : List α} (hg : HpLe G G') (h : RL R G xs l) : RL R G' xs l := ⟨h.1, fun i c x h1 h2 => R.mono hg (h.2 i c x h1 h2)⟩
theorem SlR.mono {α : Type} {R : Rep α} {G G' : Hp} {a : Option Addr} {k : Nat} {l : List α} (hg : HpLe G G') (h : SlR R G a k l) : SlR R G' a k l := by
  obtain ⟨hb, xs, h1, h2⟩ := h
  exact ⟨hb, xs, h1.mono hg, h2.mono hg⟩
theorem OL.mono {α : Type} {R : Rep α} {G G' : Hp} {cs : List Value} {l : List α} (hg : HpLe G G') (h : OL R G cs l) : OL R G' cs l := by
  obtain ⟨hb, xs, h1, h3, h2⟩ := h
  exact ⟨hb, xs, h1, h3, h2.mono hg⟩

def Rep.int (k : IntKind) : Rep Int where
  sz := 1
  r _ c x := c = [.int k x]
  len h := by rw [h]; rfl
  mono _ h := h
  one h := by rw [h]; rfl
def Rep.bool : Rep Bool where
  sz := 1
  r _ c x := c = [.bool x]
  len h := by rw [h]; rfl
  mono _ h := h
  one h := by rw [h]; rfl
def Rep.str : Rep ByteArray where
  sz := 1
  r _ c x := c = [.string x]
  len h := by rw [h]; rfl
  mono _ h := h
  one h := by rw [h]; rfl
def Rep.sl {α : Type} (R : Rep α) : Rep (List α) where
  sz := 1
  r G c l := ∃ a k, c = [.slice a l.length k] ∧ SlR R G a k l
  len h := by obtain ⟨_, _, h, _⟩ := h; rw [h]; rfl
  mono hg h := by obtain ⟨a, k, h, h2⟩ := h; exact ⟨a, k, h, h2.mono hg⟩
  one h := by obtain ⟨_, _, h, _⟩ := h; rw [h]; rfl
def Rep.pair {α β : Type} (R : Rep α) (S : Rep β) : Rep (α × β) where
  sz := R.sz + S.sz
  r G c x := ∃ c1 c2, c = c1 ++ c2 ∧ R.r G c1 x.1 ∧ S.r G c2 x.2
  len h := by obtain ⟨_, _, h, h1, h2⟩ := h; rw [h, List.length_append, R.len h1, S.len h2]
  mono hg h := by obtain ⟨c1, c2, h, h1, h2⟩ := h; exact ⟨c1, c2, h, R.mono hg h1, S.mono hg h2⟩
  one h := by obtain ⟨_, _, h, h1, h2⟩ := h; rw [h, List.all_append, R.one h1, S.one h2]; rfl

section
variable {α : Type} {Rp' : Rep α} {G : Hp} {a : Option Addr} {k : Nat} {l : List α}

theorem SlR.nil : SlR Rp' G none 0 ([] : List α) := ⟨by simp, [], Sl.nil G _, rfl, fun i c x h => by simp at h⟩
theorem OL.nil : OL Rp' G [] ([] : List α) := ⟨by simp, [], rfl, by simp, rfl, fun i c x h => by simp at h⟩
theorem OL.cons {c cs : List Value} {x : α} (hb : Nat.ble l.length 16777215 = true) (h : Rp'.r G c x) (ht : OL Rp' G cs l) : OL Rp' G (c ++ cs) (x :: l) := by
  obtain ⟨_, xs, rfl, h3, h4, h5⟩ := ht
  have hb' : l.length ≤ 16777215 := by simpa [Nat.ble_eq] using hb
  refine ⟨by simp only [List.length_cons]; omega, c :: xs, rfl, fun y hy => ?_, by simp [h4], fun i c' x' h1 h2 => ?_⟩
  · rcases List.mem_cons.1 hy with rfl | hy
    · exact Rp'.len h
    · exact h3 y hy
  · cases i with
    | zero => simp at h1 h2; subst h1 h2; exact h
    | succ i => exact h5 i c' x' (by simpa using h1) (by simpa using h2)

theorem SlR.len (h : SlR Rp' G a k l) : l.length ≤ 9223372036854775807 := h.1

theorem OL.len' {cs : List Value} (h : OL Rp' G cs l) : l.length ≤ 9223372036854775807 := by have := h.1; omega

/-- An element. -/
theorem SlR.get (h : SlR Rp' G a k l) {i : Int} {x : α} (hx : lidx l i = some x) : ∃ c, Rp G (elemPtr (.slice a l.length k) i.toNat Rp'.sz) c ∧ Rp'.r G c x := by
  obtain ⟨_, xs, h1, h2⟩ := h
  obtain ⟨h3, h4, h5⟩ := lidx_some hx
  have hlt : i.toNat < xs.length := by rw [h2.1]; omega
  exact ⟨xs[i.toNat], h1.elem (List.getElem?_eq_getElem hlt), h2.2 _ _ _ (List.getElem?_eq_getElem hlt) h5⟩

theorem SlR.sub (h : SlR Rp' G a k l) {i j : Int} {m : List α} (hm : lsub l i j = some m) : ∃ a' k', subV (.slice a l.length k) i.toNat j.toNat Rp'.sz = .slice a' m.length k' ∧ SlR Rp' G a' k' m := by
  obtain ⟨hb, xs, h1, h2, h3⟩ := h
  obtain ⟨i0, ij, jl, rfl⟩ := lsub_some hm
  have hs := h1.sub (l := i.toNat) (m := j.toNat) (by omega) (by rw [h2]; omega)
  have hn : j.toNat - i.toNat = (j - i).toNat := by omega
  obtain ⟨a', k', hv, rest⟩ := hs
  have hl : ((xs.drop i.toNat).take (j.toNat - i.toNat)).length = ((l.drop i.toNat).take (j - i).toNat).length := by simp only [List.length_take, List.length_drop]; omega
  rw [hl] at hv rest
  refine ⟨a', k', hv, by simp only [List.length_take, List.length_drop]; omega, _, ⟨a', k', by rw [hl], by rw [hl]; exact rest.1, rest.2⟩, hl, fun q c x hc hx => ?_⟩
  rw [hn] at hc
  have hq : q < (j - i).toNat := by
    rcases Nat.lt_or_ge q (j - i).toNat with h | h
    · exact h
    · rw [List.getElem?_take_eq_none h] at hx; cases hx
  rw [List.getElem?_take_of_lt hq, List.getElem?_drop] at hc hx
  exact h3 _ _ _ hc hx

/-- An element's cells among a slice's. -/
def Elem (sz : Nat) (cs : List Value) (n : Nat) (c : List Value) : Prop := c.length = sz ∧ ∀ (j : Nat) (v : Value), c[j]? = some v → cs[n * sz + j]? = some v

theorem OL.get {cs : List Value} (h : OL Rp' G cs l) {i : Int} {x : α} (hx : lidx l i = some x) : ∃ c, Elem Rp'.sz cs i.toNat c ∧ Rp'.r G c x := by
  obtain ⟨_, xs, rfl, h3, h2⟩ := h
  obtain ⟨h4, h5, h6⟩ := lidx_some hx
  have hlt : i.toNat < xs.length := by rw [h2.1]; omega
  refine ⟨xs[i.toNat], ⟨h3 _ (List.getElem_mem hlt), fun j v hv => ?_⟩, h2.2 _ _ _ (List.getElem?_eq_getElem hlt) h6⟩
  exact get_flatten xs _ _ j v h3 (List.getElem?_eq_getElem hlt) hv
end
end Go.Proofs.Ytbhmhindommaeaa
