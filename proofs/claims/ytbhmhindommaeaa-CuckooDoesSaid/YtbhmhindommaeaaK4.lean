/-
  The symbolic state: what is known of the temporaries (ρ), of memory that nobody writes any more (Fs), of the call's own blocks (bl) and of its own slices (sl).
-/
import Derived.Test.YtbhmhindommaeaaK3
import Derived.Laws.AppendOwn
namespace Go.Proofs.Ytbhmhindommaeaa

abbrev Hp := Nat → Option Obj
abbrev Env := List (Nat × Value)
abbrev Blks := List (Nat × Obj)

/-- What the call owns beside its blocks: a slice (nil, or the head of a block of its own; n elements of sz cells each; cs: the cells of its elements), or something of which is known only: its blocks, and what it says. -/
structure Guest where
  blks : List Nat
  nodup : blks.Nodup
  holds : World → Prop
  lt : ∀ w, holds w → ∀ b ∈ blks, b < w.heap.size
  same : ∀ w w', holds w → (∀ b ∈ blks, w'.heap[b]? = w.heap[b]?) → holds w'

inductive OwnS where
  | s (v : Value) (T : TypeId) (sz n : Nat) (cs : List Value)
  | g (R : Guest)

def HpIn (G : Hp) (w : World) : Prop := ∀ b o, G b = some o → w.heap[b]? = some o

def OwnS.holds : OwnS → World → Prop
  | .s v T sz n cs, w => w.ownsRow 0 T sz v n cs
  | .g R, w => R.holds w
def OwnS.blocks : OwnS → List Nat
  | .s v _ _ _ _ => v.ownBlock.toList
  | .g R => R.blks

theorem own_lt {w : World} {b : Nat} {o : Obj} (h : w.heap[b]? = some o) : b < w.heap.size := (Array.getElem?_eq_some_iff.1 h).1

theorem ownsRow_block {w : World} {T sz n : Nat} {v : Value} {cs : List Value} (h : w.ownsRow 0 T sz v n cs) {b : Nat} (hb : v.ownBlock = some b) : ∃ cur, w.heap[b]? = some (.cells cur T (0, 0)) := by
  rcases h.2 with ⟨rfl, _⟩ | ⟨g, cap, cur, rfl, _, hg, _⟩
  · simp [Value.ownBlock] at hb
  · simp only [Value.ownBlock, Option.some.injEq] at hb
    subst hb
    exact ⟨cur, hg⟩

theorem ownsRow_same {w w' : World} {T sz n : Nat} {v : Value} {cs : List Value} (h : w.ownsRow 0 T sz v n cs) (hb : ∀ b, v.ownBlock = some b → w'.heap[b]? = w.heap[b]?) : w'.ownsRow 0 T sz v n cs := by
  refine ⟨h.1, ?_⟩
  rcases h.2 with h | ⟨g, cap, cur, rfl, h1, hg, r⟩
  · exact .inl h
  · exact .inr ⟨g, cap, cur, rfl, h1, by rw [hb g rfl]; exact hg, r⟩

theorem OwnS.same {w w' : World} {s : OwnS} (h : s.holds w) (hb : ∀ b ∈ s.blocks, w'.heap[b]? = w.heap[b]?) : s.holds w' := by
  cases s with
  | s v T sz n cs => exact ownsRow_same h fun b hv => hb b (by simp [OwnS.blocks, hv])
  | g R => exact R.same _ _ h hb
theorem OwnS.lt {w : World} {s : OwnS} (h : s.holds w) : ∀ b ∈ s.blocks, b < w.heap.size := by
  cases s with
  | s v T sz n cs =>
    intro b hb
    simp only [OwnS.blocks, Option.mem_toList] at hb
    obtain ⟨cur, hc⟩ := ownsRow_block h hb
    exact own_lt hc
  | g R => exact R.lt _ h

structure Mem (Fs : List Hp) (bl : Blks) (sl : List OwnS) (w : World) : Prop where
  fs : ∀ G ∈ Fs, HpIn G w
  own : ∀ p ∈ bl, w.heap[p.1]? = some p.2
  slh : ∀ s ∈ sl, s.holds w

/-- Of what was there at w0 only the blocks of S have turned. -/
structure Keep (w0 : World) (S : List Nat) (w : World) : Prop where
  os : w.os = w0.os
  tape : w.tape = w0.tape
  output : w.output = w0.output
  size : w0.heap.size ≤ w.heap.size
  block : ∀ b, b < w0.heap.size → b ∉ S → w.heap[b]? = w0.heap[b]?

theorem Keep.refl (w : World) (S : List Nat) : Keep w S w := ⟨rfl, rfl, rfl, Nat.le_refl _, fun _ _ _ => rfl⟩

def blks (bl : Blks) (sl : List OwnS) : List Nat := bl.map (·.1) ++ sl.flatMap OwnS.blocks

structure Inv (w0 : World) (S0 : List Nat) (Fs : List Hp) (bl : Blks) (sl : List OwnS) (w : World) : Prop where
  mem : Mem Fs bl sl w
  keep : Keep w0 S0 w
  nodup : (blks bl sl).Nodup
  mine : ∀ b ∈ blks bl sl, b ∈ S0 ∨ w0.heap.size ≤ b
  apart : ∀ b ∈ blks bl sl, ∀ G ∈ Fs, G b = none

def Fits (nt : Nat) (df : List Deferred) (ρ : Env) (a : Act) : Prop :=
  a.defers = df ∧ a.tmps.size = nt ∧ ∀ t v, ρ.lookup t = some v → a.tmps[t]? = some v

/-- In every state of this kind: K. -/
def Cov (nt : Nat) (w0 : World) (S0 : List Nat) (df : List Deferred) (ρ : Env) (Fs : List Hp) (bl : Blks) (sl : List OwnS) (K : Act → World → Prop) : Prop :=
  ∀ a w, Fits nt df ρ a → Inv w0 S0 Fs bl sl w → K a w

def ev (ρ : Env) : Operand → Option Value
  | .tmp t => ρ.lookup t
  | .const v => some v
  | .global g => some (.pointer (some ⟨g, 0, none⟩))
  | .func f => some (.func (.func f) #[] #[])

theorem ev_sound {nt : Nat} {df : List Deferred} {ρ : Env} {a : Act} (h : Fits nt df ρ a) {x : Operand} {v : Value} (hx : ev ρ x = some v) : a.eval x = v := by
  cases x with
  | tmp t =>
    have := h.2.2 t v hx
    simp [Act.eval, Array.getD_eq_getD_getElem?, this]
  | const u => simpa [ev, Act.eval] using hx
  | global g => simpa [ev, Act.eval] using hx
  | func f => simpa [ev, Act.eval] using hx

theorem Fits.put {nt : Nat} {df : List Deferred} {ρ : Env} {a : Act} (h : Fits nt df ρ a) {d : Nat} (hd : Nat.blt d nt = true) (v : Value) : Fits nt df ((d, v) :: ρ) (a.put (some d) v) := by
  obtain ⟨h1, h2, h3⟩ := h
  have hd' : d < nt := by simpa [Nat.blt_eq] using hd
  refine ⟨h1, by simpa [Act.put] using h2, fun t u ht => ?_⟩
  simp only [List.lookup] at ht
  by_cases e : t = d
  · subst e
    simp only [beq_self_eq_true] at ht
    cases ht
    simp [Act.put, h2, hd']
  · have e' : (t == d) = false := by simpa using e
    simp only [e'] at ht
    have := h3 t u ht
    simp only [Act.put]
    rw [Array.getElem?_setIfInBounds_ne (fun h => e h.symm)]
    exact this

theorem Fits.put_none {nt : Nat} {df : List Deferred} {ρ : Env} {a : Act} (h : Fits nt df ρ a) (v : Value) : Fits nt df ρ (a.put none v) := h

theorem Fits.sub {nt : Nat} {df : List Deferred} {ρ ρ' : Env} {a : Act} (h : Fits nt df ρ a) (hs : ∀ t v, ρ'.lookup t = some v → ρ.lookup t = some v) : Fits nt df ρ' a :=
  ⟨h.1, h.2.1, fun t v ht => h.2.2 t v (hs t v ht)⟩

/-- ρ' says nothing that ρ does not say. -/
def Sub (ρ : Env) : Env → Prop
  | [] => True
  | (t, v) :: r => ρ.lookup t = some v ∧ Sub ρ r

theorem Sub.spec {ρ : Env} : ∀ {ρ' : Env}, Sub ρ ρ' → ∀ t v, ρ'.lookup t = some v → ρ.lookup t = some v
  | [], _, t, v, h => by simp at h
  | (s, u) :: r, ⟨h1, h2⟩, t, v, h => by
    simp only [List.lookup] at h
    by_cases e : t = s
    · subst e; simp only [beq_self_eq_true] at h; cases h; exact h1
    · have e' : (t == s) = false := by simpa using e
      simp only [e'] at h
      exact Sub.spec h2 t v h

section
variable {P : Program} {c : Cx} {R : Value → World → Prop} {nt : Nat} {w0 : World} {S0 : List Nat} {df : List Deferred} {ρ ρ' : Env} {Fs Fs' : List Hp} {bl bl' : Blks} {sl sl' : List OwnS}
  {K K' : Act → World → Prop} {k : List Item}

theorem Cov.mono (h : Cov nt w0 S0 df ρ Fs bl sl K) (hk : ∀ a w, K a w → K' a w) : Cov nt w0 S0 df ρ Fs bl sl K' := fun a w hf hi => hk _ _ (h a w hf hi)

/-- Forget temporaries. -/
theorem Cov.prune (ρ' : Env) (hs : Sub ρ ρ') (h : Cov nt w0 S0 df ρ' Fs bl sl K) : Cov nt w0 S0 df ρ Fs bl sl K :=
  fun a w hf hi => h a w (hf.sub hs.spec) hi

/-- Write the state otherwise. -/
theorem Cov.same (h1 : bl = bl') (h2 : sl = sl') (h3 : Fs = Fs') (h : Cov nt w0 S0 df ρ Fs' bl' sl' K) : Cov nt w0 S0 df ρ Fs bl sl K := by
  subst h1 h2 h3; exact h

theorem Cov.skip (h : Cov nt w0 S0 df ρ Fs bl sl (Run P c R k)) : Cov nt w0 S0 df ρ Fs bl sl (Run P c R (.code .skip :: k)) := h.mono fun _ _ => Run.skip
theorem Cov.inBlock {id : Nat} (h : Cov nt w0 S0 df ρ Fs bl sl (Run P c R k)) : Cov nt w0 S0 df ρ Fs bl sl (Run P c R (.inBlock id :: k)) := h.mono fun _ _ => Run.inBlock
theorem Cov.inScope {b : Code} (h : Cov nt w0 S0 df ρ Fs bl sl (Run P c R k)) : Cov nt w0 S0 df ρ Fs bl sl (Run P c R (.inScope b :: k)) := h.mono fun _ _ => Run.inScope
theorem Cov.label {l : Nat} (h : Cov nt w0 S0 df ρ Fs bl sl (Run P c R k)) : Cov nt w0 S0 df ρ Fs bl sl (Run P c R (.code (.label l) :: k)) := h.mono fun _ _ => Run.label
theorem Cov.seq {x y : Code} (h : Cov nt w0 S0 df ρ Fs bl sl (Run P c R (.code x :: .code y :: k))) : Cov nt w0 S0 df ρ Fs bl sl (Run P c R (.code (.seq x y) :: k)) := h.mono fun _ _ => Run.seq
theorem Cov.block {id : Nat} {x : Code} (h : Cov nt w0 S0 df ρ Fs bl sl (Run P c R (.code x :: .inBlock id :: k))) : Cov nt w0 S0 df ρ Fs bl sl (Run P c R (.code (.block id x) :: k)) := h.mono fun _ _ => Run.block
theorem Cov.scope {x : Code} (h : Cov nt w0 S0 df ρ Fs bl sl (Run P c R (.code x :: .inScope x :: k))) : Cov nt w0 S0 df ρ Fs bl sl (Run P c R (.code (.scope x) :: k)) := h.mono fun _ _ => Run.scope
theorem Cov.exit {id : Nat} {k' : List Item} (hk : exitTo id k = some k') (h : Cov nt w0 S0 df ρ Fs bl sl (Run P c R k')) : Cov nt w0 S0 df ρ Fs bl sl (Run P c R (.code (.exit id) :: k)) := h.mono fun _ _ => Run.exit hk
theorem Cov.goto {l : Nat} {k' : List Item} (hk : gotoIn l k = some k') (h : Cov nt w0 S0 df ρ Fs bl sl (Run P c R k')) : Cov nt w0 S0 df ρ Fs bl sl (Run P c R (.code (.goto l) :: k)) := h.mono fun _ _ => Run.goto hk

/-- A test: both ways. -/
theorem Cov.cond {x y : Code} {o : Operand} {t : Bool} (hc : ev ρ o = some (.bool t)) (ht : t = true → Cov nt w0 S0 df ρ Fs bl sl (Run P c R (.code x :: k))) (hf : t = false → Cov nt w0 S0 df ρ Fs bl sl (Run P c R (.code y :: k))) :
    Cov nt w0 S0 df ρ Fs bl sl (Run P c R (.code (.cond o x y) :: k)) := fun a w hfi hi => by
  refine Run.cond (ev_sound hfi hc) ?_
  cases t
  · exact hf rfl a w hfi hi
  · exact ht rfl a w hfi hi

theorem Cov.cond_dec {x y : Code} {o : Operand} {p : Prop} [Decidable p] (hc : ev ρ o = some (.bool (decide p))) (ht : p → Cov nt w0 S0 df ρ Fs bl sl (Run P c R (.code x :: k))) (hf : ¬ p → Cov nt w0 S0 df ρ Fs bl sl (Run P c R (.code y :: k))) :
    Cov nt w0 S0 df ρ Fs bl sl (Run P c R (.code (.cond o x y) :: k)) :=
  Cov.cond hc (fun h => ht (of_decide_eq_true h)) (fun h => hf (of_decide_eq_false h))

theorem Cov.cond_true {x y : Code} {o : Operand} (hc : ev ρ o = some (.bool true)) (ht : Cov nt w0 S0 df ρ Fs bl sl (Run P c R (.code x :: k))) :
    Cov nt w0 S0 df ρ Fs bl sl (Run P c R (.code (.cond o x y) :: k)) := Cov.cond hc (fun _ => ht) (fun h => by cases h)
theorem Cov.cond_false {x y : Code} {o : Operand} (hc : ev ρ o = some (.bool false)) (hf : Cov nt w0 S0 df ρ Fs bl sl (Run P c R (.code y :: k))) :
    Cov nt w0 S0 df ρ Fs bl sl (Run P c R (.code (.cond o x y) :: k)) := Cov.cond hc (fun h => by cases h) (fun _ => hf)

/-- A temporary that holds a bool is one of both. -/
theorem Cov.split (t : Nat) {p : Prop} [Decidable p] (hc : ρ.lookup t = some (.bool (decide p))) (ht : p → Cov nt w0 S0 df ((t, .bool true) :: ρ) Fs bl sl K) (hf : ¬ p → Cov nt w0 S0 df ((t, .bool false) :: ρ) Fs bl sl K) :
    Cov nt w0 S0 df ρ Fs bl sl K := fun a w hfi hi => by
  have key : ∀ b : Bool, decide p = b → Fits nt df ((t, .bool b) :: ρ) a := fun b hb => by
    refine ⟨hfi.1, hfi.2.1, fun s v hs => ?_⟩
    simp only [List.lookup] at hs
    by_cases e : s = t
    · subst e; simp only [beq_self_eq_true] at hs; cases hs; rw [← hb]; exact hfi.2.2 _ _ hc
    · have e' : (s == t) = false := by simpa using e
      simp only [e'] at hs
      exact hfi.2.2 _ _ hs
  by_cases hp : p
  · exact ht hp a w (key true (by simpa using hp)) hi
  · exact hf hp a w (key false (by simpa using hp)) hi

theorem Cov.split_b (t : Nat) {b : Bool} (hc : ρ.lookup t = some (.bool b)) (ht : b = true → Cov nt w0 S0 df ((t, .bool true) :: ρ) Fs bl sl K) (hf : b = false → Cov nt w0 S0 df ((t, .bool false) :: ρ) Fs bl sl K) :
    Cov nt w0 S0 df ρ Fs bl sl K :=
  Cov.split t (p := b = true) (by simpa using hc) ht (fun h => hf (by simpa using h))

/-- A loop: x is what a round starts from. -/
theorem Cov.loop {α : Type} (ρI : α → Env) (FsI : α → List Hp) (blI : α → Blks) (slI : α → List OwnS) (I : α → Prop) (μ : α → Nat) {x : Code}
    (round : ∀ y, I y → (∀ z, I z → μ z < μ y → Cov nt w0 S0 df (ρI z) (FsI z) (blI z) (slI z) (Run P c R (.inLoop x :: k))) →
      Cov nt w0 S0 df (ρI y) (FsI y) (blI y) (slI y) (Run P c R (.code x :: .inLoop x :: k)))
    (y : α) (hy : I y) : Cov nt w0 S0 df (ρI y) (FsI y) (blI y) (slI y) (Run P c R (.code (.loop x) :: k)) := by
  have key : ∀ n y, μ y = n → I y → Cov nt w0 S0 df (ρI y) (FsI y) (blI y) (slI y) (Run P c R (.code x :: .inLoop x :: k)) := by
    intro n
    induction n using Nat.strongRecOn with
    | _ n ih =>
      intro y hn hy
      exact round y hy fun z hz hlt => (ih (μ z) (hn ▸ hlt) z rfl hz).mono fun _ _ => Run.inLoop
  exact (key _ y rfl hy).mono fun _ _ => Run.loop
end
end Go.Proofs.Ytbhmhindommaeaa
