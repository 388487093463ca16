/-
  Loops over functions: what an iterator owes (Iter), how it yields, how its caller goes through it.
-/
import Derived.Test.YtbhmhindommaeaaK16
import Derived.RangeFuncIn
import Derived.RangeFuncRecord
import Derived.RangeFuncLeaves
namespace Go.Proofs.Ytbhmhindommaeaa
open Go.RowKit

/-- y, called on the i-th of xs where 𝒢 i holds, says true, and 𝒢 (i + 1) holds. -/
def Yields (P : Program) (y : Value) (N : Nat) (V : Nat → List Value → Prop) (Fs : List Hp) (𝒢 : Nat → Guest → Prop) : Prop :=
  ∃ l, y = .func (.yield l) #[] #[] ∧ ∀ (i : Nat) (v : List Value), V i v → ∀ R, 𝒢 i R → ∀ w, (∀ G ∈ Fs, HpIn G w) → R.holds w →
    ∃ f tmps as body, (Instr.yield l v.toArray).run P w = .ok (.round l f tmps as body) w ∧
      RoundV P l f tmps as body w fun r w' => r = .bool true ∧ ∃ R', 𝒢 (i + 1) R' ∧ R'.holds w' ∧ Keep w R.blks w' ∧ ∀ b ∈ R'.blks, b ∈ R.blks ∨ w.heap.size ≤ b

/-- A range function that goes through xs. -/
def Iter (P : Program) (f : FuncId) (cap : List Value) (Fs : List Hp) (N : Nat) (V : Nat → List Value → Prop) : Prop :=
  ∀ (y : Value) (𝒢 : Nat → Guest → Prop) (R0 : Guest), Yields P y N V Fs 𝒢 → 𝒢 0 R0 → RetG P f (y :: cap).toArray Fs [] [.g R0] fun _ _ bl sl => bl = [] ∧ ∃ R, 𝒢 N R ∧ sl = [.g R]

section
variable {P : Program} {c : Cx} {R0 : Value → World → Prop} {nt : Nat} {w0 : World} {S0 : List Nat} {df : List Deferred} {ρ ρ' : Env} {Fs Fs' Fin : List Hp} {bl bl' bls : Blks} {sl sl' sls : List OwnS}
  {K K' : Act → World → Prop} {k : List Item} {ty : TypeId}

/-- The iterator yields. -/
theorem Cov.yield {y : Value} {N : Nat} {V : Nat → List Value → Prop} {F0 : List Hp} {𝒢 : Nat → Guest → Prop} {i : Nat} {R : Guest} {v : List Value} {d : Nat} {fop : Operand} {args : Array Operand} {ts : Array TypeId} {os : List OpX}
    (hy : Yields P y N V F0 𝒢) (hi : V i v) (hR : 𝒢 i R) (hF : ∀ G ∈ F0, G ∈ Fs) (hf : ev ρ fop = some y) (ha : args.toList.map (ev ρ) = v.map some) (hd : Nat.blt d nt = true)
    (hk : ∀ R', 𝒢 (i + 1) R' → Cov nt w0 S0 df ((d, .bool true) :: ρ) Fs bl (.g R' :: sl) (RO P c R0 os k)) :
    Cov nt w0 S0 df ρ Fs bl (.g R :: sl) (RO P c R0 (⟨some d, .call ⟨.value fop, args, ts⟩, ty, none⟩ :: os) k) := fun a w hfi hinv => by
  simp only [RO, wantedT, if_true]
  refine .inr ?_
  obtain ⟨l, rfl, hy⟩ := hy
  obtain ⟨f, tmps, as, body, hr, hround⟩ := hy i v hi R hR w (fun G hG => hinv.mem.fs G (hF G hG)) (hinv.mem.slh _ List.mem_cons_self)
  have key : ∀ (l : List Operand) (vl : List Value), l.map (ev ρ) = vl.map some → l.map a.eval = vl := by
    intro l
    induction l with
    | nil => intro vl h; cases vl <;> simp at h ⊢
    | cons x l ih =>
      intro vl h
      cases vl with
      | nil => simp at h
      | cons v vl =>
        simp only [List.map_cons, List.cons.injEq] at h
        simp only [List.map_cons, ev_sound hfi h.1, ih vl h.2]
  have h1 : args.map a.eval = v.toArray := by rw [← Array.toList_inj]; simpa using key _ _ ha
  refine ⟨l, f, tmps, as, body, w, ?_, ?_⟩
  · simp only [OpX.oper, execOp, resolve, h1, ev_sound hfi hf, Deferred.ofValue]
    simp only [Sem.run_bind, Sem.run_pure, Result.andThen_ok, invoke]
    simpa using hr
  · intro cl cs
    obtain ⟨r, w', ⟨rfl, R', h2, h3, h4, h5⟩, hs⟩ := hround cl cs
    refine ⟨.bool true, w', ?_, hs⟩
    exact hk R' h2 _ w' (hfi.put hd _) (hinv.set_s 0 (s := .g R) (s' := .g R') rfl h4 h3 R'.nodup h5)

/-- A loop object. -/
def loopObj (st : LoopState) (f : FuncId) (tmps : Array Value) (ps : Array Tmp) (as body : Code) (defers : Nat) : Obj := .loop { state := st, pending := none, fn := f, tmps := tmps, params := ps, assign := as, body := body, defers := defers }

theorem Keep.putObj (w : World) (l : Nat) (o : Obj) : Keep w [l] (w.putObj l o) :=
  ⟨rfl, rfl, rfl, by simp [World.putObj], fun b _ hD => World.putObj_heap_other (by simpa using hD)⟩

theorem fr_atR (c : Cx) (a0 a : Act) (i0 items : List Item) : (c.fr a0 i0).atR a items = c.fr a items := rfl

/-- A round begins. -/
theorem Cov.beginRound {l : Nat} {f : FuncId} {tmps : Array Value} {ps : Array Tmp} {as body : Code} {D : Nat} (j : Nat) (hro : c.ro = some l) (hb : bl[j]? = some (l, loopObj .ready f tmps ps as body D)) (bl' : Blks) (hbl : bl.set j (l, loopObj .busy f tmps ps as body D) = bl')
    (h : Cov nt w0 S0 df ρ Fs bl' sl (Run P c R0 k)) : Cov nt w0 S0 df ρ Fs bl sl (Run P c R0 (.beginRound :: k)) := fun a w hf hi => by
  subst hbl
  have hl := hi.mem.own _ (List.mem_of_getElem? hb)
  have hr := run_beginRound (P := P) (w := w) (l := l) hl rfl
  have hst : ∀ cs, step P (lone (c.fr a (.beginRound :: k)) cs w) = .next (lone (c.fr a k) cs _) := fun cs => by
    have := stepR_beginRound (P := P) (b := c.fr a []) (a := a) (k := k) (cs := cs) (w := w) hro hr
    simpa only [fr_atR] using this
  refine Run.step hst ?_
  exact h a _ hf (hi.set j hb (Keep.putObj w l _) (World.putObj_heap_same (own_lt hl)))

/-- What a round leaves. -/
def RoundR {α : Type} (FsD : α → List Hp) (blD : α → Blks) (slD : α → List OwnS) (FsS FinR : List Hp) (I1 : α → Prop) (l : Nat) (lo : Obj) (w1 : World) (S1 : List Nat) (r : Value) (w' : World) : Prop :=
  r = .bool true ∧ ∃ x', I1 x' ∧ (∀ G ∈ FsD x', Bd w1 S1 FinR G) ∧ Inv w1 S1 (FsD x' ++ FsS) (blD x' ++ [(l, lo)]) (slD x') w'

/-- A round ends. -/
theorem Cov.round_end {α : Type} {FsD : α → List Hp} {blD : α → Blks} {slD : α → List OwnS} {FsS FinR : List Hp} {I1 : α → Prop} {l : Nat} {f : FuncId} {tmps : Array Value} {ps : Array Tmp} {as body : Code} {D : Nat} (x' : α) (j : Nat) (hro : c.ro = some l) (hb : bl[j]? = some (l, loopObj .busy f tmps ps as body D)) (hI : I1 x')
    (hbl : bl.set j (l, loopObj .ready f tmps ps as body D) = blD x' ++ [(l, loopObj .ready f tmps ps as body D)]) (hsl : sl = slD x') (hFs : ∀ G ∈ FsD x' ++ FsS, G ∈ Fs) (hbd : ∀ G ∈ FsD x', Bd w0 S0 FinR G) :
    Cov nt w0 S0 [] ρ Fs bl sl (Run P c (RoundR FsD blD slD FsS FinR I1 l (loopObj .ready f tmps ps as body D) w0 S0) []) := fun a w hf hi => by
  subst hsl
  have hl := hi.mem.own _ (List.mem_of_getElem? hb)
  have hr := run_endRound (P := P) (w := w) (l := l) none hl
  have hi2 := hi.set j hb (Keep.putObj w l (loopObj .ready f tmps ps as body D)) (World.putObj_heap_same (own_lt hl))
  rw [hbl] at hi2
  have hi3 := hi2.change (Fs' := FsD x' ++ FsS) (bl' := blD x' ++ [(l, loopObj .ready f tmps ps as body D)]) (sl' := slD x') [] (by simp) (Keep.refl _ []) (fun G hG => .inl (hFs G hG)) hi2.mem.own hi2.mem.slh hi2.nodup (fun _ hb => .inl hb)
  intro cs hcs
  refine ⟨.bool true, _, ⟨rfl, x', hI, hbd, hi3⟩, ?_⟩
  unfold Done
  simp only [hro]
  cases cs with
  | nil => exact absurd rfl (hcs (by simp [hro]))
  | cons cl cs =>
    refine ⟨cl, cs, rfl, .one ?_⟩
    exact stepR_round_end (P := P) (b := c.fr a []) (a := a) (c := cl) (cs := cs) (w := w) hro rfl hr

theorem fits_params : ∀ (l : List (Nat × Value)) {ρ : Env} {tmps : Array Value} {ds : List Deferred}, Fits nt [] ρ { tmps := tmps, defers := [] } → (∀ p ∈ l, Nat.blt p.1 nt = true) → ds = [] →
    Fits nt [] (l.reverse ++ ρ) { tmps := l.foldl (fun t p => t.setIfInBounds p.1 p.2) tmps, defers := ds }
  | [], _, _, _, h, _, hd => by subst hd; simpa using h
  | p :: l, ρ, tmps, ds, h, hp, hd => by
    have h1 := h.put (hp p List.mem_cons_self) p.2
    have := fits_params l (ρ := (p.1, p.2) :: ρ) (tmps := tmps.setIfInBounds p.1 p.2) (ds := ds) h1 (fun q hq => hp q (List.mem_cons_of_mem _ hq)) hd
    simpa using this

section guest
variable {α : Type} (FsD : α → List Hp) (blD : α → Blks) (slD : α → List OwnS) (FsS : List Hp) (l : Nat) (lo : Obj)

/-- The blocks that a loop's things are in. -/
def gset (x : α) (b : Nat) : Prop := b ∈ blks (blD x ++ [(l, lo)]) (slD x) ∨ ((∃ G ∈ FsD x, (G b).isSome = true) ∧ ¬ ∃ F ∈ FsS, (F b).isSome = true)

theorem lt_same {w w' : World} {b : Nat} (h : b < w.heap.size) (e : w'.heap[b]? = w.heap[b]?) : b < w'.heap.size := by
  rw [Array.getElem?_eq_getElem h] at e
  exact own_lt e

def mkGuest (x : α) (B : List Nat) (hB : ∀ b, gset FsD blD slD FsS l lo x b → b ∈ B) (hnd : B.Nodup) : Guest where
  blks := B
  nodup := hnd
  holds w := (∀ G ∈ FsD x, ∀ b o, G b = some o → (∃ F ∈ FsS, F b = some o) ∨ (b ∈ B ∧ w.heap[b]? = some o)) ∧ (∀ p ∈ blD x ++ [(l, lo)], w.heap[p.1]? = some p.2) ∧ (∀ s ∈ slD x, s.holds w) ∧ ∀ b ∈ B, b < w.heap.size
  lt w h := h.2.2.2
  same w w' h e := by
    have hb : ∀ b ∈ blks (blD x ++ [(l, lo)]) (slD x), b ∈ B := fun b hb => hB b (.inl hb)
    refine ⟨fun G hG b o hg => ?_, fun p hp => ?_, fun s hs => ?_, fun b hb => lt_same (h.2.2.2 b hb) (e b hb)⟩
    · rcases h.1 G hG b o hg with h1 | ⟨h1, h2⟩
      · exact .inl h1
      · exact .inr ⟨h1, (e b h1).trans h2⟩
    · rw [e p.1 (hb _ (List.mem_append_left _ (List.mem_map.2 ⟨p, hp, rfl⟩)))]; exact h.2.1 p hp
    · exact OwnS.same (h.2.2.1 s hs) fun b hbs => e b (hb _ (List.mem_append_right _ (List.mem_flatMap.2 ⟨s, hs, hbs⟩)))

/-- What holds of a loop's things, whatever the world. -/
def PureOK (w0 : World) (S0 : List Nat) (x : α) : Prop :=
  (blks (blD x ++ [(l, lo)]) (slD x)).Nodup ∧ (∀ b ∈ blks (blD x ++ [(l, lo)]) (slD x), ∀ G ∈ FsD x ++ FsS, G b = none) ∧ (∀ b ∈ blks (blD x ++ [(l, lo)]) (slD x), b ∈ S0 ∨ w0.heap.size ≤ b) ∧ ∀ G ∈ FsD x, Bd w0 S0 FsS G

def Gst (w0 : World) (S0 : List Nat) (I : Nat → α → Prop) (i : Nat) (R : Guest) : Prop := ∃ x, I i x ∧ PureOK FsD blD slD FsS l lo w0 S0 x ∧ ∃ B hB hnd, R = mkGuest FsD blD slD FsS l lo x B hB hnd

variable {FsD blD slD FsS l lo}
/-- A loop's things, packed. -/
theorem guest_of {w1 w : World} {S1 : List Nat} {x : α} (hi : Inv w1 S1 (FsD x ++ FsS) (blD x ++ [(l, lo)]) (slD x) w) : ∃ B hB hnd, (mkGuest FsD blD slD FsS l lo x B hB hnd).holds w ∧ (∀ b ∈ B, gset FsD blD slD FsS l lo x b) := by
  classical
  have hlt : ∀ b, gset FsD blD slD FsS l lo x b → b < w.heap.size := fun b hb => by
    rcases hb with hb | ⟨⟨G, hG, hs⟩, _⟩
    · exact blks_lt hi.mem hb
    · obtain ⟨o, ho⟩ := Option.isSome_iff_exists.1 hs
      exact own_lt (hi.mem.fs G (List.mem_append_left _ hG) b o ho)
  refine ⟨(List.range w.heap.size).filter fun b => decide (gset FsD blD slD FsS l lo x b), fun b hb => by simp [hlt b hb, hb], List.nodup_range.filter _, ⟨fun G hG b o hg => ?_, hi.mem.own, hi.mem.slh, fun b hb => ?_⟩, fun b hb => by simpa using (List.mem_filter.1 hb).2⟩
  · have hw := hi.mem.fs G (List.mem_append_left _ hG) b o hg
    by_cases he : ∃ F ∈ FsS, (F b).isSome = true
    · obtain ⟨F, hF, hs⟩ := he
      obtain ⟨o', ho'⟩ := Option.isSome_iff_exists.1 hs
      have := hi.mem.fs F (List.mem_append_right _ hF) b o' ho'
      rw [hw] at this
      exact .inl ⟨F, hF, by rw [ho', this]⟩
    · have hs : gset FsD blD slD FsS l lo x b := .inr ⟨⟨G, hG, by rw [hg]; rfl⟩, he⟩
      exact .inr ⟨by simp [hlt b hs, hs], hw⟩
  · simpa using (List.mem_filter.1 hb).1

/-- The rounds of a loop, as its iterator sees them. -/
theorem yields_of {c : Cx} {N : Nat} {V : Nat → List Value → Prop} {ps : Array Tmp} {as body : Code} {tmps : Array Value} {D : Nat} (I : Nat → α → Prop) (hlo : lo = loopObj .ready c.fn tmps ps as body D) (hlb : w0.heap.size ≤ l)
    (hps : ∀ i v, V i v → v.length = ps.size) (hpt : ps.all (Nat.blt · nt) = true) (hfit : Fits nt [] ρ { tmps := tmps, defers := [] })
    (round : ∀ (i : Nat) (x : α) (v : List Value), V i v → I i x → ∀ w1 S1, w0.heap.size ≤ w1.heap.size → Cov nt w1 S1 [] ((ps.toList.zip v).reverse ++ ρ) (FsD x ++ FsS) (blD x ++ [(l, lo)]) (slD x)
      (Run P ⟨c.fn, some l⟩ (RoundR FsD blD slD FsS (FsD x ++ FsS) (I (i + 1)) l lo w1 S1) [.code as, .beginRound, .code body])) :
    Yields P (.func (.yield l) #[] #[]) N V FsS (Gst FsD blD slD FsS l lo w0 S0 I) := by
  refine ⟨l, rfl, fun i v hv R hR w hFs hh => ?_⟩
  obtain ⟨x, hI, hp, B, hB, hnd, rfl⟩ := hR
  obtain ⟨hh1, hh2, hh3, hh4⟩ := hh
  have hl : w.heap[l]? = some lo := hh2 (l, lo) (List.mem_append_right _ List.mem_cons_self)
  have hl' := hl
  rw [hlo] at hl'
  have hvl := hps i v hv
  refine ⟨_, _, _, _, run_yield (P := P) (args := v.toArray) hl' (by simpa using hvl), fun cl cs => ?_⟩
  have hfold : ((ps.zip v.toArray).foldl (fun tmps (t, a) => tmps.setIfInBounds t a) tmps) = (ps.toList.zip v).foldl (fun t p => t.setIfInBounds p.1 p.2) tmps := by
    rw [← Array.foldl_toList]
    simp
  have hfit2 := fits_params (ps.toList.zip v) (ds := []) hfit (fun p hp => by
    have h1 := (List.of_mem_zip hp).1
    have h2 := Array.all_eq_true'.1 hpt p.1 (by simpa using h1)
    exact h2) rfl
  have hSB : ∀ b ∈ blks (blD x ++ [(l, lo)]) (slD x), b ∈ B := fun b hb => hB b (.inl hb)
  have hinv : Inv w (blks (blD x ++ [(l, lo)]) (slD x)) (FsD x ++ FsS) (blD x ++ [(l, lo)]) (slD x) w :=
    ⟨⟨fun G hG => by
      rcases List.mem_append.1 hG with hG | hG
      · intro b o hb
        rcases hh1 G hG b o hb with ⟨F, hF, hf⟩ | ⟨_, h⟩
        · exact hFs F hF b o hf
        · exact h
      · exact hFs G hG, hh2, hh3⟩, Keep.refl _ _, hp.1, fun b hb => .inl hb, hp.2.1⟩
  have hsz : w0.heap.size ≤ w.heap.size := by have := own_lt hl; omega
  obtain ⟨r, w', ⟨rfl, x', hI', hbd, hinv'⟩, hd⟩ := round i x v hv hI w _ hsz _ w hfit2 hinv (cl :: cs) (by simp)
  refine ⟨.bool true, w', ⟨rfl, ?_⟩, ?_⟩
  · obtain ⟨B', hB', hnd', hh', hg'⟩ := guest_of hinv'
    have hp' : PureOK FsD blD slD FsS l lo w0 S0 x' := by
      refine ⟨hinv'.nodup, hinv'.apart, fun b hb => ?_, fun G hG b o ho => ?_⟩
      · rcases hinv'.mine b hb with h | h
        · exact hp.2.2.1 b h
        · exact .inr (Nat.le_trans hsz h)
      · rcases hbd G hG b o ho with h | h | ⟨F, hF, hf⟩
        · exact .inl (Nat.le_trans hsz h)
        · rcases hp.2.2.1 b h with h | h
          · exact .inr (.inl h)
          · exact .inl h
        · rcases List.mem_append.1 hF with hF | hF
          · exact hp.2.2.2 F hF b o hf
          · exact .inr (.inr ⟨F, hF, hf⟩)
    refine ⟨mkGuest FsD blD slD FsS l lo x' B' hB' hnd', ⟨x', hI', hp', B', hB', hnd', rfl⟩, hh', ⟨hinv'.keep.os, hinv'.keep.tape, hinv'.keep.output, hinv'.keep.size, fun b hb hn => hinv'.keep.block b hb (fun h => hn (hSB b h))⟩, fun b hb => ?_⟩
    rcases hg' b hb with h | ⟨⟨G, hG, hs⟩, hn⟩
    · rcases hinv'.mine b h with h | h
      · exact .inl (hSB b h)
      · exact .inr h
    · obtain ⟨o, ho⟩ := Option.isSome_iff_exists.1 hs
      rcases hbd G hG b o ho with h | h | ⟨F, hF, hf⟩
      · exact .inr h
      · exact .inl (hSB b h)
      · rcases List.mem_append.1 hF with hF | hF
        · exact .inl (hB b (.inr ⟨⟨F, hF, by rw [hf]; rfl⟩, hn⟩))
        · exact absurd ⟨F, hF, by rw [hf]; rfl⟩ hn
  · unfold Done at hd
    simp only at hd
    obtain ⟨caller, cs', he, hs⟩ := hd
    obtain ⟨rfl, rfl⟩ := List.cons.inj he
    have : Frame.round l c.fn ((ps.zip v.toArray).foldl (fun tmps (t, a) => tmps.setIfInBounds t a) tmps) as body .normal = (⟨c.fn, some l⟩ : Cx).fr { tmps := (ps.toList.zip v).foldl (fun t p => t.setIfInBounds p.1 p.2) tmps, defers := [] } [.code as, .beginRound, .code body] := by
      rw [hfold]; rfl
    rw [this]
    exact hs
end guest

/-- A loop over a function. -/
theorem Cov.rangeFunc {α : Type} (FsD : α → List Hp) (blD : α → Blks) (slD : α → List OwnS) (I : Nat → α → Prop) (x0 : α) {g : Operand} {ps : Array Tmp} {as body : Code} {f : FuncId} (cap : List Value) {N : Nat} {V : Nat → List Value → Prop} {FsS : List Hp}
    (hro : c.ro = none) (hg : ev ρ g = some (.func (.func f) #[] cap.toArray)) (hcall : ∀ args w, (callFunc f args).run P w = .ok (.enter f args) w) (hF : Fs = FsD x0 ++ FsS) (hF0 : ∀ G ∈ FsD x0, ∀ b, G b = none) (hb : bl = blD x0 ++ bls) (hs : sl = slD x0 ++ sls)
    (hit : Iter P f cap FsS N V) (hps : ∀ i v, V i v → v.length = ps.size) (hpt : ps.all (Nat.blt · nt) = true) (hI : I 0 x0)
    (round : ∀ (l : Nat) (tmps : Array Value) (D : Nat) (i : Nat) (x : α) (v : List Value), V i v → I i x → ∀ w1 S1, w0.heap.size ≤ w1.heap.size →
      Cov nt w1 S1 [] ((ps.toList.zip v).reverse ++ ρ) (FsD x ++ FsS) (blD x ++ [(l, loopObj .ready c.fn tmps ps as body D)]) (slD x)
        (Run P ⟨c.fn, some l⟩ (RoundR FsD blD slD FsS (FsD x ++ FsS) (I (i + 1)) l (loopObj .ready c.fn tmps ps as body D) w1 S1) [.code as, .beginRound, .code body]))
    (after : ∀ r x, I N x → (∀ G ∈ FsD x, Bd w0 S0 FsS G) → Cov nt w0 S0 ({ target := .collected r, args := #[] } :: df) ρ (FsD x ++ FsS) (blD x ++ (r, .deferred (some [])) :: bls) (slD x ++ sls) (Run P c R0 k)) :
    Cov nt w0 S0 df ρ Fs bl sl (Run P c R0 (.code (.rangeFunc g ps as body) :: k)) := fun a w hf hi => by
  subst hF hb hs
  have he := run_enterLoop_outer (P := P) (w := w) c.fn a.tmps ps as body
  have hi1 := hi.alloc (.deferred (some []))
  have hi2 := hi1.alloc (loopObj .ready c.fn a.tmps ps as body w.heap.size)
  have hl : (w.alloc (.deferred (some []))).heap.size = w.heap.size + 1 := World.size_alloc ..
  rw [hl] at hi2
  -- the things in order
  have hperm : ((w.heap.size + 1, loopObj .ready c.fn a.tmps ps as body w.heap.size) :: (w.heap.size, Obj.deferred (some [])) :: (blD x0 ++ bls)).Perm ((blD x0 ++ [(w.heap.size + 1, loopObj .ready c.fn a.tmps ps as body w.heap.size)]) ++ (w.heap.size, Obj.deferred (some [])) :: bls) := by
    rw [List.append_assoc]
    refine List.Perm.trans ?_ List.perm_append_comm
    simp only [List.cons_append, List.nil_append]
    refine List.Perm.cons _ (List.Perm.cons _ ?_)
    exact List.perm_append_comm
  have hi3 := hi2.perm hperm (List.Perm.refl _)
  have hlb : w0.heap.size ≤ w.heap.size + 1 := by have := hi.keep.size; omega
  -- the guest
  have hnd3 := (blks_perm (blD x0 ++ [(w.heap.size + 1, loopObj .ready c.fn a.tmps ps as body w.heap.size)]) ((w.heap.size, Obj.deferred (some [])) :: bls) (slD x0) sls).nodup_iff.1 hi3.nodup
  have hin : ∀ b ∈ blks (blD x0 ++ [(w.heap.size + 1, loopObj .ready c.fn a.tmps ps as body w.heap.size)]) (slD x0), b ∈ blks ((blD x0 ++ [(w.heap.size + 1, loopObj .ready c.fn a.tmps ps as body w.heap.size)]) ++ (w.heap.size, Obj.deferred (some [])) :: bls) (slD x0 ++ sls) := fun b hb => (blks_append _ _ _ _ _).2 (.inl hb)
  have hi4 : Inv w0 S0 (FsD x0 ++ FsS) (blD x0 ++ [(w.heap.size + 1, loopObj .ready c.fn a.tmps ps as body w.heap.size)]) (slD x0) ((w.alloc (.deferred (some []))).alloc (loopObj .ready c.fn a.tmps ps as body w.heap.size)) :=
    hi3.change [] (by simp) (Keep.refl _ _) (fun G hG => .inl hG) (fun p hp => hi3.mem.own p (List.mem_append_left _ hp)) (fun s hs => hi3.mem.slh s (List.mem_append_left _ hs)) (List.nodup_append.1 hnd3).1 (fun b hb => .inl (hin b hb))
  obtain ⟨B, hB, hndB, hh, hgB⟩ := guest_of hi4
  have hB2 : ∀ b ∈ B, b ∈ blks (blD x0 ++ [(w.heap.size + 1, loopObj .ready c.fn a.tmps ps as body w.heap.size)]) (slD x0) := fun b hb => by
    rcases hgB b hb with h | ⟨⟨G, hG, hs⟩, _⟩
    · exact h
    · rw [hF0 G hG b] at hs; cases hs
  have hpure : PureOK FsD blD slD FsS (w.heap.size + 1) (loopObj .ready c.fn a.tmps ps as body w.heap.size) w0 S0 x0 := ⟨hi4.nodup, hi4.apart, hi4.mine, fun G hG b o ho => by rw [hF0 G hG b] at ho; cases ho⟩
  have hfit0 : Fits nt [] ρ { tmps := a.tmps, defers := [] } := ⟨rfl, hf.2.1, hf.2.2⟩
  have hy := yields_of (P := P) (nt := nt) (w0 := w0) (S0 := S0) (ρ := ρ) (FsD := FsD) (blD := blD) (slD := slD) (FsS := FsS) (l := w.heap.size + 1) (lo := loopObj .ready c.fn a.tmps ps as body w.heap.size) (c := c) (N := N) (V := V) I rfl hlb hps hpt hfit0 (fun i x v hv hIx w1 S1 hle => round _ _ _ i x v hv hIx w1 S1 hle)
  have hcon := hit _ _ (mkGuest FsD blD slD FsS _ _ x0 B hB hndB) hy ⟨x0, hI, hpure, B, hB, hndB, rfl⟩
  -- the state at the call
  have hi5 : Inv w0 S0 FsS ([] ++ (w.heap.size, Obj.deferred (some [])) :: bls) ([.g (mkGuest FsD blD slD FsS _ _ x0 B hB hndB)] ++ sls) ((w.alloc (.deferred (some []))).alloc (loopObj .ready c.fn a.tmps ps as body w.heap.size)) := by
    have hpb : ∀ b, b ∈ blks ([] ++ (w.heap.size, Obj.deferred (some [])) :: bls) ([.g (mkGuest FsD blD slD FsS _ _ x0 B hB hndB)] ++ sls) → b ∈ B ∨ b ∈ blks ((w.heap.size, Obj.deferred (some [])) :: bls) sls := fun b hb => by
      rcases (blks_append _ _ _ _ _).1 hb with h | h
      · simp only [blks, List.map_nil, List.nil_append, List.flatMap_cons, List.flatMap_nil, List.append_nil] at h
        exact .inl h
      · exact .inr h
    refine hi3.change [] (by simp) (Keep.refl _ _) (fun G hG => .inl (List.mem_append_right _ hG)) (fun p hp => hi3.mem.own p (List.mem_append_right _ hp)) (fun s hs => ?_) ?_ (fun b hb => .inl ?_)
    · rcases List.mem_cons.1 hs with rfl | hs
      · exact hh
      · exact hi3.mem.slh s (List.mem_append_right _ hs)
    · rw [(blks_perm [] _ [.g (mkGuest FsD blD slD FsS _ _ x0 B hB hndB)] sls).nodup_iff, List.nodup_append]
      have hgb : blks [] [OwnS.g (mkGuest FsD blD slD FsS (w.heap.size + 1) (loopObj .ready c.fn a.tmps ps as body w.heap.size) x0 B hB hndB)] = B := by simp [blks, OwnS.blocks, mkGuest]
      rw [hgb]
      exact ⟨hndB, (List.nodup_append.1 hnd3).2.1, fun x hx y hy e => (List.nodup_append.1 hnd3).2.2 x (hB2 x hx) y hy e⟩
    · rcases hpb b hb with h | h
      · exact hin b (hB2 b h)
      · exact (blks_append _ _ _ _ _).2 (.inr h)
  intro cs hcs
  obtain ⟨e, w3, fr, ⟨v, rfl, Fr, bo, so, hfr, ho, rfl, R, ⟨x, hIx, hpx, B', hB', hnd', rfl⟩, rfl⟩, hcomes, hfn, hleave⟩ := hcon.use hi5 ((c.fr { a with defers := { target := .collected w.heap.size, args := #[] } :: a.defers } (.inRangeFunc (w.heap.size + 1) :: k)) :: cs)
  have hi6 := hi5.calledG hfr ho
  -- the loop's things again
  obtain ⟨hh1, hh2, hh3, hh4⟩ := hi6.mem.slh _ (List.mem_cons_self)
  have hpb6 : ∀ b, b ∈ B' ∨ b ∈ blks ((w.heap.size, Obj.deferred (some [])) :: bls) sls → b ∈ blks ([] ++ (w.heap.size, Obj.deferred (some [])) :: bls) ([OwnS.g (mkGuest FsD blD slD FsS (w.heap.size + 1) (loopObj .ready c.fn a.tmps ps as body w.heap.size) x B' hB' hnd')] ++ sls) := fun b hb => by
    refine (blks_append _ _ _ _ _).2 (hb.imp (fun h => ?_) id)
    simpa [blks, OwnS.blocks, mkGuest] using h
  have hnd6 := (blks_perm [] ((w.heap.size, Obj.deferred (some [])) :: bls) [OwnS.g (mkGuest FsD blD slD FsS (w.heap.size + 1) (loopObj .ready c.fn a.tmps ps as body w.heap.size) x B' hB' hnd')] sls).nodup_iff.1 hi6.nodup
  have hgb : blks [] [OwnS.g (mkGuest FsD blD slD FsS (w.heap.size + 1) (loopObj .ready c.fn a.tmps ps as body w.heap.size) x B' hB' hnd')] = B' := by simp [blks, OwnS.blocks, mkGuest]
  rw [hgb, List.nodup_append] at hnd6
  have hxB : ∀ b ∈ blks (blD x ++ [(w.heap.size + 1, loopObj .ready c.fn a.tmps ps as body w.heap.size)]) (slD x), b ∈ B' := fun b hb => hB' b (.inl hb)
  have hi7 : Inv w0 S0 (FsD x ++ FsS) ((blD x ++ [(w.heap.size + 1, loopObj .ready c.fn a.tmps ps as body w.heap.size)]) ++ (w.heap.size, Obj.deferred (some [])) :: bls) (slD x ++ sls) w3 := by
    refine hi6.change [] (by simp) (Keep.refl _ _) (fun G hG => ?_) (fun p hp => ?_) (fun s hs => ?_) ?_ (fun b hb => .inl ?_)
    · rcases List.mem_append.1 hG with hG | hG
      · refine .inr ⟨fun b o hb => ?_, fun b hb => ?_⟩
        · rcases hh1 G hG b o hb with ⟨F, hF, hf'⟩ | ⟨_, h⟩
          · exact hi6.mem.fs F (List.mem_cons_of_mem _ hF) b o hf'
          · exact h
        · rcases (blks_append _ _ _ _ _).1 hb with h | h
          · exact hpx.2.1 b h G (List.mem_append_left _ hG)
          · cases hg' : G b with
            | none => rfl
            | some o =>
              rcases hh1 G hG b o hg' with ⟨F, hF, hf'⟩ | ⟨h1, _⟩
              · rw [hi6.apart b (hpb6 b (.inr h)) F (List.mem_cons_of_mem _ hF)] at hf'; cases hf'
              · exact absurd rfl (hnd6.2.2 b h1 b h)
      · exact .inl (List.mem_cons_of_mem _ hG)
    · rcases List.mem_append.1 hp with hp | hp
      · exact hh2 p hp
      · exact hi6.mem.own p (List.mem_append_right _ hp)
    · rcases List.mem_append.1 hs with hs | hs
      · exact hh3 s hs
      · exact hi6.mem.slh s (List.mem_append_right _ hs)
    · rw [(blks_perm _ _ (slD x) sls).nodup_iff, List.nodup_append]
      exact ⟨hpx.1, hnd6.2.1, fun a' ha b hb e => hnd6.2.2 a' (hxB a' ha) b hb e⟩
    · rcases (blks_append _ _ _ _ _).1 hb with h | h
      · exact hpb6 b (.inl (hxB b h))
      · exact hpb6 b (.inr h)
  have hl3 : w3.heap[w.heap.size + 1]? = some (loopObj .ready c.fn a.tmps ps as body w.heap.size) := hi7.mem.own (_, _) (List.mem_append_left _ (List.mem_append_right _ List.mem_cons_self))
  have hend := run_endLoop (P := P) (w := w3) hl3 (by intro h; cases h)
  have hp8 : (blks ((blD x ++ [(w.heap.size + 1, loopObj .ready c.fn a.tmps ps as body w.heap.size)]) ++ (w.heap.size, Obj.deferred (some [])) :: bls) (slD x ++ sls)).Perm ((w.heap.size + 1) :: blks (blD x ++ (w.heap.size, Obj.deferred (some [])) :: bls) (slD x ++ sls)) := by
    simp only [blks, List.append_assoc, List.map_append, List.map_cons, List.map_nil, List.cons_append, List.nil_append]
    exact List.perm_middle
  have hnd8 := List.nodup_cons.1 (hp8.nodup_iff.1 hi7.nodup)
  have hi8 : Inv w0 S0 (FsD x ++ FsS) (blD x ++ (w.heap.size, Obj.deferred (some [])) :: bls) (slD x ++ sls) (w3.putObj (w.heap.size + 1) (.loop { state := .exhausted, pending := none, fn := c.fn, tmps := a.tmps, params := ps, assign := as, body := body, defers := w.heap.size })) := by
    have hk : ∀ b ∈ blks (blD x ++ (w.heap.size, Obj.deferred (some [])) :: bls) (slD x ++ sls), (w3.putObj (w.heap.size + 1) (.loop { state := .exhausted, pending := none, fn := c.fn, tmps := a.tmps, params := ps, assign := as, body := body, defers := w.heap.size })).heap[b]? = w3.heap[b]? := fun b hb =>
      World.putObj_heap_other (fun e => hnd8.1 (e ▸ hb))
    refine hi7.change [w.heap.size + 1] (fun b hb => ?_) (Keep.putObj w3 _ _) (fun G hG => .inl hG) (fun p hp => ?_) (fun s hs => ?_) hnd8.2 (fun b hb => .inl (hp8.mem_iff.2 (List.mem_cons_of_mem _ hb)))
    · simp only [List.mem_singleton] at hb
      subst hb
      exact hp8.mem_iff.2 List.mem_cons_self
    · rw [hk p.1 (List.mem_append_left _ (List.mem_map.2 ⟨p, hp, rfl⟩))]
      refine hi7.mem.own p ?_
      rcases List.mem_append.1 hp with hp | hp
      · exact List.mem_append_left _ (List.mem_append_left _ hp)
      · exact List.mem_append_right _ hp
    · exact OwnS.same (hi7.mem.slh s hs) fun b hb => hk b (List.mem_append_right _ (List.mem_flatMap.2 ⟨s, hs, hb⟩))
  obtain ⟨v', w5, hR5, hd5⟩ := after w.heap.size x hIx hpx.2.2.2 { a with defers := { target := .collected w.heap.size, args := #[] } :: a.defers } _ ⟨by simp [hf.1], hf.2.1, hf.2.2⟩ hi8 cs hcs
  refine ⟨v', w5, hR5, hd5.of_steps ?_⟩
  have s1 := stepR_rangeFunc (P := P) (b := c.fr a []) (a := a) (k := k) (cs := cs) (w := w) (g := g) (ps := ps) (assign := as) (body := body) (l := w.heap.size + 1) (mark := [{ target := .collected w.heap.size, args := #[] }])
    (d := { target := .fn (.func f) cap.toArray, args := #[.func (.yield (w.heap.size + 1)) #[] #[]] }) (f := f) (args := (Value.func (.yield (w.heap.size + 1)) #[] #[] :: cap).toArray)
    (w₁ := (w.alloc (.deferred (some []))).alloc (loopObj .ready c.fn a.tmps ps as body w.heap.size)) (w₁' := (w.alloc (.deferred (some []))).alloc (loopObj .ready c.fn a.tmps ps as body w.heap.size)) (w₂ := (w.alloc (.deferred (some []))).alloc (loopObj .ready c.fn a.tmps ps as body w.heap.size))
    (by rw [show (c.fr a []).roundOf = none from hro]; exact he)
    (by
      simp only [rangeCall, resolve, ev_sound hf hg, Deferred.ofValue]
      simp [Act.eval])
    (by
      simp only [invoke]
      simpa using hcall (Value.func (.yield (w.heap.size + 1)) #[] #[] :: cap).toArray _)
  refine .head s1 (Steps.trans hcomes (.head (step_leave_returned hleave) (.one ?_)))
  have s2 := stepR_endRangeFunc (P := P) (b := c.fr a []) (a := { a with defers := { target := .collected w.heap.size, args := #[] } :: a.defers }) (k := k) (cs := cs) hend
  exact s2

/-- What is to be shown of a call that is leaving. -/
def Out (P : Program) (c : Cx) (R : Value → World → Prop) (a : Act) (w : World) : Prop :=
  ∀ items cs, ∃ v w', R v w' ∧ ∃ fr, Steps P (lone { c.fr a items with mode := .returning } cs w) (lone fr cs w') ∧ fr.fn = c.fn ∧ fr.leaving P w' (.returned v)

theorem Cov.out {items : List Item} (hi : items = [] ∨ ∃ k, items = .code .ret :: k) (hro : c.ro = none) (h : Cov nt w0 S0 df ρ Fs bl sl (Out P c R0)) : Cov nt w0 S0 df ρ Fs bl sl (Run P c R0 items) := fun a w hf hinv cs _ => by
  obtain ⟨v, w', hR, fr, hs, h1, h2⟩ := h a w hf hinv items cs
  refine ⟨v, w', hR, ?_⟩
  unfold Done
  simp only [hro]
  refine ⟨fr, .head (step_lone_go ?_) hs, h1, h2⟩
  rcases hi with rfl | ⟨k, rfl⟩ <;> simp [stepG, stepG.exec, Cx.fr, hro]

/-- The mark of a loop over a function, at the end. -/
theorem Cov.unmark (j : Nat) {r : Nat} (hb : bl[j]? = some (r, .deferred (some []))) (bl' : Blks) (hbl : bl.set j (r, .deferred none) = bl') (h : Cov nt w0 S0 df ρ Fs bl' sl (Out P c R0)) :
    Cov nt w0 S0 ({ target := .collected r, args := #[] } :: df) ρ Fs bl sl (Out P c R0) := fun a w hf hi items cs => by
  subst hbl
  have hl := hi.mem.own _ (List.mem_of_getElem? hb)
  have hr := run_takeDeferred (P := P) (w := w) hl
  have hi2 := hi.set j hb (Keep.putObj w r (.deferred none)) (World.putObj_heap_same (own_lt hl))
  obtain ⟨v, w', hR, fr, hs, h1, h2⟩ := h { a with defers := df } _ ⟨rfl, hf.2.1, hf.2.2⟩ hi2 items cs
  refine ⟨v, w', hR, fr, .head ?_ hs, h1, h2⟩
  have hd := hf.1
  exact step_lone_go (by simp [stepG, unwind, Cx.fr, hd, Sem.runT_eq, hr, GStep.bare_after])

/-- The end of a function that has gone through loops over functions; its result lies in memory. -/
theorem Cov.outx {G : Hp} {fn : Func} (rs : List ResultVar) (vs : List Value) {Q : Value → Hp → Prop} (hf : P.funcs[c.fn]? = some fn) (hrs : fn.results = rs.toArray)
    (hres : RVs P ρ Fs bl sl rs vs) (hsub : ∀ F ∈ Fin, F ∈ Fs) (hG : G ∈ Fs) (hbd : Bd w0 S0 Fin G) (hS : ∀ b ∈ S0, b ∈ bl.map (·.1)) (hpost : ∀ G', (∀ b o, G b = some o → G' b = some o) → Ext Fin G' → Q (retVal vs) G') :
    Cov nt w0 S0 [] ρ Fs bl sl (Out P c (RP w0 S0 Fin (fun v Fr bl sl => (∀ G', Ext (Fr :: Fin) G' → Q v G') ∧ bl = [] ∧ sl = []))) := by
  refine Cov.part hG ?_
  intro a w hfi hinv items cs
  refine ⟨retVal vs, w, ⟨Proofs.Ytbhmhindommaeaa.part w0 G, [], [], part_fresh w0 G, ?_, fun G' he => hpost G' (part_ext hbd (fun b hb => hinv.apart b (List.mem_append_left _ (hS b hb)) G (List.mem_cons_of_mem _ hG)) he) (fun F hF => he F (List.mem_cons_of_mem _ hF)), rfl, rfl⟩, { c.fr a items with mode := .returning }, Steps.refl _ _, rfl, rfl, hfi.1, rfl, fn, hf, run_results hfi hinv.mem hrs (RVs_fs (fun F hF => List.mem_cons_of_mem _ hF) rs vs hres)⟩
  refine hinv.change [] (by simp) (Keep.refl w []) (fun F hF => .inl ?_) (by simp) (by simp) (by simp [blks]) (by simp [blks])
  rcases List.mem_cons.1 hF with rfl | hF
  · exact List.mem_cons_self
  · exact List.mem_cons_of_mem _ (hsub F hF)
end
end Go.Proofs.Ytbhmhindommaeaa
