/-
  Operations that turn memory, and what becomes of the state.
-/
import Derived.Test.YtbhmhindommaeaaK8
namespace Go.Proofs.Ytbhmhindommaeaa
open Go.RowKit

def Fresh (w : World) (G : Hp) : Prop := ∀ b o, G b = some o → w.heap.size ≤ b
def single (b : Nat) (o : Obj) : Hp := fun x => if x = b then some o else none

theorem perm_erase {α : Type} : ∀ (l : List α) (i : Nat) (x : α), l[i]? = some x → l.Perm (x :: l.eraseIdx i)
  | [], i, x, h => by simp at h
  | y :: l, 0, x, h => by simp at h; subst h; simp
  | y :: l, i + 1, x, h => by
    simp only [List.getElem?_cons_succ] at h
    simp only [List.eraseIdx_cons_succ]
    exact ((perm_erase l i x h).cons y).trans (List.Perm.swap x y _)

theorem flatMap_sub {α β : Type} (f : α → List β) {l l' : List α} (h : l.Sublist l') : (l.flatMap f).Sublist (l'.flatMap f) := by
  induction h with
  | slnil => exact List.Sublist.refl _
  | cons a _ ih => rw [List.flatMap_cons]; exact ih.trans (List.sublist_append_right _ _)
  | cons_cons a _ ih => rw [List.flatMap_cons, List.flatMap_cons]; exact (List.Sublist.refl _).append ih

section
variable {w0 : World} {S0 : List Nat} {Fs Fs' : List Hp} {bl bl' : Blks} {sl sl' : List OwnS} {w w' : World}

theorem blks_lt (h : Mem Fs bl sl w) {b : Nat} (hb : b ∈ blks bl sl) : b < w.heap.size := by
  rcases List.mem_append.1 hb with hb | hb
  · obtain ⟨p, hp, rfl⟩ := List.mem_map.1 hb
    exact own_lt (h.own p hp)
  · obtain ⟨s, hs, hv⟩ := List.mem_flatMap.1 hb
    exact OwnS.lt (h.slh s hs) b hv

/-- The one law of change: only blocks D of one's own have turned, and new ones have come. -/
theorem Inv.change (h : Inv w0 S0 Fs bl sl w) (D : List Nat) (hD : ∀ b ∈ D, b ∈ blks bl sl) (kw : Keep w D w') (hF : ∀ G ∈ Fs', G ∈ Fs ∨ (HpIn G w' ∧ ∀ b ∈ blks bl' sl', G b = none))
    (own' : ∀ p ∈ bl', w'.heap[p.1]? = some p.2) (slh' : ∀ s ∈ sl', s.holds w') (nd : (blks bl' sl').Nodup) (mi : ∀ b ∈ blks bl' sl', b ∈ blks bl sl ∨ w.heap.size ≤ b) : Inv w0 S0 Fs' bl' sl' w' := by
  refine ⟨⟨fun G hG => ?_, own', slh'⟩, ⟨kw.os.trans h.keep.os, kw.tape.trans h.keep.tape, kw.output.trans h.keep.output, Nat.le_trans h.keep.size kw.size, fun b hb hS => ?_⟩, nd, fun b hb => ?_, fun b hb G hG => ?_⟩
  · rcases hF G hG with hG | hG
    · intro b o hb
      have h1 := h.mem.fs G hG b o hb
      rw [kw.block b (own_lt h1) (fun hbD => by have := h.apart b (hD b hbD) G hG; rw [this] at hb; cases hb)]
      exact h1
    · exact hG.1
  · rw [kw.block b (Nat.lt_of_lt_of_le hb h.keep.size) (fun hbD => by
      rcases h.mine b (hD b hbD) with h1 | h1
      · exact hS h1
      · omega)]
    exact h.keep.block b hb hS
  · rcases mi b hb with h1 | h1
    · exact h.mine b h1
    · exact .inr (Nat.le_trans h.keep.size h1)
  · rcases hF G hG with hG | hG
    · rcases mi b hb with h1 | h1
      · exact h.apart b h1 G hG
      · cases hg : G b with
        | none => rfl
        | some o => have := own_lt (h.mem.fs G hG b o hg); omega
    · exact hG.2 b hb

theorem Keep.alloc (w : World) (o : Obj) : Keep w [] (w.alloc o) := ⟨rfl, rfl, rfl, by show _ ≤ (w.heap.push o).size; simp, fun b hb _ => Below.heap_alloc w o b hb⟩
theorem Keep.drew (w : World) : Keep w [] w.drew := ⟨rfl, rfl, rfl, Nat.le_refl _, fun _ _ _ => rfl⟩
theorem Keep.trans {a b c : World} {D : List Nat} (h : Keep a D b) (k : Keep b D c) : Keep a D c :=
  ⟨k.os.trans h.os, k.tape.trans h.tape, k.output.trans h.output, Nat.le_trans h.size k.size, fun x hx hD => (k.block x (Nat.lt_of_lt_of_le hx h.size) hD).trans (h.block x hx hD)⟩

theorem Inv.alloc (h : Inv w0 S0 Fs bl sl w) (o : Obj) : Inv w0 S0 Fs ((w.heap.size, o) :: bl) sl (w.alloc o) := by
  have hlt : ∀ b ∈ blks bl sl, b < w.heap.size := fun b hb => blks_lt h.mem hb
  refine h.change [] (by simp) (Keep.alloc w o) (fun G hG => .inl hG) (fun p hp => ?_) (fun s hs => ?_) ?_ (fun b hb => ?_)
  · rcases List.mem_cons.1 hp with rfl | hp
    · exact heap_alloc_new w o
    · rw [Below.heap_alloc w o p.1 (own_lt (h.mem.own p hp))]; exact h.mem.own p hp
  · exact OwnS.same (h.mem.slh s hs) fun b hb => Below.heap_alloc w o b (OwnS.lt (h.mem.slh s hs) b hb)
  · simp only [blks, List.map_cons, List.cons_append, List.nodup_cons]
    exact ⟨fun hm => Nat.lt_irrefl _ (hlt _ hm), h.nodup⟩
  · simp only [blks, List.map_cons, List.cons_append, List.mem_cons] at hb
    rcases hb with rfl | hb
    · exact .inr (Nat.le_refl _)
    · exact .inl hb

/-- A store into a block of one's own. -/
theorem Inv.set (h : Inv w0 S0 Fs bl sl w) (i : Nat) {b : Nat} {o o' : Obj} (hi : bl[i]? = some (b, o)) (kw : Keep w [b] w') (hb : w'.heap[b]? = some o') : Inv w0 S0 Fs (bl.set i (b, o')) sl w' := by
  have hmem : (b, o) ∈ bl := List.mem_of_getElem? hi
  have hlt : i < bl.length := by rcases Nat.lt_or_ge i bl.length with h | h; exact h; rw [List.getElem?_eq_none h] at hi; cases hi
  have hmap : (bl.set i (b, o')).map (·.1) = bl.map (·.1) := by
    rw [List.map_set]
    have h1 : (bl.map (·.1))[i]'(by simpa using hlt) = b := by
      rw [List.getElem_map]
      rw [List.getElem?_eq_getElem hlt] at hi
      rw [Option.some.inj hi]
    conv => lhs; arg 3; rw [← h1]
    exact List.set_getElem_self _
  have hblks : blks (bl.set i (b, o')) sl = blks bl sl := by simp only [blks, hmap]
  have hbm : b ∈ blks bl sl := List.mem_append_left _ (List.mem_map.2 ⟨_, hmem, rfl⟩)
  refine h.change [b] (by simpa using hbm) kw (fun G hG => .inl hG) (fun p hp => ?_) (fun s hs => ?_) (by rw [hblks]; exact h.nodup) (fun x hx => .inl (by rwa [hblks] at hx))
  · obtain ⟨j, hj, rfl⟩ := List.getElem_of_mem hp
    rw [List.getElem_set]
    split
    · exact hb
    · rename_i hne
      have hj' : j < bl.length := by simpa using hj
      have hpj := h.mem.own bl[j] (List.getElem_mem hj')
      rw [kw.block _ (own_lt hpj) ?_]
      · exact hpj
      · simp only [List.mem_singleton]
        intro e
        have hnd : (bl.map (·.1)).Nodup := (List.nodup_append.1 h.nodup).1
        have := (List.getElem_inj (i := i) (j := j) (h₀ := by simpa using hlt) (h₁ := by simpa using hj') hnd).1 (by
          simp only [List.getElem_map]
          rw [e]
          have : bl[i] = (b, o) := by rw [List.getElem?_eq_getElem hlt] at hi; exact Option.some.inj hi
          rw [this])
        exact hne this
  · exact OwnS.same (h.mem.slh s hs) fun x hx => by
      refine kw.block x (OwnS.lt (h.mem.slh s hs) x hx) ?_
      simp only [List.mem_singleton]
      rintro rfl
      exact (List.nodup_append.1 h.nodup).2.2 _ (List.mem_map.2 ⟨_, hmem, rfl⟩) _ (List.mem_flatMap.2 ⟨s, hs, hx⟩) rfl
end

section
variable {P : Program} {c : Cx} {R : Value → World → Prop} {nt : Nat} {w0 : World} {S0 : List Nat} {df : List Deferred} {ρ ρ' : Env} {Fs Fs' : List Hp} {bl bl' : Blks} {sl sl' : List OwnS}
  {K K' : Act → World → Prop} {k : List Item} {ty : TypeId}

/-- An operation that makes one block. -/
theorem Cov.new_ {d : Nat} {op : Op} {o : Obj} {fv : Nat → Value} (hs : Stp P K' ⟨some d, op, ty, none⟩ K)
    (h : ∀ a w, Fits nt df ρ a → Mem Fs bl sl w → (execOp a.eval ⟨none, op, ty, "", #[], none⟩).run P w = .ok (.value (fv w.heap.size)) (w.alloc o)) (hd : Nat.blt d nt = true)
    (hk : ∀ b, w0.heap.size ≤ b → Cov nt w0 S0 df ((d, fv b) :: ρ) Fs ((b, o) :: bl) sl K) : Cov nt w0 S0 df ρ Fs bl sl K' := fun a w hf hi => by
  refine hs a w ?_
  unfold Oper.wp
  rw [show execOp a.eval (⟨some d, op, ty, none⟩ : OpX).oper = execOp a.eval ⟨none, op, ty, "", #[], none⟩ from rfl, h a w hf hi.mem]
  exact hk _ hi.keep.size _ _ (hf.put hd _) (hi.alloc o)

theorem Cov.alloc {d : Nat} {t : TypeId} {agg : Bool} {sz bytes : Nat} {z : List Value} (hs : Stp P K' ⟨some d, .alloc t, ty, none⟩ K) (ht : TyI P t agg sz bytes z) (hd : Nat.blt d nt = true)
    (hk : ∀ b, w0.heap.size ≤ b → Cov nt w0 S0 df ((d, .pointer (some ⟨b, 0, none⟩)) :: ρ) Fs ((b, .cells z.toArray t (0, 0)) :: bl) sl K) : Cov nt w0 S0 df ρ Fs bl sl K' :=
  .new_ (fv := fun b => .pointer (some ⟨b, 0, none⟩)) hs (fun a w hf hm => by
    obtain ⟨zv, hz1, hz2⟩ := run_zero ht.z w
    refine run_v (s := Instr.alloc t true (.tuple #[])) ?_
    unfold Instr.alloc
    rw [Sem.run_bind, hz1]
    simp only [Result.andThen_ok]
    simp [newVar, newRow, hz2]) hd hk

/-- The cells of a value. -/
def cellsL (v : Value) : List Value := v.cells.toList

theorem Cov.box (cs : List Value) {d : Nat} {t : TypeId} {x : Operand} {v : Value} (hs : Stp P K' ⟨some d, .box t x, ty, none⟩ K) (hx : ev ρ x = some v) (hc : cellsL v = cs) (hd : Nat.blt d nt = true)
    (hk : ∀ b, w0.heap.size ≤ b → Cov nt w0 S0 df ((d, .pointer (some ⟨b, 0, none⟩)) :: ρ) Fs ((b, .cells cs.toArray t (0, 0)) :: bl) sl K) : Cov nt w0 S0 df ρ Fs bl sl K' :=
  .new_ (fv := fun b => .pointer (some ⟨b, 0, none⟩)) hs (fun a w hf hm => by
    refine run_v (s := Instr.box t (a.eval x)) ?_
    rw [ev_sound hf hx]
    have : v.cells = cs.toArray := by rw [← hc]; simp [cellsL]
    simp [Instr.box, newVar, newRow, this]) hd hk

theorem storeVar_run {w : World} {t : TypeId} {b o : Nat} {v : Value} {cs cs' : List Value} {T : TypeId} {agg : Bool} {bytes : Nat} {z : List Value} (ht : TyI P t agg (cellsL v).length bytes z) (hb : w.heap[b]? = some (.cells cs.toArray T (0, 0)))
    (h1 : (cellsL v).all (·.oneCell') = true) (hfit : o + (cellsL v).length ≤ cs.length) (hcs : cs.take o ++ cellsL v ++ cs.drop (o + (cellsL v).length) = cs') :
    ∃ w', (storeVar t ⟨b, o, none⟩ v).run P w = .ok () w' ∧ Keep w [b] w' ∧ w'.heap[b]? = some (.cells cs'.toArray T (0, 0)) := by
  have hst := run_storeCells_at P b o T (cellsL v) 0 cs.toArray w hb (by simpa using hfit) (fun u hu => List.all_eq_true.1 h1 u hu)
  refine ⟨_, ?_, ?_, setRow_heap w b _ _ _ _ hb⟩
  rotate_left
  · exact ⟨rfl, rfl, rfl, by simp [World.setRow], fun x _ hD => setRow_other w b x _ (by simpa using hD)⟩
  · unfold storeVar
    rw [Sem.run_bind, run_sizeOf ht.sz]
    simp only [Result.andThen_ok]
    rw [if_neg (by simp [cellsL])]
    simp only [Nat.add_zero] at hst
    rw [← hcs]
    simpa [cellsL] using hst

/-- A store into a block of one's own. -/
theorem Cov.store (i : Nat) (cs' : List Value) (bl' : Blks) {t : TypeId} {x y : Operand} {b o : Nat} {v : Value} {cs : List Value} {T : TypeId} {agg : Bool} {bytes : Nat} {z : List Value} (hs : Stp P K' ⟨none, .store t x y, ty, none⟩ K)
    (hx : ev ρ x = some (.pointer (some ⟨b, o, none⟩))) (hy : ev ρ y = some v) (hb : bl[i]? = some (b, .cells cs.toArray T (0, 0))) (ht : TyI P t agg (cellsL v).length bytes z)
    (h1 : (cellsL v).all (·.oneCell') = true) (hfit : Nat.ble (o + (cellsL v).length) cs.length = true) (hcs : cs.take o ++ cellsL v ++ cs.drop (o + (cellsL v).length) = cs') (hbl : bl.set i (b, .cells cs'.toArray T (0, 0)) = bl')
    (hk : Cov nt w0 S0 df ρ Fs bl' sl K) : Cov nt w0 S0 df ρ Fs bl sl K' := fun a w hf hi => by
  refine hs a w ?_
  obtain ⟨w', hr, kw, hb'⟩ := storeVar_run (P := P) ht (hi.mem.own _ (List.mem_of_getElem? hb)) h1 (by simpa [Nat.ble_eq] using hfit) hcs
  unfold Oper.wp
  have : (execOp a.eval (⟨none, .store t x y, ty, none⟩ : OpX).oper).run P w = .ok .skip w' := by
    refine run_u (s := Instr.storeAt t (a.eval x) (a.eval y)) ?_
    rw [ev_sound hf hx, ev_sound hf hy]
    exact hr
  rw [this]
  subst hbl
  exact hk _ _ (hf.put_none _) (hi.set i hb kw hb')

/-- What is not written any more. -/
theorem Cov.freeze (i : Nat) {b : Nat} {o : Obj} (hb : bl[i]? = some (b, o)) (bl' : Blks) (hbl : bl.eraseIdx i = bl') (hk : Cov nt w0 S0 df ρ (single b o :: Fs) bl' sl K) : Cov nt w0 S0 df ρ Fs bl sl K := fun a w hf hi => by
  subst hbl
  have hnd := hi.nodup
  have hsub : (blks (bl.eraseIdx i) sl).Sublist (blks bl sl) := (List.Sublist.map _ (List.eraseIdx_sublist bl i)).append (List.Sublist.refl _)
  have hnot : b ∉ blks (bl.eraseIdx i) sl := by
    intro hm
    have hperm : (b :: blks (bl.eraseIdx i) sl).Perm (blks bl sl) := by
      have h1 : bl.Perm ((b, o) :: bl.eraseIdx i) := perm_erase _ _ _ hb
      have h2 := (h1.map (·.1)).append_right (sl.flatMap OwnS.blocks)
      exact h2.symm
    have := hperm.nodup_iff.2 hnd
    exact (List.nodup_cons.1 this).1 hm
  refine hk a w hf (hi.change [] (by simp) (Keep.refl w []) (fun G hG => ?_) (fun p hp => hi.mem.own p (List.mem_of_mem_eraseIdx hp)) hi.mem.slh (hnd.sublist hsub) (fun x hx => .inl (hsub.subset hx)))
  rcases List.mem_cons.1 hG with rfl | hG
  · refine .inr ⟨fun x o' hx => ?_, fun x hx => ?_⟩
    · unfold single at hx
      split at hx
      · rename_i e; subst e; cases hx; exact hi.mem.own _ (List.mem_of_getElem? hb)
      · cases hx
    · unfold single
      rw [if_neg]
      rintro rfl
      exact hnot hx
  · exact .inl hG

/-- Forget heaps, blocks, slices. -/
theorem Cov.less (Fs' : List Hp) (hF : ∀ G ∈ Fs', G ∈ Fs) (h : Cov nt w0 S0 df ρ Fs' bl sl K) : Cov nt w0 S0 df ρ Fs bl sl K := fun a w hf hi =>
  h a w hf (hi.change [] (by simp) (Keep.refl w []) (fun G hG => .inl (hF G hG)) hi.mem.own hi.mem.slh hi.nodup (fun _ hx => .inl hx))

theorem Inv.perm {w : World} (hi : Inv w0 S0 Fs bl sl w) (hb : bl.Perm bl') (hs : sl.Perm sl') : Inv w0 S0 Fs bl' sl' w := by
  have hp : (blks bl sl).Perm (blks bl' sl') := (hb.map _).append (hs.flatMap_right _)
  exact hi.change [] (by simp) (Keep.refl w []) (fun G hG => .inl hG) (fun p hp => hi.mem.own p (hb.mem_iff.2 hp)) (fun s h => hi.mem.slh s (hs.mem_iff.2 h)) (hp.nodup_iff.1 hi.nodup) (fun _ hx => .inl (hp.mem_iff.2 hx))

/-- A block to the front. -/
theorem Cov.pull (i : Nat) {p : Nat × Obj} (hp : bl[i]? = some p) (bl' : Blks) (hbl : p :: bl.eraseIdx i = bl') (h : Cov nt w0 S0 df ρ Fs bl' sl K) : Cov nt w0 S0 df ρ Fs bl sl K := fun a w hf hi => by
  subst hbl
  have h1 : bl.Perm (p :: bl.eraseIdx i) := perm_erase _ _ _ hp
  exact h a w hf (hi.perm h1 (List.Perm.refl _))

/-- Forget blocks (the first m) and slices. -/
theorem Cov.drop (m n : Nat) (bl' : Blks) (sl' : List OwnS) (hbl : bl.drop m = bl') (hsl : sl.drop n = sl') (h : Cov nt w0 S0 df ρ Fs bl' sl' K) : Cov nt w0 S0 df ρ Fs bl sl K := fun a w hf hi => by
  subst hbl hsl
  have hsub : (blks (bl.drop m) (sl.drop n)).Sublist (blks bl sl) := ((List.drop_sublist _ _).map _).append (flatMap_sub _ (List.drop_sublist _ _))
  exact h a w hf (hi.change [] (by simp) (Keep.refl w []) (fun G hG => .inl hG) (fun p hp => hi.mem.own p (List.mem_of_mem_drop hp)) (fun s hs => hi.mem.slh s (List.mem_of_mem_drop hs)) (hi.nodup.sublist hsub) (fun _ hx => .inl (hsub.subset hx)))
end
end Go.Proofs.Ytbhmhindommaeaa
