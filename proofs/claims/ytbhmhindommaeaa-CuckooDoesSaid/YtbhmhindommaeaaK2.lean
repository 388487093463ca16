/-
  One operation of a region; a whole region whose order is drawn.
-/
import Derived.Test.YtbhmhindommaeaaK1
import Derived.Deep.Quiet
namespace Go.Proofs.Ytbhmhindommaeaa

def Qf : Exit → Act → World → Prop := fun _ _ _ => False

/-- A call that returns. -/
def CallsV (P : Program) (f : FuncId) (args : Array Value) (w : World) (R : Value → World → Prop) : Prop :=
  Calls P f args w fun e w' => ∃ v, e = .returned v ∧ R v w'

/-- A round of a loop over a function. -/
def RoundV (P : Program) (l : Nat) (f : FuncId) (tmps : Array Value) (assign body : Code) (w : World) (R : Value → World → Prop) : Prop :=
  ∀ (cl : Frame) (cs : List Frame), ∃ v w', R v w' ∧ Steps P (lone (Frame.round l f tmps assign body .normal) (cl :: cs) w) (lone (cl.finish v) cs w')

theorem CallsV.mono {P : Program} {f : FuncId} {args : Array Value} {w : World} {R R' : Value → World → Prop} (h : CallsV P f args w R) (hr : ∀ v w', R v w' → R' v w') : CallsV P f args w R' :=
  Calls.mono h fun _ _ ⟨v, e, r⟩ => ⟨v, e, hr _ _ r⟩

section
variable {P : Program} {c : Cx} {R : Value → World → Prop} {a a' : Act} {w w' : World} {k : List Item}

theorem Run.op {ops : Array Oper} {i : Nat} {rest : List Nat} {o : Oper} (ho : ops[i]? = some o) (hw : Region.wanted o (yielded ops a.tmps) = true) (hnd : ∀ c, o.op ≠ .defer c)
    (h : o.wp P a w (fun a' w' => Run P c R (.inRegion ops rest :: k) a' w') Qf) : Run P c R (.inRegion ops (i :: rest) :: k) a w := by
  intro cs hcs
  have hg := fr_op (P := P) (c := c) (a := a) (k := k) (cs := cs) (w := w) (rest := rest) ho hw hnd
  have hfin : ∀ (a : Act) v, (c.fr a (.inRegion ops (i :: rest) :: k)).finish v = c.fr (a.put o.dst v) (.inRegion ops rest :: k) := fun a v => by
    rw [fr_finish]; simp [ho]
  unfold Oper.wp at h
  cases hr : (execOp a.eval o).run P w with
  | halt x w' => rw [hr] at h; cases x <;> simp only [Oper.upon, Qf] at h
  | ok n w' =>
    rw [hr] at h
    cases n <;> simp only [Oper.upon] at h
    case value v =>
      obtain ⟨v', w'', r, d⟩ := h cs hcs
      refine ⟨v', w'', r, d.of_steps (.one (step_lone_go ?_))⟩
      rw [hg, ← hfin a v]; simp [stepG.apply, hr]
    case skip =>
      obtain ⟨v', w'', r, d⟩ := h cs hcs
      refine ⟨v', w'', r, d.of_steps (.one (step_lone_go ?_))⟩
      rw [hg, ← hfin a undef]; simp [stepG.apply, hr]
    case defer d =>
      obtain ⟨v', w'', r, dn⟩ := h cs hcs
      refine ⟨v', w'', r, dn.of_steps (.one (step_lone_go ?_))⟩
      rw [hg, ← hfin { a with defers := d :: a.defers } undef]; simp [stepG.apply, hr]
      cases hx : c.fr a (.inRegion ops (i :: rest) :: k) with
      | mk fn tmps todo defers mode kind ro => simp [Cx.fr] at hx ⊢; obtain ⟨h1, h2, h3, h4, h5, h6, h7⟩ := hx; subst h1 h2 h3 h4 h5 h6 h7; rfl
    case enter f args =>
      obtain ⟨e, w'', fr, hR, hcomes, hfn, hleave⟩ := h (c.fr a (.inRegion ops (i :: rest) :: k) :: cs)
      cases e with
      | panicked ch => exact hR.elim
      | outgrown => obtain ⟨_, _, hq⟩ := hR; exact hq.elim
      | returned v =>
        obtain ⟨v', w3, r, d⟩ := hR cs hcs
        refine ⟨v', w3, r, d.of_steps (.head (step_lone_go ?_) (Steps.trans hcomes (.one ?_)))⟩
        · rw [hg]; simp [stepG.apply, hr, Cx.fr]
        · rw [← hfin a v]; exact step_leave_returned hleave
    case row row args =>
      obtain ⟨v, w'', hR, hs⟩ := h (c.fr a (.inRegion ops (i :: rest) :: k)) cs
      obtain ⟨v', w3, r, d⟩ := hR cs hcs
      refine ⟨v', w3, r, d.of_steps (.head (m₁ := lone (Frame.ofRow P row args .normal) (c.fr a (.inRegion ops (i :: rest) :: k) :: cs) w') (step_lone_go ?_) ?_)⟩
      · rw [hg]; simp [stepG.apply, hr, Cx.fr]
      · rw [← hfin a v]; exact hs

theorem Run.op_skip {ops : Array Oper} {i : Nat} {rest : List Nat} {o : Oper} (ho : ops[i]? = some o) (hw : Region.wanted o (yielded ops a.tmps) = false)
    (h : Run P c R (.inRegion ops rest :: k) (a.put o.dst undef) w) : Run P c R (.inRegion ops (i :: rest) :: k) a w :=
  h.step fun cs => by
    have := fr_op_skip (P := P) (c := c) (a := a) (k := k) (w := w) (ops := ops) (i := i) (rest := rest) (cs := cs) (by simp [ho, hw])
    rw [this, ho]; rfl

/-- An operation that calls a loop's body. -/
theorem Run.op_round {ops : Array Oper} {i : Nat} {rest : List Nat} {o : Oper} (ho : ops[i]? = some o) (hw : Region.wanted o (yielded ops a.tmps) = true) (hnd : ∀ c, o.op ≠ .defer c)
    {l : Nat} {f : FuncId} {tmps : Array Value} {assign body : Code} (hr : (execOp a.eval o).run P w = .ok (.round l f tmps assign body) w')
    (h : RoundV P l f tmps assign body w' fun v w'' => Run P c R (.inRegion ops rest :: k) (a.put o.dst v) w'') : Run P c R (.inRegion ops (i :: rest) :: k) a w := by
  intro cs hcs
  have hg := fr_op (P := P) (c := c) (a := a) (k := k) (cs := cs) (w := w) (rest := rest) ho hw hnd
  obtain ⟨v, w'', hR, hs⟩ := h (c.fr a (.inRegion ops (i :: rest) :: k)) cs
  obtain ⟨v', w3, r, d⟩ := hR cs hcs
  refine ⟨v', w3, r, d.of_steps (.head (m₁ := lone (Frame.round l f tmps assign body .normal) (c.fr a (.inRegion ops (i :: rest) :: k) :: cs) w') (step_lone_go ?_) ?_)⟩
  · rw [hg]; simp [stepG.apply, hr, Cx.fr]
  · have : (c.fr a (.inRegion ops (i :: rest) :: k)).finish v = c.fr (a.put o.dst v) (.inRegion ops rest :: k) := by rw [fr_finish]; simp [ho]
    rw [← this]; exact hs

theorem Run.ops {ops : Array Oper} (hnd : ∀ (i : Nat) (o : Oper), ops[i]? = some o → ∀ c, o.op ≠ .defer c) : ∀ (l : List Nat) (a : Act) (w : World),
    wpOps P ops (fun | .normal, a', w' => Run P c R k a' w' | _, _, _ => False) l a w → Run P c R (.inRegion ops l :: k) a w
  | [], _, _, h => Run.region_end h
  | i :: rest, a, w, h => by
    simp only [wpOps] at h
    cases ho : ops[i]? with
    | none =>
      rw [ho] at h
      refine (Run.ops hnd rest a w h).step fun cs => ?_
      have := fr_op_skip (P := P) (c := c) (a := a) (k := k) (w := w) (ops := ops) (i := i) (rest := rest) (cs := cs) (by simp [ho])
      rw [this, ho]; rfl
    | some o =>
      rw [ho] at h
      simp only at h
      split at h
      · rename_i hw
        rcases h with h | ⟨_, _, _, hq⟩
        · refine Run.op ho hw (hnd i o ho) ?_
          have h2 := Oper.wp_mono (fun a' w' => Run.ops hnd rest a' w') h
          revert h2
          unfold Oper.wp
          generalize (execOp a.eval o).run P w = r
          intro h2
          cases r with
          | ok n w' =>
            cases n <;> simp only [Oper.upon] at h2 ⊢ <;> first
              | exact h2
              | exact Calls.mono h2 fun e w'' he => by cases e <;> first | exact he | (obtain ⟨_, _, hq⟩ := he; exact hq.elim)
          | halt x w' => cases x <;> simp only [Oper.upon] at h2 ⊢
        · exact hq.elim
      · rename_i hw
        exact Run.op_skip ho (by simpa using hw) (Run.ops hnd rest _ _ h)

/-- A region whose order is drawn. -/
theorem Run.region_any {id : Nat} {ops : Array Oper} (hm : P.follows .mixedOrders = true) (hnd : ∀ (i : Nat) (o : Oper), ops[i]? = some o → ∀ c, o.op ≠ .defer c)
    (h : wpAny P .any ops (fun | .normal, a', w' => Run P c R k a' w' | _, _, _ => False) ops.size (Array.replicate ops.size false) a { w with drawn := w.drawn + 1 }) :
    Run P c R (.code (.region id ops true) :: k) a w :=
  Run.region_draw fun t => by
    simp only [Region.schedule, hm, Bool.true_or, if_true]
    exact Run.ops hnd _ _ _ (wpAny_sound ops.size t _ a _ h)
end
end Go.Proofs.Ytbhmhindommaeaa
