/-
  The frame of a call as a machine that runs a list of items; its rules, one a kind of code. Nothing here speaks of a program.
-/
import Derived.Calls
import Derived.Deep.Quiet
import Derived.Below
namespace Go.Proofs.Ytbhmhindommaeaa

/-- Whose frame: the function, and the loop whose round it is. -/
structure Cx where
  fn : FuncId
  ro : Option Nat

def Cx.fr (c : Cx) (a : Act) (items : List Item) : Frame :=
  { fn := c.fn, tmps := a.tmps, todo := items, defers := a.defers, mode := .run, kind := .normal, roundOf := c.ro }

def Done (P : Program) (c : Cx) (m : Machine) (cs : List Frame) (v : Value) (w' : World) : Prop :=
  match c.ro with
  | none => ∃ fr, Steps P m (lone fr cs w') ∧ fr.fn = c.fn ∧ fr.leaving P w' (.returned v)
  | some _ => ∃ caller cs', cs = caller :: cs' ∧ Steps P m (lone (caller.finish v) cs' w')

def Run (P : Program) (c : Cx) (R : Value → World → Prop) (items : List Item) (a : Act) (w : World) : Prop :=
  ∀ cs, (c.ro.isSome → cs ≠ []) → ∃ v w', R v w' ∧ Done P c (lone (c.fr a items) cs w) cs v w'

section
variable {P : Program} {c : Cx} {R : Value → World → Prop} {a a' : Act} {w w' : World} {k : List Item}

theorem Done.of_steps {m m₁ : Machine} {cs : List Frame} {v : Value} (h : Steps P m m₁) (h' : Done P c m₁ cs v w') : Done P c m cs v w' := by
  unfold Done at *
  cases hr : c.ro with
  | none => simp only [hr] at h' ⊢; obtain ⟨fr, hs, r⟩ := h'; exact ⟨fr, h.trans hs, r⟩
  | some l => simp only [hr] at h' ⊢; obtain ⟨cl, cs', e, hs⟩ := h'; exact ⟨cl, cs', e, h.trans hs⟩

theorem Run.steps {items items' : List Item} (h : ∀ cs, Steps P (lone (c.fr a items) cs w) (lone (c.fr a' items') cs w'))
    (h' : Run P c R items' a' w') : Run P c R items a w := fun cs hcs =>
  let ⟨v, w'', r, d⟩ := h' cs hcs
  ⟨v, w'', r, d.of_steps (h cs)⟩

theorem Run.step {items items' : List Item} (h : ∀ cs, step P (lone (c.fr a items) cs w) = .next (lone (c.fr a' items') cs w'))
    (h' : Run P c R items' a' w') : Run P c R items a w := h'.steps fun cs => .one (h cs)

theorem fr_eval (x : Operand) (items : List Item) : (c.fr a items).eval x = a.eval x := by cases x <;> rfl
theorem fr_eval' (items : List Item) : (c.fr a items).eval = a.eval := funext fun x => fr_eval x items

theorem Run.skip (h : Run P c R k a w) : Run P c R (.code .skip :: k) a w := h.step fun cs => step_lone_go (by simp [stepG, stepG.exec, Cx.fr])
theorem Run.inBlock {id : Nat} (h : Run P c R k a w) : Run P c R (.inBlock id :: k) a w := h.step fun cs => step_lone_go (by simp [stepG, stepG.exec, Cx.fr])
theorem Run.inScope {b : Code} (h : Run P c R k a w) : Run P c R (.inScope b :: k) a w := h.step fun cs => step_lone_go (by simp [stepG, stepG.exec, Cx.fr])
theorem Run.label {l : Nat} (h : Run P c R k a w) : Run P c R (.code (.label l) :: k) a w := h.step fun cs => step_lone_go (by simp [stepG, stepG.exec, Cx.fr])
theorem Run.seq {x y : Code} (h : Run P c R (.code x :: .code y :: k) a w) : Run P c R (.code (.seq x y) :: k) a w := h.step fun cs => step_lone_go (by simp [stepG, stepG.exec, Cx.fr])
theorem Run.block {id : Nat} {x : Code} (h : Run P c R (.code x :: .inBlock id :: k) a w) : Run P c R (.code (.block id x) :: k) a w := h.step fun cs => step_lone_go (by simp [stepG, stepG.exec, Cx.fr])
theorem Run.scope {x : Code} (h : Run P c R (.code x :: .inScope x :: k) a w) : Run P c R (.code (.scope x) :: k) a w := h.step fun cs => step_lone_go (by simp [stepG, stepG.exec, Cx.fr])
theorem Run.loop {x : Code} (h : Run P c R (.code x :: .inLoop x :: k) a w) : Run P c R (.code (.loop x) :: k) a w := h.step fun cs => step_lone_go (by simp [stepG, stepG.exec, Cx.fr])
theorem Run.inLoop {x : Code} (h : Run P c R (.code x :: .inLoop x :: k) a w) : Run P c R (.inLoop x :: k) a w := h.step fun cs => step_lone_go (by simp [stepG, stepG.exec, Cx.fr])
theorem Run.exit {id : Nat} {k' : List Item} (hk : exitTo id k = some k') (h : Run P c R k' a w) : Run P c R (.code (.exit id) :: k) a w := h.step fun cs => step_lone_go (by simp [stepG, stepG.exec, Cx.fr, hk])
theorem Run.goto {l : Nat} {k' : List Item} (hk : gotoIn l k = some k') (h : Run P c R k' a w) : Run P c R (.code (.goto l) :: k) a w := h.step fun cs => step_lone_go (by simp [stepG, stepG.exec, Cx.fr, hk])
theorem Run.cond {x y : Code} {o : Operand} {t : Bool} (hc : a.eval o = .bool t) (h : Run P c R (.code (if t then x else y) :: k) a w) : Run P c R (.code (.cond o x y) :: k) a w :=
  h.step fun cs => step_lone_go (by
    have := fr_eval (c := c) (a := a) o (.code (.cond o x y) :: k)
    simp only [Cx.fr] at this
    simp [stepG, stepG.exec, Cx.fr, this, hc])
theorem Run.region {id : Nat} {ops : Array Oper} (h : Run P c R (.inRegion ops (List.range ops.size) :: k) a w) : Run P c R (.code (.region id ops false) :: k) a w := h.step fun cs => step_lone_go (by simp [stepG, stepG.exec, Cx.fr])
theorem Run.region_end {ops : Array Oper} (h : Run P c R k a w) : Run P c R (.inRegion ops [] :: k) a w := h.step fun cs => step_lone_go (by simp [stepG, stepG.exec, Cx.fr])
theorem Run.region_draw {id : Nat} {ops : Array Oper} (h : ∀ t, Run P c R (.inRegion ops (Region.schedule (P.follows .mixedOrders) ops t) :: k) a { w with drawn := w.drawn + 1 }) : Run P c R (.code (.region id ops true) :: k) a w :=
  fun cs hcs => by
    obtain ⟨v, w'', r, d⟩ := h (w.tape w.drawn (.order c.fn id)) cs hcs
    exact ⟨v, w'', r, d.of_steps (.one (step_lone_go (by simp [stepG, stepG.exec, Cx.fr, choose, Sem.run, Question.forced, Question.cut])))⟩

/-- The end of a call that defers nothing. -/
theorem Run.leave {fn : Func} {v : Value} {items : List Item} (hi : items = [] ∨ ∃ k, items = .code .ret :: k) (hro : c.ro = none) (hf : P.funcs[c.fn]? = some fn) (hd : a.defers = [])
    (hr : (results fn a.tmps).run P w = .ok v w) (hR : R v w) : Run P c R items a w := fun cs _ => by
  refine ⟨v, w, hR, ?_⟩
  unfold Done
  simp only [hro]
  refine ⟨{ c.fr a items with mode := .returning }, .one (step_lone_go ?_), rfl, rfl, hd, rfl, fn, hf, hr⟩
  rcases hi with rfl | ⟨k, rfl⟩ <;> simp [stepG, stepG.exec, Cx.fr, hro]

theorem fr_finish (ops : Array Oper) (i : Nat) (rest : List Nat) (v : Value) :
    (c.fr a (.inRegion ops (i :: rest) :: k)).finish v = c.fr (a.put ((ops[i]?).bind (·.dst)) v) (.inRegion ops rest :: k) := by
  cases h : (ops[i]?).bind (·.dst) <;> simp [Frame.finish, Cx.fr, Act.put, h]

theorem fr_op_skip {ops : Array Oper} {i : Nat} {rest : List Nat} {cs : List Frame} (h : ((ops[i]?).map (Region.wanted · (yielded ops a.tmps))).getD false = false) :
    step P (lone (c.fr a (.inRegion ops (i :: rest) :: k)) cs w) = .next (lone (c.fr (a.put ((ops[i]?).bind (·.dst)) undef) (.inRegion ops rest :: k)) cs w) := by
  rw [← fr_finish]
  exact step_lone_go (by
    have h' := h
    simp only [Cx.fr] at *
    simp [stepG, stepG.exec, h'])

theorem fr_op {ops : Array Oper} {i : Nat} {rest : List Nat} {cs : List Frame} {o : Oper} (ho : ops[i]? = some o) (hw : Region.wanted o (yielded ops a.tmps) = true) (hnd : ∀ c, o.op ≠ .defer c) :
    stepG P true { frame := c.fr a (.inRegion ops (i :: rest) :: k), callers := cs, status := .running, dying := none } w =
      stepG.apply P true (c.fr a (.inRegion ops (i :: rest) :: k)) cs none (execOp a.eval o) w := by
  have he := fr_eval' (c := c) (a := a) (.inRegion ops (i :: rest) :: k)
  simp only [Cx.fr] at he
  cases hr : c.ro with
  | none => simp [stepG, stepG.exec, stepG.oper, Frame.oper?, Cx.fr, ho, hw, hr]; rw [← he]; simp [hr]
  | some l =>
    cases hop : o.op <;> first
      | (exfalso; exact hnd _ hop)
      | (simp [stepG, stepG.exec, stepG.oper, Frame.oper?, Cx.fr, ho, hw, hr, hop]; rw [← he]; simp [hr])
end
end Go.Proofs.Ytbhmhindommaeaa
