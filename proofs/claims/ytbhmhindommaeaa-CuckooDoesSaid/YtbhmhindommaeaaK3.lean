/-
  A region whose order is drawn: one walk in an order of one's own serves every order.
-/
import Derived.Test.YtbhmhindommaeaaK2
namespace Go.Proofs.Ytbhmhindommaeaa

section
variable {P : Program} {ops : Array Oper} {md : Region.Mode} {C : World → Prop} {EM : List Nat}

/-- In every world of the class the operation yields v, and turns nothing. -/
def YieldC (P : Program) (ops : Array Oper) (C : World → Prop) (o : Oper) (v : Value) (a : Act) : Prop :=
  (Region.wanted o (yielded ops a.tmps) = true ∧ ∀ w, C w → (execOp a.eval o).run P w = .ok (.value v) w) ∨
  (Region.wanted o (yielded ops a.tmps) = false ∧ v = undef)

theorem YieldC.of_same {o : Oper} {v : Value} {a a' : Act} (hy : YieldC P ops C o v a) (he : execOp a'.eval o = execOp a.eval o)
    (hw : Region.wanted o (yielded ops a'.tmps) = Region.wanted o (yielded ops a.tmps)) : YieldC P ops C o v a' := by
  unfold YieldC at *
  rw [he, hw]
  exact hy

def Qn : Exit → Act → World → Prop := fun _ _ _ => False

theorem YieldC.wpOp {i : Nat} {o : Oper} {v : Value} {a : Act} {w : World} (hi : ops[i]? = some o) (hC : C w) (hy : YieldC P ops C o v a) {K : Act → World → Prop} (h : K (a.put o.dst v) w) : wpOp P ops Qn i K a w := by
  unfold Go.wpOp
  simp only [hi]
  rcases hy with ⟨hw, hv⟩ | ⟨hw, rfl⟩
  · simp only [hw, if_true]
    left
    unfold Oper.wp
    rw [hv w hC]
    exact h
  · simp only [hw, Bool.false_eq_true, if_false]; exact h

theorem wpOp_put {j : Nat} {oi oj : Oper} {v : Value} (hj : ops[j]? = some oj) (hap : oi.apart ops oj = true)
    (hsi : ∀ cs b, oi.op ≠ .select cs b) (hsj : ∀ cs b, oj.op ≠ .select cs b) {K : Act → World → Prop} {a : Act} {w : World}
    (hy : YieldC P ops C oi v a) (h : wpOp P ops Qn j K (a.put oi.dst v) w) :
    wpOp P ops Qn j (fun a' w' => K (a'.put oi.dst v) w' ∧ YieldC P ops C oi v a') a w := by
  obtain ⟨h1, h2, h3⟩ := Oper.apart_spec hap
  have keep : ∀ (a : Act), YieldC P ops C oi v a → ∀ u, YieldC P ops C oi v (a.put oj.dst u) := fun a hy u =>
    hy.of_same (execOp_put oi hsi a oj.dst u h3) (wanted_put oi a oj.dst u h3)
  unfold Go.wpOp at *
  simp only [hj] at *
  rw [wanted_put oj a oi.dst v h1] at h
  split
  · rename_i hw
    simp only [hw, if_true] at h
    rcases h with h | ⟨_, _, _, hq⟩
    · left
      unfold Oper.wp at *
      rw [execOp_put oj hsj a oi.dst v h1] at h
      generalize (execOp a.eval oj).run P w = r at *
      cases r with
      | halt x w' => cases x <;> simp only [Oper.upon, Qn] at h
      | ok n w' =>
        cases n <;> simp only [Oper.upon] at h ⊢
        case value u => exact ⟨by rw [← Act.put_comm a v u h2]; exact h, keep a hy u⟩
        case skip => exact ⟨by rw [← Act.put_comm a v undef h2]; exact h, keep a hy undef⟩
        case defer d =>
          refine ⟨?_, ?_⟩
          · rw [← Act.put_comm _ v undef h2, ← Act.put_defers]; exact h
          · exact keep { a with defers := d :: a.defers } (hy.of_same rfl rfl) undef
        case enter f args =>
          refine Calls.mono h fun e w'' he => ?_
          cases e with
          | returned u => exact ⟨by rw [← Act.put_comm a v u h2]; exact he, keep a hy u⟩
          | panicked ch => exact he
          | outgrown => exact he
        case row row args =>
          exact Rows.mono h fun u w'' he => ⟨by rw [← Act.put_comm a v u h2]; exact he, keep a hy u⟩
    · exact hq.elim
  · rename_i hw
    simp only [hw] at h
    exact ⟨by rw [← Act.put_comm a v undef h2]; exact h, keep a hy undef⟩

/-- Whatever order is picked from here on; what is in EM keeps the class. -/
def wpAnyC (P : Program) (md : Region.Mode) (ops : Array Oper) (C : World → Prop) (EM : List Nat) (Q : Act → World → Prop) : Nat → Array Bool → Act → World → Prop
  | 0, listed, a, w => Region.ready md ops listed = [] ∧ Q a w
  | fuel + 1, listed, a, w =>
    (Region.ready md ops listed = [] → Q a w) ∧
    ∀ i ∈ Region.ready md ops listed, wpOp P ops Qn i (fun a' w' => (i ∈ EM → C w') ∧ wpAnyC P md ops C EM Q fuel (listed.setIfInBounds i true) a' w') a w

theorem wpOp_exits {i : Nat} {a : Act} {w : World} {K : Act → World → Prop} {Q : Exit → Act → World → Prop} (h : wpOp P ops Qn i K a w) : wpOp P ops Q i K a w := by
  unfold Go.wpOp at *
  split
  · rename_i h0; simpa [h0] using h
  · rename_i o h0
    simp only [h0] at h
    split
    · rename_i hw
      simp only [hw, if_true] at h
      rcases h with h | ⟨_, _, _, hq⟩
      · left
        unfold Oper.wp at *
        generalize (execOp a.eval o).run P w = r at *
        cases r with
        | halt x w' => cases x <;> simp only [Oper.upon, Qn] at h
        | ok n w' =>
          cases n <;> simp only [Oper.upon] at h ⊢ <;> first
            | exact h
            | exact Calls.mono h fun e w'' he => by cases e <;> first | exact he | exact he.elim | (obtain ⟨_, _, hq⟩ := he; exact hq.elim)
      · exact hq.elim
    · rename_i hw; simpa [hw] using h

theorem wpAny_of_C {Q : Act → World → Prop} {Q' : Exit → Act → World → Prop} (hQ : ∀ a w, Q a w → Q' .normal a w) : ∀ (fuel : Nat) (listed : Array Bool) (a : Act) (w : World),
    wpAnyC P md ops C EM Q fuel listed a w → wpAny P md ops Q' fuel listed a w
  | 0, _, _, _, h => ⟨h.1, hQ _ _ h.2⟩
  | fuel + 1, _, _, _, h => ⟨fun h0 => hQ _ _ (h.1 h0), fun i hi => wpOp_mono (fun a' w' h' => wpAny_of_C hQ fuel _ a' w' h'.2) (wpOp_exits (h.2 i hi))⟩

/-- A quiet operation that may come up now may be taken first. -/
theorem wpAnyC_first {Q : Act → World → Prop} (W : List Nat) {i : Nat} {oi : Oper} {v : Value} (hi : ops[i]? = some oi) (hsel : ∀ (j : Nat) (o : Oper) cs b, ops[j]? = some o → o.op ≠ .select cs b) :
    ∀ (fuel : Nat) (listed : Array Bool) (a : Act) (w : World), C w →
      (∀ j oj, ops[j]? = some oj → j ≠ i → listed.getD j true = false → j ∉ W → oi.apart ops oj = true ∧ j ∈ EM) →
      (∀ j ∈ W, listed.getD j true = false ∧ ∀ oj, ops[j]? = some oj → ∃ e ∈ oj.after, Region.binds md e = true ∧ (e.on = i ∨ e.on ∈ W)) →
      i ∈ Region.ready md ops listed → YieldC P ops C oi v a →
      wpAnyC P md ops C EM Q fuel (listed.setIfInBounds i true) (a.put oi.dst v) w → wpAnyC P md ops C EM Q (fuel + 1) listed a w := by
  intro fuel
  induction fuel with
  | zero =>
    intro listed a w hC _ _ hr hy H
    refine ⟨fun h => (by rw [h] at hr; cases hr), fun j hj => ?_⟩
    by_cases hji : j = i
    · subst hji; exact hy.wpOp hi hC ⟨fun _ => hC, H⟩
    · have := ready_mono hj hji
      rw [H.1] at this
      cases this
  | succ fuel ih =>
    intro listed a w hC hfree hW hr hy H
    refine ⟨fun h => (by rw [h] at hr; cases hr), fun j hj => ?_⟩
    by_cases hji : j = i
    · subst hji; exact hy.wpOp hi hC ⟨fun _ => hC, H⟩
    · have h1 := H.2 j (ready_mono hj hji)
      obtain ⟨hjun, oj, hoj, hall⟩ := mem_ready.1 hj
      have hnot : j ∉ W := fun hjW => by
        obtain ⟨_, hex⟩ := hW j hjW
        obtain ⟨e, he, hb, hon⟩ := hex oj hoj
        have h1 := hall e he hb
        have h0 : listed.getD e.on true = false := by
          rcases hon with heq | hin
          · rw [heq]; exact (mem_ready.1 hr).1
          · exact (hW _ hin).1
        rcases Nat.lt_or_ge e.on listed.size with h' | h'
        · simp [h'] at h0 h1; rw [h0] at h1; cases h1
        · simp [Array.getElem?_eq_none h'] at h1
      obtain ⟨hap, hem⟩ := hfree j oj hoj hji hjun hnot
      have h2 := wpOp_put hoj hap (fun cs b => hsel i oi cs b hi) (fun cs b => hsel j oj cs b hoj) hy h1
      have hfree' : ∀ k ok, ops[k]? = some ok → k ≠ i → (listed.setIfInBounds j true).getD k true = false →
          k ∉ W → oi.apart ops ok = true ∧ k ∈ EM := fun k ok hk hki hun hno => by
        refine hfree k ok hk hki ?_ hno
        by_cases hjk : j = k
        · subst hjk; exact hjun
        · rw [getD_set_ne true hjk] at hun; exact hun
      have hW' : ∀ k ∈ W, (listed.setIfInBounds j true).getD k true = false ∧ ∀ ok, ops[k]? = some ok → ∃ e ∈ ok.after, Region.binds md e = true ∧ (e.on = i ∨ e.on ∈ W) := fun k hk => by
        obtain ⟨h5, h6⟩ := hW k hk
        refine ⟨?_, h6⟩
        have hne : j ≠ k := fun e => hnot (by rw [e]; exact hk)
        rw [getD_set_ne true hne]; exact h5
      refine wpOp_mono (fun a' w' h3 => ⟨fun he => h3.1.1 he, ih (listed.setIfInBounds j true) a' w' (h3.1.1 hem) hfree' hW' (ready_mono hr (Ne.symm hji)) h3.2 ?_⟩) h2
      rw [Array.setIfInBounds_comm _ _ hji]
      exact h3.1.2

/-- An order of one's own: quiet operations first; where several others may come, a way for each. m: 1: it keeps the class. -/
inductive OT where
  | nil
  | q (i : Nat) (t : OT)
  | e (i : Nat) (m : Nat) (t : OT)
  | alt (a b : OT)

/-- The walk in one's own order. -/
def wpCan (P : Program) (ops : Array Oper) (C : World → Prop) (EM : List Nat) (Q : Act → World → Prop) : OT → Act → World → Prop
  | .nil, a, w => Q a w
  | .q i t, a, w => ∃ o v, ops[i]? = some o ∧ YieldC P ops C o v a ∧ wpCan P ops C EM Q t (a.put o.dst v) w
  | .e i _ t, a, w => wpOp P ops Qn i (fun a' w' => (i ∈ EM → C w') ∧ wpCan P ops C EM Q t a' w') a w
  | .alt x y, a, w => wpCan P ops C EM Q x a w ∧ wpCan P ops C EM Q y a w

def OT.heads : OT → List Nat
  | .nil => []
  | .q _ _ => []
  | .e i _ _ => [i]
  | .alt a b => a.heads ++ b.heads
def OT.depth : OT → Nat
  | .nil => 0
  | .q _ t => t.depth + 1
  | .e _ _ t => t.depth + 1
  | .alt a _ => a.depth

/-- May i come first: what has not come up and does not wait for it is apart from it and keeps the class. -/
def waitSet (md : Region.Mode) (ops : Array Oper) (i : Nat) (listed : Array Bool) : Nat → List Nat → List Nat
  | 0, W => W
  | n + 1, W => waitSet md ops i listed n ((List.range ops.size).filter fun j => match ops[j]? with
    | none => false
    | some oj => !listed.getD j true && oj.after.any (fun e => Region.binds md e && (e.on == i || W.contains e.on)))
def freeB (md : Region.Mode) (ops : Array Oper) (EM : List Nat) (i : Nat) (listed : Array Bool) : Bool :=
  let W := waitSet md ops i listed 4 []
  (W.all fun j => match ops[j]? with
    | none => false
    | some oj => !listed.getD j true && oj.after.any (fun e => Region.binds md e && (e.on == i || W.contains e.on))) &&
  match ops[i]? with
  | none => false
  | some oi => (List.range ops.size).all fun j => match ops[j]? with
    | none => true
    | some oj => j == i || listed.getD j true || W.contains j || (oi.apart ops oj && EM.contains j)

/-- What may come is what the tree has (solo: the tree stands alone, not as one of several ways). -/
def canG (md : Region.Mode) (ops : Array Oper) (EM : List Nat) : OT → Bool → Bool → Array Bool → Bool
  | .nil, solo, _, listed => solo && (Region.ready md ops listed).isEmpty
  | .q i t, solo, kept, listed => solo && (kept && (Region.ready md ops listed).contains i && freeB md ops EM i listed && canG md ops EM t true kept (listed.setIfInBounds i true))
  | .e i _ t, solo, kept, listed => (!solo || (!(Region.ready md ops listed).isEmpty && (Region.ready md ops listed).all fun j => j == i)) && canG md ops EM t true (kept && EM.contains i) (listed.setIfInBounds i true)
  | .alt x y, solo, kept, listed => (!solo || (!(Region.ready md ops listed).isEmpty && (Region.ready md ops listed).all fun j => (OT.alt x y).heads.contains j)) && ((x.depth == y.depth) && canG md ops EM x false kept listed && canG md ops EM y false kept listed)

def canB (md : Region.Mode) (ops : Array Oper) (EM : List Nat) (t : OT) (kept : Bool) (listed : Array Bool) : Bool := canG md ops EM t true kept listed
def canS (md : Region.Mode) (ops : Array Oper) (EM : List Nat) (t : OT) (kept : Bool) (listed : Array Bool) : Bool := canG md ops EM t false kept listed

theorem canB_nil (kept : Bool) (listed : Array Bool) : canB md ops EM .nil kept listed = (Region.ready md ops listed).isEmpty := by simp [canB, canG]
theorem canB_q (i : Nat) (t : OT) (kept : Bool) (listed : Array Bool) : canB md ops EM (.q i t) kept listed = (kept && (Region.ready md ops listed).contains i && freeB md ops EM i listed && canB md ops EM t kept (listed.setIfInBounds i true)) := by
  simp only [canB, canG, Bool.true_and]
theorem canB_e (i m : Nat) (t : OT) (kept : Bool) (listed : Array Bool) : canB md ops EM (.e i m t) kept listed = ((!(Region.ready md ops listed).isEmpty && (Region.ready md ops listed).all fun j => j == i) && canS md ops EM (.e i m t) kept listed) := by
  simp only [canB, canS, canG, Bool.not_true, Bool.not_false, Bool.false_or, Bool.true_or, Bool.true_and]
theorem canB_alt (x y : OT) (kept : Bool) (listed : Array Bool) : canB md ops EM (.alt x y) kept listed = ((!(Region.ready md ops listed).isEmpty && (Region.ready md ops listed).all fun j => (OT.alt x y).heads.contains j) && canS md ops EM (.alt x y) kept listed) := by
  simp only [canB, canS, canG, Bool.not_true, Bool.not_false, Bool.false_or, Bool.true_or, Bool.true_and]
theorem canS_nil (kept : Bool) (listed : Array Bool) : canS md ops EM .nil kept listed = false := by simp [canS, canG]
theorem canS_q (i : Nat) (t : OT) (kept : Bool) (listed : Array Bool) : canS md ops EM (.q i t) kept listed = false := by simp [canS, canG]
theorem canS_e (i m : Nat) (t : OT) (kept : Bool) (listed : Array Bool) : canS md ops EM (.e i m t) kept listed = canB md ops EM t (kept && EM.contains i) (listed.setIfInBounds i true) := by simp [canS, canB, canG]
theorem canS_alt (x y : OT) (kept : Bool) (listed : Array Bool) : canS md ops EM (.alt x y) kept listed = ((x.depth == y.depth) && canS md ops EM x kept listed && canS md ops EM y kept listed) := by simp [canS, canG]

def noSel (ops : Array Oper) : Bool := ops.toList.all fun o => match o.op with | .select .. => false | .defer _ => false | _ => true

theorem noSel_sel (h : noSel ops = true) (j : Nat) (o : Oper) (cs : Array SelectCase) (b : Bool) (hj : ops[j]? = some o) : o.op ≠ .select cs b := by
  intro e
  have := (List.all_eq_true.1 h) o (by simpa using Array.mem_of_getElem? hj)
  rw [e] at this
  cases this

theorem noSel_def (h : noSel ops = true) (j : Nat) (o : Oper) (hj : ops[j]? = some o) (c : Call) : o.op ≠ .defer c := by
  intro e
  have := (List.all_eq_true.1 h) o (by simpa using Array.mem_of_getElem? hj)
  rw [e] at this
  cases this

theorem freeB_spec {i : Nat} {oi : Oper} {listed : Array Bool} (hi : ops[i]? = some oi) (h : freeB md ops EM i listed = true) :
    ∃ W : List Nat, (∀ j oj, ops[j]? = some oj → j ≠ i → listed.getD j true = false → j ∉ W → oi.apart ops oj = true ∧ j ∈ EM) ∧
      ∀ j ∈ W, listed.getD j true = false ∧ ∀ oj, ops[j]? = some oj → ∃ e ∈ oj.after, Region.binds md e = true ∧ (e.on = i ∨ e.on ∈ W) := by
  unfold freeB at h
  generalize waitSet md ops i listed 4 [] = W at h
  simp only [hi, Bool.and_eq_true] at h
  obtain ⟨h1, h2⟩ := h
  refine ⟨W, fun j oj hj hji hl hno => ?_, fun j hj => ?_⟩
  · have hjs : j < ops.size := by
      rcases Nat.lt_or_ge j ops.size with h' | h'
      · exact h'
      · rw [Array.getElem?_eq_none h'] at hj; cases hj
    have := List.all_eq_true.1 h2 j (List.mem_range.2 hjs)
    simp only [hj, hl, Bool.or_false, Bool.or_eq_true, beq_iff_eq, Bool.and_eq_true] at this
    rcases this with (h3 | h3) | h3
    · exact absurd h3 hji
    · exact absurd (by simpa using h3) hno
    · exact ⟨h3.1, by simpa using h3.2⟩
  · have := List.all_eq_true.1 h1 j hj
    cases ho : ops[j]? with
    | none => simp [ho] at this
    | some oj =>
      simp only [ho, Bool.and_eq_true, Bool.not_eq_true'] at this
      refine ⟨this.1, fun ok hk => ?_⟩
      cases hk
      obtain ⟨n, hn, he⟩ := Array.any_eq_true.1 this.2
      simp only [Bool.and_eq_true, beq_iff_eq, Bool.or_eq_true] at he
      exact ⟨_, Array.getElem_mem hn, he.1, he.2.imp id (fun h => by simpa using h)⟩

theorem wpAnyC_of_can {Q : Act → World → Prop} (hs : noSel ops = true) : ∀ (t : OT),
    (∀ (kept : Bool) (listed : Array Bool) (a : Act) (w : World), canB md ops EM t kept listed = true → (kept = true → C w) → wpCan P ops C EM Q t a w → wpAnyC P md ops C EM Q t.depth listed a w) ∧
    (∀ (kept : Bool) (listed : Array Bool) (a : Act) (w : World), canS md ops EM t kept listed = true → (kept = true → C w) → wpCan P ops C EM Q t a w →
      ∃ n, t.depth = n + 1 ∧ ∀ i ∈ t.heads, wpOp P ops Qn i (fun a' w' => (i ∈ EM → C w') ∧ wpAnyC P md ops C EM Q n (listed.setIfInBounds i true) a' w') a w)
  | .nil => ⟨fun _ _ _ _ hB _ h => ⟨by simpa [canB_nil] using hB, h⟩, fun _ _ _ _ hB => by simp [canS_nil] at hB⟩
  | .q i t => ⟨fun kept listed a w hB hC h => by
      simp only [canB_q, Bool.and_eq_true] at hB
      obtain ⟨⟨⟨hk, hr⟩, hf⟩, hB'⟩ := hB
      obtain ⟨o, v, ho, hy, hK⟩ := h
      obtain ⟨W, hw1, hw2⟩ := freeB_spec ho hf
      exact wpAnyC_first W ho (fun j o' cs b hj => noSel_sel hs j o' cs b hj) t.depth listed a w (hC hk) hw1 hw2 (by simpa using hr) hy
        ((wpAnyC_of_can hs t).1 kept _ _ _ hB' hC hK), fun _ _ _ _ hB => by simp [canS_q] at hB⟩
  | .e i m t => by
    have key : ∀ (kept : Bool) (listed : Array Bool) (a : Act) (w : World), canS md ops EM (.e i m t) kept listed = true → (kept = true → C w) → wpCan P ops C EM Q (.e i m t) a w →
        wpOp P ops Qn i (fun a' w' => (i ∈ EM → C w') ∧ wpAnyC P md ops C EM Q t.depth (listed.setIfInBounds i true) a' w') a w := fun kept listed a w hB hC h =>
      wpOp_mono (fun a' w' h' => ⟨h'.1, (wpAnyC_of_can hs t).1 _ _ a' w' (by rw [canS_e] at hB; exact hB) (fun hk => by
        simp only [Bool.and_eq_true] at hk
        exact h'.1 (by simpa using hk.2)) h'.2⟩) h
    refine ⟨fun kept listed a w hB hC h => ?_, fun kept listed a w hB hC h => ⟨t.depth, rfl, fun j hj => ?_⟩⟩
    · rw [canB_e, Bool.and_eq_true, Bool.and_eq_true] at hB
      refine ⟨fun h0 => ?_, fun j hj => ?_⟩
      · rw [h0] at hB; simp at hB
      · have := List.all_eq_true.1 hB.1.2 j hj
        simp only [beq_iff_eq] at this
        subst this
        exact key kept listed a w hB.2 hC h
    · simp only [OT.heads, List.mem_singleton] at hj
      subst hj
      exact key kept listed a w hB hC h
  | .alt x y => by
    have key : ∀ (kept : Bool) (listed : Array Bool) (a : Act) (w : World), canS md ops EM (.alt x y) kept listed = true → (kept = true → C w) → wpCan P ops C EM Q (.alt x y) a w →
        ∃ n, (OT.alt x y).depth = n + 1 ∧ ∀ i ∈ (OT.alt x y).heads, wpOp P ops Qn i (fun a' w' => (i ∈ EM → C w') ∧ wpAnyC P md ops C EM Q n (listed.setIfInBounds i true) a' w') a w := fun kept listed a w hB hC h => by
      rw [canS_alt, Bool.and_eq_true, Bool.and_eq_true, beq_iff_eq] at hB
      obtain ⟨n, hn, hx⟩ := (wpAnyC_of_can hs x).2 kept listed a w hB.1.2 hC h.1
      obtain ⟨n', hn', hy⟩ := (wpAnyC_of_can hs y).2 kept listed a w hB.2 hC h.2
      have : n' = n := by have := hB.1.1; omega
      subst this
      refine ⟨n', hn, fun i hi => ?_⟩
      rcases List.mem_append.1 hi with hi | hi
      · exact hx i hi
      · exact hy i hi
    refine ⟨fun kept listed a w hB hC h => ?_, key⟩
    rw [canB_alt, Bool.and_eq_true, Bool.and_eq_true] at hB
    obtain ⟨n, hn, hk⟩ := key kept listed a w hB.2 hC h
    rw [hn]
    refine ⟨fun h0 => ?_, fun j hj => hk j (by simpa using List.all_eq_true.1 hB.1.2 j hj)⟩
    rw [h0] at hB; simp at hB

theorem Run.region_can {c : Cx} {R : Value → World → Prop} {a : Act} {w : World} {k : List Item} {id : Nat} (hm : P.follows .mixedOrders = true) (hs : noSel ops = true) (l : OT) (EM : List Nat) (C : World → Prop)
    (hl : l.depth = ops.size) (hB : canB .any ops EM l true (Array.replicate ops.size false) = true) (hC : C { w with drawn := w.drawn + 1 })
    (h : wpCan P ops C EM (fun a' w' => Run P c R k a' w') l a { w with drawn := w.drawn + 1 }) : Run P c R (.code (.region id ops true) :: k) a w := by
  refine Run.region_any hm (fun i o hi => noSel_def hs i o hi) ?_
  refine wpAny_of_C (Q := fun a' w' => Run P c R k a' w') (fun _ _ h => h) _ _ _ _ (?_ : wpAnyC P .any ops C EM _ _ _ _ _)
  rw [← hl]
  have := (wpAnyC_of_can (P := P) (C := C) (md := .any) hs l).1 true (Array.replicate ops.size false) a _ hB (fun _ => hC) h
  rwa [hl] at this ⊢
end
end Go.Proofs.Ytbhmhindommaeaa
