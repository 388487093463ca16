/-
  Regions as lists of operations: in order (RO), or in an order of one's own where the order is drawn (DO).
-/
import Derived.Test.YtbhmhindommaeaaK4
namespace Go.Proofs.Ytbhmhindommaeaa

structure OpX where
  dst : Option Tmp
  op : Op
  ty : TypeId
  guard : Option (Tmp × Bool)

def OpX.oper (o : OpX) : Oper := ⟨o.dst, o.op, o.ty, "", #[], none⟩

def wantedT (a : Act) : Option (Tmp × Bool) → Bool
  | none => true
  | some (t, b) => match a.tmps[t]? with
    | some (.bool x) => x == b
    | _ => false

/-- One operation: what becomes of it. -/
def opW (P : Program) (o : OpX) (K : Act → World → Prop) (a : Act) (w : World) : Prop :=
  Oper.wp P o.oper a w K Qf ∨
    ∃ l f tmps as body w', (execOp a.eval o.oper).run P w = .ok (.round l f tmps as body) w' ∧ RoundV P l f tmps as body w' fun v w'' => K (a.put o.dst v) w''

def RO (P : Program) (c : Cx) (R : Value → World → Prop) : List OpX → List Item → Act → World → Prop
  | [], k, a, w => Run P c R k a w
  | o :: os, k, a, w => if wantedT a o.guard then opW P o (RO P c R os k) a w else RO P c R os k (a.put o.dst undef) w

/-- An order of one's own, the operations in it. -/
inductive OX where
  | nil
  | q (o : OpX) (t : OX)
  | e (o : OpX) (m : Nat) (t : OX)
  | alt (a b : OX)

/-- q: quiet in the class; e: keeps the class where m is 1. -/
def DO (P : Program) (c : Cx) (R : Value → World → Prop) (C : World → Prop) : OX → List Item → Act → World → Prop
  | .nil, k, a, w => Run P c R k a w
  | .q o t, k, a, w => ∃ v, ((wantedT a o.guard = true ∧ ∀ w, C w → (execOp a.eval o.oper).run P w = .ok (.value v) w) ∨ (wantedT a o.guard = false ∧ v = undef)) ∧ DO P c R C t k (a.put o.dst v) w
  | .e o 1 t, k, a, w => if wantedT a o.guard then Oper.wp P o.oper a w (fun a' w' => C w' ∧ DO P c R C t k a' w') Qf else (C w ∧ DO P c R C t k (a.put o.dst undef) w)
  | .e o _ t, k, a, w => if wantedT a o.guard then Oper.wp P o.oper a w (DO P c R C t k) Qf else DO P c R C t k (a.put o.dst undef) w
  | .alt x y, k, a, w => DO P c R C x k a w ∧ DO P c R C y k a w

def guardOf (ops : Array Oper) : Option (Nat × Bool) → Option (Tmp × Bool)
  | none => none
  | some (j, b) => some ((((ops[j]?).bind (·.dst)).getD 0), b)

def OpX.of (ops : Array Oper) (o : Oper) : OpX := ⟨o.dst, o.op, o.type, guardOf ops o.guard⟩

/-- Every guard has a temporary. -/
def gOk (ops : Array Oper) : Bool := ops.toList.all fun o => match o.guard with
  | none => true
  | some (j, _) => ((ops[j]?).bind (·.dst)).isSome

def flatOf (ops : Array Oper) : List OpX := ops.toList.map (OpX.of ops)
def flatD (ops : Array Oper) : OT → OX
  | .nil => .nil
  | .q i t => .q (OpX.of ops (ops.getD i default)) (flatD ops t)
  | .e i m t => .e (OpX.of ops (ops.getD i default)) m (flatD ops t)
  | .alt x y => .alt (flatD ops x) (flatD ops y)

/-- The indexes are in bounds; an operation that is said to keep the class is never said not to. -/
def otOk (n : Nat) (EM : List Nat) : OT → Bool
  | .nil => true
  | .q i t => decide (i < n) && otOk n EM t
  | .e i m t => decide (i < n) && (m == 1 || !EM.contains i) && otOk n EM t
  | .alt x y => otOk n EM x && otOk n EM y
def emOf : OT → List Nat
  | .nil => []
  | .q i t => i :: emOf t
  | .e i m t => if m == 1 then i :: emOf t else emOf t
  | .alt x _ => emOf x

theorem wanted_of {ops : Array Oper} {o : Oper} {i : Nat} (hg : gOk ops = true) (ho : ops[i]? = some o) (a : Act) : Region.wanted o (yielded ops a.tmps) = wantedT a (guardOf ops o.guard) := by
  unfold Region.wanted
  cases h : o.guard with
  | none => rfl
  | some g =>
    obtain ⟨j, b⟩ := g
    have := List.all_eq_true.1 hg o (by
      have := Array.mem_of_getElem? ho
      simpa using this)
    simp only [h] at this
    obtain ⟨t, ht⟩ := Option.isSome_iff_exists.1 this
    simp only [guardOf, ht, Option.getD_some, wantedT, yielded, Option.bind_some]
    cases h2 : a.tmps[t]? with
    | none => rfl
    | some v => cases v <;> rfl

theorem execOp_oper (e : Operand → Value) (o : Oper) : execOp e o = execOp e (⟨o.dst, o.op, o.type, "", #[], none⟩ : Oper) := rfl
theorem wp_oper {P : Program} {o : Oper} {a : Act} {w : World} {K : Act → World → Prop} {Q : Exit → Act → World → Prop} :
    Oper.wp P (⟨o.dst, o.op, o.type, "", #[], none⟩ : Oper) a w K Q → Oper.wp P o a w K Q := fun h => h

section
variable {P : Program} {c : Cx} {R : Value → World → Prop} {k : List Item}

theorem opW_mono {o : OpX} {K K' : Act → World → Prop} (h : ∀ a w, K a w → K' a w) {a : Act} {w : World} (hh : opW P o K a w) : opW P o K' a w := by
  rcases hh with hh | ⟨l, f, tmps, as, body, w', hr, hR⟩
  · exact .inl (Oper.wp_mono h hh)
  · exact .inr ⟨l, f, tmps, as, body, w', hr, fun cl cs => let ⟨v, w'', r, s⟩ := hR cl cs; ⟨v, w'', h _ _ r, s⟩⟩

theorem RO_run {ops : Array Oper} (hg : gOk ops = true) (hs : noSel ops = true) : ∀ (l : List Oper) (n : Nat), (∀ j, l[j]? = ops[n + j]?) → ∀ (a : Act) (w : World), RO P c R (l.map (OpX.of ops)) k a w →
    Run P c R (.inRegion ops (List.range' n l.length) :: k) a w
  | [], _, _, _, _, h => Run.region_end h
  | o :: l, n, hl, a, w, h => by
    have h0 : ops[n]? = some o := by simpa using (hl 0).symm
    simp only [List.map_cons, RO] at h
    simp only [List.length_cons, List.range'_succ]
    have ih := RO_run hg hs l (n + 1) (fun j => by have := hl (j + 1); simpa [Nat.add_assoc, Nat.add_comm 1 j] using this)
    rw [show (OpX.of ops o).guard = guardOf ops o.guard from rfl, ← wanted_of hg h0] at h
    split at h
    · rename_i hw
      rcases h with h | ⟨l', f, tmps, as, body, w', hr, hR⟩
      · exact Run.op h0 hw (noSel_def hs n o h0) (Oper.wp_mono (fun a' w' => ih a' w') (wp_oper h))
      · exact Run.op_round h0 hw (noSel_def hs n o h0) hr fun cl cs => let ⟨v, w'', r, s⟩ := hR cl cs; ⟨v, w'', ih _ _ r, s⟩
    · rename_i hw
      exact Run.op_skip h0 (by simpa using hw) (ih _ _ h)

theorem wpCan_of_DO {ops : Array Oper} {C : World → Prop} {EM : List Nat} (hg : gOk ops = true) : ∀ (t : OT), otOk ops.size EM t = true → ∀ (a : Act) (w : World), DO P c R C (flatD ops t) k a w →
    wpCan P ops C EM (fun a' w' => Run P c R k a' w') t a w
  | .nil, _, _, _, h => h
  | .q i t, hl, a, w, h => by
    simp only [otOk, Bool.and_eq_true, decide_eq_true_eq] at hl
    obtain ⟨hi, hl⟩ := hl
    have h0 : ops[i]? = some (ops.getD i default) := by simp [hi]
    have ih := wpCan_of_DO (C := C) hg t hl
    have hgu : ∀ a : Act, wantedT a (OpX.of ops (ops.getD i default)).guard = Region.wanted (ops.getD i default) (yielded ops a.tmps) := fun a => (wanted_of hg h0 a).symm
    simp only [flatD, DO] at h
    generalize ops.getD i default = od at h h0 hgu
    obtain ⟨v, hv, hK⟩ := h
    rw [hgu a] at hv
    exact ⟨_, v, h0, hv, ih _ _ hK⟩
  | .e i m t, hl, a, w, h => by
    simp only [otOk, Bool.and_eq_true, decide_eq_true_eq] at hl
    obtain ⟨⟨hi, hm⟩, hl⟩ := hl
    have h0 : ops[i]? = some (ops.getD i default) := by simp [hi]
    have ih := wpCan_of_DO (C := C) hg t hl
    have hgu : ∀ a : Act, wantedT a (OpX.of ops (ops.getD i default)).guard = Region.wanted (ops.getD i default) (yielded ops a.tmps) := fun a => (wanted_of hg h0 a).symm
    simp only [flatD] at h
    generalize ops.getD i default = od at h h0 hgu
    by_cases h1 : m = 1
    · subst h1
      simp only [DO] at h
      simp only [wpCan, wpOp, h0]
      rw [hgu a] at h
      by_cases hw : Region.wanted od (yielded ops a.tmps) = true
      · rw [if_pos hw] at h ⊢
        exact .inl (Oper.wp_mono (fun a' w' h' => ⟨fun _ => h'.1, ih _ _ h'.2⟩) (wp_oper h))
      · rw [if_neg hw] at h ⊢
        exact ⟨fun _ => h.1, ih _ _ h.2⟩
    · have hn : i ∉ EM := by
        have : (m == 1) = false := by simpa using h1
        simpa [this] using hm
      rw [DO.eq_4 _ _ _ _ _ _ _ _ _ _ h1] at h
      simp only [wpCan, wpOp, h0]
      rw [hgu a] at h
      by_cases hw : Region.wanted od (yielded ops a.tmps) = true
      · rw [if_pos hw] at h ⊢
        exact .inl (Oper.wp_mono (fun a' w' h' => ⟨fun he => absurd he hn, ih _ _ h'⟩) (wp_oper h))
      · rw [if_neg hw] at h ⊢
        exact ⟨fun he => absurd he hn, ih _ _ h⟩
  | .alt x y, hl, a, w, h => by
    simp only [otOk, Bool.and_eq_true] at hl
    exact ⟨wpCan_of_DO hg x hl.1 a w h.1, wpCan_of_DO hg y hl.2 a w h.2⟩

/-- What is checked of a drawn region by running a program. -/
def drawOk (ops : Array Oper) (l : OT) : Bool :=
  noSel ops && gOk ops && (l.depth == ops.size) && otOk ops.size (emOf l) l &&
  (canB .any ops (emOf l) l true (Array.replicate ops.size false))

variable {nt : Nat} {w0 : World} {S0 : List Nat} {df : List Deferred} {ρ ρ' : Env} {Fs Fs' : List Hp} {bl bl' : Blks} {sl sl' : List OwnS}

theorem Cov.region {id : Nat} {ops : Array Oper} (hg : (gOk ops && noSel ops) = true) (h : Cov nt w0 S0 df ρ Fs bl sl (RO P c R (flatOf ops) k)) :
    Cov nt w0 S0 df ρ Fs bl sl (Run P c R (.code (.region id ops false) :: k)) := fun a w hf hi => by
  simp only [Bool.and_eq_true] at hg
  refine Run.region ?_
  have := RO_run (P := P) (c := c) (R := R) (k := k) hg.1 hg.2 ops.toList 0 (by simp) a w (h a w hf hi)
  simpa [List.range_eq_range'] using this

theorem Cov.region_end (h : Cov nt w0 S0 df ρ Fs bl sl (Run P c R k)) : Cov nt w0 S0 df ρ Fs bl sl (RO P c R [] k) := h

/-- The worlds that show what a drawn region's quiet operations read. -/
def Cls (Fs : List Hp) (bl : Blks) : World → Prop := fun w => (∀ G ∈ Fs, HpIn G w) ∧ ∀ p ∈ bl, w.heap[p.1]? = some p.2

theorem Inv.drawn {w : World} (h : Inv w0 S0 Fs bl sl w) : Inv w0 S0 Fs bl sl { w with drawn := w.drawn + 1 } := by
  obtain ⟨m, k, n, mi, ap⟩ := h
  exact ⟨⟨m.fs, m.own, fun s hs => OwnS.same (m.slh s hs) fun _ _ => rfl⟩, ⟨k.os, k.tape, k.output, k.size, k.block⟩, n, mi, ap⟩

theorem Cls.of_inv {w : World} {Fs0 : List Hp} {bl0 : Blks} (h : Inv w0 S0 Fs bl sl w) (h1 : ∀ G ∈ Fs0, G ∈ Fs) (h2 : ∀ p ∈ bl0, p ∈ bl) : Cls Fs0 bl0 w :=
  ⟨fun G hG => h.mem.fs G (h1 G hG), fun p hp => h.mem.own p (h2 p hp)⟩

theorem Cov.draw {id : Nat} {ops : Array Oper} (l : OT) (Fs0 : List Hp) (bl0 : Blks) (hm : P.follows .mixedOrders = true) (hok : drawOk ops l = true) (h1 : ∀ G ∈ Fs0, G ∈ Fs) (h2 : ∀ p ∈ bl0, p ∈ bl)
    (h : Cov nt w0 S0 df ρ Fs bl sl (DO P c R (Cls Fs0 bl0) (flatD ops l) k)) :
    Cov nt w0 S0 df ρ Fs bl sl (Run P c R (.code (.region id ops true) :: k)) := fun a w hf hi => by
  simp only [drawOk, Bool.and_eq_true, beq_iff_eq] at hok
  obtain ⟨⟨⟨⟨h3, h4⟩, h5⟩, h6⟩, h7⟩ := hok
  exact Run.region_can hm h3 l _ (Cls Fs0 bl0) h5 h7 (Cls.of_inv hi.drawn h1 h2) (wpCan_of_DO h4 l h6 a _ (h a _ hf hi.drawn))

theorem Cov.alt {C : World → Prop} {x y : OX} (h1 : Cov nt w0 S0 df ρ Fs bl sl (DO P c R C x k)) (h2 : Cov nt w0 S0 df ρ Fs bl sl (DO P c R C y k)) : Cov nt w0 S0 df ρ Fs bl sl (DO P c R C (.alt x y) k) :=
  fun a w hf hi => ⟨h1 a w hf hi, h2 a w hf hi⟩

theorem Cov.draw_end {C : World → Prop} (h : Cov nt w0 S0 df ρ Fs bl sl (Run P c R k)) : Cov nt w0 S0 df ρ Fs bl sl (DO P c R C .nil k) := h

/-- K' carries out o, then K. -/
def Stp (P : Program) (K' : Act → World → Prop) (o : OpX) (K : Act → World → Prop) : Prop := ∀ a w, Oper.wp P o.oper a w K Qf → K' a w

theorem Stp.ro {d : Option Tmp} {op : Op} {ty : TypeId} {os : List OpX} : Stp P (RO P c R (⟨d, op, ty, none⟩ :: os) k) ⟨d, op, ty, none⟩ (RO P c R os k) := fun a w h => by
  simp only [RO, wantedT, if_true]
  exact .inl h
theorem Stp.d2 {C : World → Prop} {d : Option Tmp} {op : Op} {ty : TypeId} {os : OX} : Stp P (DO P c R C (.e ⟨d, op, ty, none⟩ 2 os) k) ⟨d, op, ty, none⟩ (DO P c R C os k) := fun a w h => by
  simp only [DO, wantedT, if_true]
  exact h
theorem Stp.d1 {C : World → Prop} {d : Option Tmp} {op : Op} {ty : TypeId} {os : OX} : Stp P (DO P c R C (.e ⟨d, op, ty, none⟩ 1 os) k) ⟨d, op, ty, none⟩ (fun a w => C w ∧ DO P c R C os k a w) := fun a w h => by
  simp only [DO, wantedT, if_true]
  exact h

theorem Cov.cls {Fs0 : List Hp} {bl0 : Blks} (h1 : ∀ G ∈ Fs0, G ∈ Fs) (h2 : ∀ p ∈ bl0, p ∈ bl) {K : Act → World → Prop} (h : Cov nt w0 S0 df ρ Fs bl sl K) : Cov nt w0 S0 df ρ Fs bl sl (fun a w => Cls Fs0 bl0 w ∧ K a w) :=
  fun a w hf hi => ⟨Cls.of_inv hi h1 h2, h a w hf hi⟩

/-- A guard that is met, or not. -/
theorem Cov.g_on {t : Nat} {b : Bool} {d : Option Tmp} {op : Op} {ty : TypeId} {os : List OpX} (hg : ρ.lookup t = some (.bool b)) (h : Cov nt w0 S0 df ρ Fs bl sl (RO P c R (⟨d, op, ty, none⟩ :: os) k)) :
    Cov nt w0 S0 df ρ Fs bl sl (RO P c R (⟨d, op, ty, some (t, b)⟩ :: os) k) := fun a w hf hi => by
  have h1 := h a w hf hi
  have h2 := hf.2.2 _ _ hg
  simp only [RO, wantedT, if_true, h2, beq_self_eq_true] at h1 ⊢
  exact h1
theorem Cov.g_off {t : Nat} {b b' : Bool} {d : Nat} {op : Op} {ty : TypeId} {os : List OpX} (hg : ρ.lookup t = some (.bool b')) (hb : (b' == b) = false) (hd : Nat.blt d nt = true) (h : Cov nt w0 S0 df ((d, undef) :: ρ) Fs bl sl (RO P c R os k)) :
    Cov nt w0 S0 df ρ Fs bl sl (RO P c R (⟨some d, op, ty, some (t, b)⟩ :: os) k) := fun a w hf hi => by
  have h2 := hf.2.2 _ _ hg
  simp only [RO, wantedT, h2, hb, Bool.false_eq_true, if_false]
  exact h _ w (hf.put hd _) hi
theorem Cov.g_off_none {t : Nat} {b b' : Bool} {op : Op} {ty : TypeId} {os : List OpX} (hg : ρ.lookup t = some (.bool b')) (hb : (b' == b) = false) (h : Cov nt w0 S0 df ρ Fs bl sl (RO P c R os k)) :
    Cov nt w0 S0 df ρ Fs bl sl (RO P c R (⟨none, op, ty, some (t, b)⟩ :: os) k) := fun a w hf hi => by
  have h2 := hf.2.2 _ _ hg
  simp only [RO, wantedT, h2, hb, Bool.false_eq_true, if_false]
  exact h _ w hf hi
theorem Cov.dgq_on {C : World → Prop} {t : Nat} {b : Bool} {d : Option Tmp} {op : Op} {ty : TypeId} {os : OX} (hg : ρ.lookup t = some (.bool b)) (h : Cov nt w0 S0 df ρ Fs bl sl (DO P c R C (.q ⟨d, op, ty, none⟩ os) k)) :
    Cov nt w0 S0 df ρ Fs bl sl (DO P c R C (.q ⟨d, op, ty, some (t, b)⟩ os) k) := fun a w hf hi => by
  have h1 := h a w hf hi
  have h2 := hf.2.2 _ _ hg
  simp only [DO, wantedT, h2, beq_self_eq_true] at h1 ⊢; exact h1
theorem Cov.dge_on {C : World → Prop} {m : Nat} {t : Nat} {b : Bool} {d : Option Tmp} {op : Op} {ty : TypeId} {os : OX} (hg : ρ.lookup t = some (.bool b)) (h : Cov nt w0 S0 df ρ Fs bl sl (DO P c R C (.e ⟨d, op, ty, none⟩ m os) k)) :
    Cov nt w0 S0 df ρ Fs bl sl (DO P c R C (.e ⟨d, op, ty, some (t, b)⟩ m os) k) := fun a w hf hi => by
  have h1 := h a w hf hi
  have h2 := hf.2.2 _ _ hg
  match m, h1 with
  | 0, h1 => simp only [DO, wantedT, if_true, h2, beq_self_eq_true] at h1 ⊢; exact h1
  | 1, h1 => simp only [DO, wantedT, if_true, h2, beq_self_eq_true] at h1 ⊢; exact h1
  | m + 2, h1 => simp only [DO, wantedT, if_true, h2, beq_self_eq_true] at h1 ⊢; exact h1
theorem Cov.dgq_off {C : World → Prop} {t : Nat} {b b' : Bool} {d : Nat} {op : Op} {ty : TypeId} {os : OX} (hg : ρ.lookup t = some (.bool b')) (hb : (b' == b) = false) (hd : Nat.blt d nt = true)
    (h : Cov nt w0 S0 df ((d, undef) :: ρ) Fs bl sl (DO P c R C os k)) :
    Cov nt w0 S0 df ρ Fs bl sl (DO P c R C (.q ⟨some d, op, ty, some (t, b)⟩ os) k) := fun a w hf hi => by
  have h3 := hf.2.2 _ _ hg
  have h4 := h _ w (hf.put hd _) hi
  simp only [DO, wantedT, h3, hb]; exact ⟨undef, .inr (by simp), h4⟩
theorem Cov.dge_off {Fs0 : List Hp} {bl0 : Blks} {m : Nat} {t : Nat} {b b' : Bool} {d : Nat} {op : Op} {ty : TypeId} {os : OX} (hg : ρ.lookup t = some (.bool b')) (hb : (b' == b) = false) (hd : Nat.blt d nt = true)
    (h1 : ∀ G ∈ Fs0, G ∈ Fs) (h2 : ∀ p ∈ bl0, p ∈ bl) (h : Cov nt w0 S0 df ((d, undef) :: ρ) Fs bl sl (DO P c R (Cls Fs0 bl0) os k)) :
    Cov nt w0 S0 df ρ Fs bl sl (DO P c R (Cls Fs0 bl0) (.e ⟨some d, op, ty, some (t, b)⟩ m os) k) := fun a w hf hi => by
  have h3 := hf.2.2 _ _ hg
  have h4 := h _ w (hf.put hd _) hi
  match m with
  | 0 => simp only [DO, wantedT, h3, hb, Bool.false_eq_true, if_false]; exact h4
  | 1 => simp only [DO, wantedT, h3, hb, Bool.false_eq_true, if_false]; exact ⟨Cls.of_inv hi h1 h2, h4⟩
  | m + 2 => simp only [DO, wantedT, h3, hb, Bool.false_eq_true, if_false]; exact h4
end
end Go.Proofs.Ytbhmhindommaeaa
