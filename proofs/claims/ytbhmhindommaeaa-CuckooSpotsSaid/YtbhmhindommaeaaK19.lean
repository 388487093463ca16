/-
  Texts in order.
-/
import Derived.Test.YtbhmhindommaeaaK18
namespace Go.Proofs.Ytbhmhindommaeaa
open Go.RowKit

theorem bl_irr : ∀ x : List UInt8, Op.bytesLess x x = false
  | [] => rfl
  | a :: x => by simp [Op.bytesLess, bl_irr x]
theorem u8_tri (a b : UInt8) : a < b ∨ a = b ∨ b < a := by
  rcases Nat.lt_trichotomy a.toNat b.toNat with h | h | h
  · exact .inl (UInt8.lt_iff_toNat_lt.2 h)
  · exact .inr (.inl (UInt8.toNat_inj.1 h))
  · exact .inr (.inr (UInt8.lt_iff_toNat_lt.2 h))
theorem bl_tri : ∀ x y : List UInt8, Op.bytesLess x y = true ∨ x = y ∨ Op.bytesLess y x = true
  | [], [] => .inr (.inl rfl)
  | [], _ :: _ => .inl rfl
  | _ :: _, [] => .inr (.inr rfl)
  | a :: x, b :: y => by
    rcases bl_tri x y with h | h | h
    · rcases u8_tri a b with h2 | h2 | h2
      · exact .inl (by simp [Op.bytesLess, h2])
      · exact .inl (by simp [Op.bytesLess, h2, h])
      · exact .inr (.inr (by simp [Op.bytesLess, h2]))
    · subst h
      rcases u8_tri a b with h2 | h2 | h2
      · exact .inl (by simp [Op.bytesLess, h2])
      · exact .inr (.inl (by rw [h2]))
      · exact .inr (.inr (by simp [Op.bytesLess, h2]))
    · rcases u8_tri a b with h2 | h2 | h2
      · exact .inl (by simp [Op.bytesLess, h2])
      · exact .inr (.inr (by simp [Op.bytesLess, h2, h]))
      · exact .inr (.inr (by simp [Op.bytesLess, h2]))
theorem bl_trans : ∀ x y z : List UInt8, Op.bytesLess x y = true → Op.bytesLess y z = true → Op.bytesLess x z = true
  | _, [], _, h, _ => by simp [Op.bytesLess] at h
  | _, _ :: _, [], _, h => by simp [Op.bytesLess] at h
  | [], _ :: _, _ :: _, _, _ => rfl
  | a :: x, b :: y, c :: z, h1, h2 => by
    simp only [Op.bytesLess, Bool.or_eq_true, decide_eq_true_eq, Bool.and_eq_true, beq_iff_eq] at h1 h2 ⊢
    rcases h1 with h1 | ⟨rfl, h1⟩
    · rcases h2 with h2 | ⟨rfl, h2⟩
      · exact .inl (UInt8.lt_trans h1 h2)
      · exact .inl h1
    · rcases h2 with h2 | ⟨rfl, h2⟩
      · exact .inl h2
      · exact .inr ⟨rfl, bl_trans x y z h1 h2⟩

/-- x comes before y. -/
def sLt (x y : ByteArray) : Prop := bLt x y = true
instance (x y : ByteArray) : Decidable (sLt x y) := inferInstanceAs (Decidable (bLt x y = true))
theorem sLt_irr (x : ByteArray) : ¬ sLt x x := by simp [sLt, bLt, bl_irr]
theorem sLt_trans {x y z : ByteArray} (h1 : sLt x y) (h2 : sLt y z) : sLt x z := bl_trans _ _ _ h1 h2
theorem sLt_tri (x y : ByteArray) : sLt x y ∨ x = y ∨ sLt y x := by
  rcases bl_tri x.toList y.toList with h | h | h
  · exact .inl h
  · refine .inr (.inl ?_)
    have := beq_bytes x y
    rw [h] at this
    simpa using this
  · exact .inr (.inr h)
theorem sLt_asymm {x y : ByteArray} (h : sLt x y) : ¬ sLt y x := fun h2 => sLt_irr x (sLt_trans h h2)
theorem sLe_iff (x y : ByteArray) : (bLt x y || decide (x = y)) = decide (¬ sLt y x) := by
  rw [Bool.eq_iff_iff]
  simp only [Bool.or_eq_true, decide_eq_true_eq]
  constructor
  · rintro (h | rfl)
    · exact sLt_asymm h
    · exact sLt_irr x
  · intro h
    rcases sLt_tri x y with h1 | h1 | h1
    · exact .inl h1
    · exact .inr h1
    · exact absurd h1 h

section
variable {P : Program} {ρ : Env} {Fs : List Hp} {bl : Blks} {sl : List OwnS} {ty : TypeId}
theorem bLt_dec (x y : ByteArray) : bLt x y = decide (sLt x y) := by
  show bLt x y = decide (bLt x y = true)
  cases bLt x y <;> rfl
theorem QOp.lss_d {t u : TypeId} {x y : Operand} {m n : ByteArray} (hx : ev ρ x = some (.string m)) (hy : ev ρ y = some (.string n)) : QOp P ρ Fs bl sl (.binOp .lss t x y u) ty (.bool (decide (sLt m n))) := by
  rw [← bLt_dec]; exact .lss_s hx hy
theorem QOp.geq_d {t u : TypeId} {x y : Operand} {m n : ByteArray} (hx : ev ρ x = some (.string m)) (hy : ev ρ y = some (.string n)) : QOp P ρ Fs bl sl (.binOp .geq t x y u) ty (.bool (decide (¬ sLt m n))) := by
  rw [decide_not, ← bLt_dec]; exact .geq_s hx hy
theorem QOp.leq_d {t u : TypeId} {x y : Operand} {m n : ByteArray} (hx : ev ρ x = some (.string m)) (hy : ev ρ y = some (.string n)) : QOp P ρ Fs bl sl (.binOp .leq t x y u) ty (.bool (decide (¬ sLt n m))) := by
  rw [← sLe_iff]; exact .leq_s hx hy
theorem QOp.gtr_d {t u : TypeId} {x y : Operand} {m n : ByteArray} (hx : ev ρ x = some (.string m)) (hy : ev ρ y = some (.string n)) : QOp P ρ Fs bl sl (.binOp .gtr t x y u) ty (.bool (decide (sLt n m))) := by
  have h := sLe_iff m n
  have := QOp.gtr_s (P := P) (Fs := Fs) (bl := bl) (sl := sl) (ty := ty) (t := t) (u := u) hx hy
  rw [h] at this
  simpa using this
end

section
variable {P : Program} {c : Cx} {R : Value → World → Prop} {nt : Nat} {w0 : World} {S0 : List Nat} {df : List Deferred} {ρ : Env} {Fs : List Hp} {bl : Blks} {sl : List OwnS} {k : List Item}
/-- A guard whose own operation was passed over. -/
theorem Cov.gu_off {t : Nat} {b : Bool} {d : Nat} {op : Op} {ty : TypeId} {os : List OpX} (hg : ρ.lookup t = some undef) (hd : Nat.blt d nt = true) (h : Cov nt w0 S0 df ((d, undef) :: ρ) Fs bl sl (RO P c R os k)) :
    Cov nt w0 S0 df ρ Fs bl sl (RO P c R (⟨some d, op, ty, some (t, b)⟩ :: os) k) := fun a w hf hi => by
  have h2 := hf.2.2 _ _ hg
  simp only [RO, wantedT, h2, undef, Bool.false_eq_true, if_false]
  exact h _ w (hf.put hd _) hi
theorem Cov.gu_off_none {t : Nat} {b : Bool} {op : Op} {ty : TypeId} {os : List OpX} (hg : ρ.lookup t = some undef) (h : Cov nt w0 S0 df ρ Fs bl sl (RO P c R os k)) :
    Cov nt w0 S0 df ρ Fs bl sl (RO P c R (⟨none, op, ty, some (t, b)⟩ :: os) k) := fun a w hf hi => by
  have h2 := hf.2.2 _ _ hg
  simp only [RO, wantedT, h2, undef, Bool.false_eq_true, if_false]
  exact h _ w hf hi
theorem Cov.dgqu_off {C : World → Prop} {t : Nat} {b : Bool} {d : Nat} {op : Op} {ty : TypeId} {os : OX} (hg : ρ.lookup t = some undef) (hd : Nat.blt d nt = true)
    (h : Cov nt w0 S0 df ((d, undef) :: ρ) Fs bl sl (DO P c R C os k)) : Cov nt w0 S0 df ρ Fs bl sl (DO P c R C (.q ⟨some d, op, ty, some (t, b)⟩ os) k) := fun a w hf hi => by
  have h3 := hf.2.2 _ _ hg
  have h4 := h _ w (hf.put hd _) hi
  simp only [DO, wantedT, h3, undef]
  exact ⟨undef, .inr (by simp [undef]), h4⟩
end

section
variable {P : Program} {ρ : Env} {Fs : List Hp} {bl : Blks} {sl : List OwnS} {ty : TypeId}
theorem QOp.shr1 {t u : TypeId} {x y : Operand} {k k' : IntKind} {m : Int} (hx : ev ρ x = some (.int k m)) (hy : ev ρ y = some (.int k' 1)) (hk : 1 ≤ k.bits) : QOp P ρ Fs bl sl (.binOp .shr t x y u) ty (.int k (m / 2)) :=
  .bin hx hy fun w => by
    have h1 : (eqGuard .shr t x y (.int k m) (.int k' 1)).run P w = .ok () w := rfl
    rw [Sem.run_bind, h1]
    simp only [Result.andThen_ok]
    have hm : min 1 k.bits = 1 := by omega
    have : Op.shift .shr k m k' 1 = pure (.int k (m / 2)) := by
      simp [Op.shift, hm, Int.fdiv_eq_ediv_of_nonneg]
    simp only [binOp]
    rw [this]
    rfl
end
end Go.Proofs.Ytbhmhindommaeaa
