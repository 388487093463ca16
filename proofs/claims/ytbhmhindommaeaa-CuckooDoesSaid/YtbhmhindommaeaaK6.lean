/-
  Quiet operations: what they yield, given the symbolic state.
-/
import Derived.Test.YtbhmhindommaeaaK5
import Derived.WalkKit
namespace Go.Proofs.Ytbhmhindommaeaa
open Go.RowKit

/-- The operation yields v in every state of this kind, and turns nothing. -/
def QOp (P : Program) (ρ : Env) (Fs : List Hp) (bl : Blks) (sl : List OwnS) (op : Op) (ty : TypeId) (v : Value) : Prop :=
  ∀ nt df a w, Fits nt df ρ a → Mem Fs bl sl w → (execOp a.eval ⟨none, op, ty, "", #[], none⟩).run P w = .ok (.value v) w

section
variable {P : Program} {c : Cx} {R : Value → World → Prop} {nt : Nat} {w0 : World} {S0 : List Nat} {df : List Deferred} {ρ ρ' : Env} {Fs Fs' : List Hp} {bl bl' : Blks} {sl sl' : List OwnS}
  {K K' : Act → World → Prop} {k : List Item} {ty : TypeId}

theorem Cov.q {d : Nat} {op : Op} {v : Value} (hs : Stp P K' ⟨some d, op, ty, none⟩ K) (h : QOp P ρ Fs bl sl op ty v) (hd : Nat.blt d nt = true) (hk : Cov nt w0 S0 df ((d, v) :: ρ) Fs bl sl K) :
    Cov nt w0 S0 df ρ Fs bl sl K' := fun a w hf hi => by
  refine hs a w ?_
  have := h nt df a w hf hi.mem
  unfold Oper.wp
  rw [show execOp a.eval (⟨some d, op, ty, none⟩ : OpX).oper = execOp a.eval ⟨none, op, ty, "", #[], none⟩ from rfl, this]
  exact hk _ w (hf.put hd v) hi

/-- The same in a drawn region. -/
theorem Cov.dq {d : Nat} {op : Op} {v : Value} {Fs0 : List Hp} {bl0 : Blks} {os : OX} (h : QOp P ρ Fs0 bl0 [] op ty v) (hd : Nat.blt d nt = true)
    (hk : Cov nt w0 S0 df ((d, v) :: ρ) Fs bl sl (DO P c R (Cls Fs0 bl0) os k)) :
    Cov nt w0 S0 df ρ Fs bl sl (DO P c R (Cls Fs0 bl0) (.q ⟨some d, op, ty, none⟩ os) k) := fun a w hf hi => by
  simp only [DO]
  exact ⟨v, .inl ⟨rfl, fun w' hw' => h nt df a w' hf ⟨hw'.1, hw'.2, fun s h1 => by simp at h1⟩⟩, hk _ w (hf.put hd v) hi⟩

theorem QOp.of {op : Op} {v : Value} (h : ∀ (e : Operand → Value), (∀ x u, ev ρ x = some u → e x = u) → ∀ w, Mem Fs bl sl w → (execOp e ⟨none, op, ty, "", #[], none⟩).run P w = .ok (.value v) w) : QOp P ρ Fs bl sl op ty v :=
  fun _ _ a w hf hm => h a.eval (fun _ _ hx => ev_sound hf hx) w hm

theorem QOp.move {x : Operand} {v : Value} (hx : ev ρ x = some v) : QOp P ρ Fs bl sl (.move x) ty v := .of fun e he w _ => by simp [execOp, he x v hx]
theorem QOp.assign {x : Operand} {v : Value} (hx : ev ρ x = some v) : QOp P ρ Fs bl sl (.assign x) ty v := .of fun e he w _ => by simp [execOp, he x v hx]
theorem QOp.pick_t {x y z : Operand} {v : Value} (hx : ev ρ x = some (.bool true)) (hy : ev ρ y = some v) : QOp P ρ Fs bl sl (.pick x y z) ty v := .of fun e he w _ => by
  simp [execOp, he x _ hx, he y _ hy, asBool]
theorem QOp.pick_f {x y z : Operand} {v : Value} (hx : ev ρ x = some (.bool false)) (hz : ev ρ z = some v) : QOp P ρ Fs bl sl (.pick x y z) ty v := .of fun e he w _ => by
  simp [execOp, he x _ hx, he z _ hz, asBool]

theorem QOp.bin {op : BinOp} {t u : TypeId} {x y : Operand} {vx vy v : Value} (hx : ev ρ x = some vx) (hy : ev ρ y = some vy)
    (h : ∀ w, (do eqGuard op t x y vx vy; binOp op t vx vy : Sem Value).run P w = .ok v w) : QOp P ρ Fs bl sl (.binOp op t x y u) ty v := .of fun e he w _ => by
  have := h w
  simp only [execOp, he x _ hx, he y _ hy]
  rw [Sem.run_bind, this]
  rfl

theorem guard_int {op : BinOp} {t : TypeId} {x y : Operand} {k k' : IntKind} {m n : Int} (w : World) : (eqGuard op t x y (.int k m) (.int k' n)).run P w = .ok () w := by
  unfold eqGuard; cases op <;> rfl

theorem QOp.int {op : BinOp} {t u : TypeId} {x y : Operand} {k : IntKind} {m n : Int} {v : Value} (hx : ev ρ x = some (.int k m)) (hy : ev ρ y = some (.int k n))
    (h : ∀ w, (binOp op t (.int k m) (.int k n)).run P w = .ok v w) : QOp P ρ Fs bl sl (.binOp op t x y u) ty v :=
  .bin hx hy fun w => by rw [Sem.run_bind, guard_int]; exact h w

theorem QOp.add {t u : TypeId} {x y : Operand} {m n : Int} (hx : ev ρ x = some (.int .i64 m)) (hy : ev ρ y = some (.int .i64 n)) (hr : -9223372036854775808 ≤ m + n ∧ m + n ≤ 9223372036854775807) :
    QOp P ρ Fs bl sl (.binOp .add t x y u) ty (.int .i64 (m + n)) := .int hx hy fun w => by simp [binOp, Op.intArith, IntWalk.i64_in _ hr]
theorem QOp.sub {t u : TypeId} {x y : Operand} {m n : Int} (hx : ev ρ x = some (.int .i64 m)) (hy : ev ρ y = some (.int .i64 n)) (hr : -9223372036854775808 ≤ m - n ∧ m - n ≤ 9223372036854775807) :
    QOp P ρ Fs bl sl (.binOp .sub t x y u) ty (.int .i64 (m - n)) := .int hx hy fun w => by simp [binOp, Op.intArith, IntWalk.i64_in _ hr]
theorem QOp.mul {t u : TypeId} {x y : Operand} {m n : Int} (hx : ev ρ x = some (.int .i64 m)) (hy : ev ρ y = some (.int .i64 n)) (hr : -9223372036854775808 ≤ m * n ∧ m * n ≤ 9223372036854775807) :
    QOp P ρ Fs bl sl (.binOp .mul t x y u) ty (.int .i64 (m * n)) := .int hx hy fun w => by simp [binOp, Op.intArith, IntWalk.i64_in _ hr]
theorem QOp.addw {t u : TypeId} {x y : Operand} {k : IntKind} {m n : Int} (hx : ev ρ x = some (.int k m)) (hy : ev ρ y = some (.int k n)) :
    QOp P ρ Fs bl sl (.binOp .add t x y u) ty (.int k (k.wrap (m + n))) := .int hx hy fun w => by simp only [binOp, Op.intArith, ne_eq, not_true_eq_false, if_false]; rfl
theorem QOp.subw {t u : TypeId} {x y : Operand} {k : IntKind} {m n : Int} (hx : ev ρ x = some (.int k m)) (hy : ev ρ y = some (.int k n)) :
    QOp P ρ Fs bl sl (.binOp .sub t x y u) ty (.int k (k.wrap (m - n))) := .int hx hy fun w => by simp only [binOp, Op.intArith, ne_eq, not_true_eq_false, if_false]; rfl
theorem QOp.mulw {t u : TypeId} {x y : Operand} {k : IntKind} {m n : Int} (hx : ev ρ x = some (.int k m)) (hy : ev ρ y = some (.int k n)) :
    QOp P ρ Fs bl sl (.binOp .mul t x y u) ty (.int k (k.wrap (m * n))) := .int hx hy fun w => by simp only [binOp, Op.intArith, ne_eq, not_true_eq_false, if_false]; rfl
theorem QOp.quo {t u : TypeId} {x y : Operand} {m n : Int} (hx : ev ρ x = some (.int .i64 m)) (hy : ev ρ y = some (.int .i64 n)) (hr : 0 ≤ m ∧ m ≤ 9223372036854775807 ∧ 1 ≤ n) :
    QOp P ρ Fs bl sl (.binOp .quo t x y u) ty (.int .i64 (m / n)) := .int hx hy fun w => by
  have : n ≠ 0 := by omega
  have := IntWalk.i64_quo m n hr
  simp_all [binOp, Op.intDiv]
theorem QOp.rem {t u : TypeId} {x y : Operand} {k : IntKind} {m n : Int} (hx : ev ρ x = some (.int k m)) (hy : ev ρ y = some (.int k n)) (hr : 0 ≤ m ∧ 1 ≤ n) :
    QOp P ρ Fs bl sl (.binOp .rem t x y u) ty (.int k (m % n)) := .int hx hy fun w => by
  have : n ≠ 0 := by omega
  have := IntWalk.rem_in m n hr.1
  simp_all [binOp, Op.intDiv]
theorem QOp.remt {t u : TypeId} {x y : Operand} {k : IntKind} {m n : Int} (hx : ev ρ x = some (.int k m)) (hy : ev ρ y = some (.int k n)) (hr : n ≠ 0) :
    QOp P ρ Fs bl sl (.binOp .rem t x y u) ty (.int k (m.tmod n)) := .int hx hy fun w => by simp [binOp, Op.intDiv, hr]
theorem QOp.lss {t u : TypeId} {x y : Operand} {k : IntKind} {m n : Int} (hx : ev ρ x = some (.int k m)) (hy : ev ρ y = some (.int k n)) :
    QOp P ρ Fs bl sl (.binOp .lss t x y u) ty (.bool (decide (m < n))) := .int hx hy fun w => by simp only [binOp, Op.intCmp, ne_eq, not_true_eq_false, if_false]; rfl
theorem QOp.leq {t u : TypeId} {x y : Operand} {k : IntKind} {m n : Int} (hx : ev ρ x = some (.int k m)) (hy : ev ρ y = some (.int k n)) :
    QOp P ρ Fs bl sl (.binOp .leq t x y u) ty (.bool (decide (m ≤ n))) := .int hx hy fun w => by simp only [binOp, Op.intCmp, ne_eq, not_true_eq_false, if_false]; rfl
theorem QOp.gtr {t u : TypeId} {x y : Operand} {k : IntKind} {m n : Int} (hx : ev ρ x = some (.int k m)) (hy : ev ρ y = some (.int k n)) :
    QOp P ρ Fs bl sl (.binOp .gtr t x y u) ty (.bool (decide (n < m))) := .int hx hy fun w => by simp only [binOp, Op.intCmp, ne_eq, not_true_eq_false, if_false]; rfl
theorem QOp.geq {t u : TypeId} {x y : Operand} {k : IntKind} {m n : Int} (hx : ev ρ x = some (.int k m)) (hy : ev ρ y = some (.int k n)) :
    QOp P ρ Fs bl sl (.binOp .geq t x y u) ty (.bool (decide (n ≤ m))) := .int hx hy fun w => by simp only [binOp, Op.intCmp, ne_eq, not_true_eq_false, if_false]; rfl
theorem QOp.eql {t u : TypeId} {x y : Operand} {k : IntKind} {m n : Int} (hx : ev ρ x = some (.int k m)) (hy : ev ρ y = some (.int k n)) :
    QOp P ρ Fs bl sl (.binOp .eql t x y u) ty (.bool (decide (m = n))) := .int hx hy fun w => by simp only [binOp, Op.intCmp, ne_eq, not_true_eq_false, if_false]; rfl
theorem QOp.neq {t u : TypeId} {x y : Operand} {k : IntKind} {m n : Int} (hx : ev ρ x = some (.int k m)) (hy : ev ρ y = some (.int k n)) :
    QOp P ρ Fs bl sl (.binOp .neq t x y u) ty (.bool (decide (m ≠ n))) := .int hx hy fun w => by
  simp only [binOp, Op.intCmp, ne_eq, not_true_eq_false, if_false]
  show Result.ok (Value.bool (m != n)) w = _
  congr 2
  rw [bne, decide_not]; rfl
theorem QOp.eql_b {t u : TypeId} {x y : Operand} {m n : Bool} (ht : P.underlying t = some .bool) (hx : ev ρ x = some (.bool m)) (hy : ev ρ y = some (.bool n)) :
    QOp P ρ Fs bl sl (.binOp .eql t x y u) ty (.bool (decide (m = n))) := .bin hx hy fun w => by
  have h1 : (eqGuard .eql t x y (.bool m) (.bool n)).run P w = .ok () w := rfl
  rw [Sem.run_bind, h1]
  simp only [Result.andThen_ok, binOp]
  rw [Sem.run_bind, show Op.equal t (.bool m) (.bool n) = Op.equalIn (9999 + 1) t (.bool m) (.bool n) from rfl, run_equalIn_bool w 9999 t m n ht]
  simp only [Result.andThen_ok, Sem.run_pure]
  cases m <;> cases n <;> rfl
theorem QOp.neq_b {t u : TypeId} {x y : Operand} {m n : Bool} (ht : P.underlying t = some .bool) (hx : ev ρ x = some (.bool m)) (hy : ev ρ y = some (.bool n)) :
    QOp P ρ Fs bl sl (.binOp .neq t x y u) ty (.bool (decide (m ≠ n))) := .bin hx hy fun w => by
  have h1 : (eqGuard .neq t x y (.bool m) (.bool n)).run P w = .ok () w := rfl
  rw [Sem.run_bind, h1]
  simp only [Result.andThen_ok, binOp]
  rw [Sem.run_bind, show Op.equal t (.bool m) (.bool n) = Op.equalIn (9999 + 1) t (.bool m) (.bool n) from rfl, run_equalIn_bool w 9999 t m n ht]
  simp only [Result.andThen_ok, Sem.run_pure]
  cases m <;> cases n <;> rfl

/-- Bytes in order. -/
def bLt (x y : ByteArray) : Bool := Op.bytesLess x.toList y.toList

theorem beq_bytes (x y : ByteArray) : (x.toList == y.toList) = decide (x = y) := by
  rw [ByteArray.toList_eq, ByteArray.toList_eq, Bool.eq_iff_iff]
  simp [ByteArray.ext_iff]

theorem guard_str {op : BinOp} {t : TypeId} {x y : Operand} {m n : ByteArray} (w : World) : (eqGuard op t x y (.string m) (.string n)).run P w = .ok () w := by
  unfold eqGuard; cases op <;> rfl
theorem bin_str (op : BinOp) (t : TypeId) (m n : ByteArray) : binOp op t (.string m) (.string n) = Op.stringOp op m n := by cases op <;> rfl
theorem QOp.str {op : BinOp} {t u : TypeId} {x y : Operand} {m n : ByteArray} {v : Value} (hx : ev ρ x = some (.string m)) (hy : ev ρ y = some (.string n))
    (h : ∀ w, (Op.stringOp op m n).run P w = .ok v w) : QOp P ρ Fs bl sl (.binOp op t x y u) ty v :=
  .bin hx hy fun w => by
    rw [Sem.run_bind, guard_str]
    simp only [Result.andThen_ok]; rw [bin_str]; exact h w
theorem QOp.eql_s {t u : TypeId} {x y : Operand} {m n : ByteArray} (hx : ev ρ x = some (.string m)) (hy : ev ρ y = some (.string n)) :
    QOp P ρ Fs bl sl (.binOp .eql t x y u) ty (.bool (decide (m = n))) := .str hx hy (fun w => by rw [← beq_bytes]; rfl)
theorem QOp.neq_s {t u : TypeId} {x y : Operand} {m n : ByteArray} (hx : ev ρ x = some (.string m)) (hy : ev ρ y = some (.string n)) :
    QOp P ρ Fs bl sl (.binOp .neq t x y u) ty (.bool (decide (m ≠ n))) := .str hx hy (fun w => by rw [decide_not, ← beq_bytes]; rfl)
theorem QOp.lss_s {t u : TypeId} {x y : Operand} {m n : ByteArray} (hx : ev ρ x = some (.string m)) (hy : ev ρ y = some (.string n)) :
    QOp P ρ Fs bl sl (.binOp .lss t x y u) ty (.bool (bLt m n)) := .str hx hy (fun _ => rfl)
theorem QOp.geq_s {t u : TypeId} {x y : Operand} {m n : ByteArray} (hx : ev ρ x = some (.string m)) (hy : ev ρ y = some (.string n)) :
    QOp P ρ Fs bl sl (.binOp .geq t x y u) ty (.bool (!bLt m n)) := .str hx hy (fun _ => rfl)
theorem QOp.leq_s {t u : TypeId} {x y : Operand} {m n : ByteArray} (hx : ev ρ x = some (.string m)) (hy : ev ρ y = some (.string n)) :
    QOp P ρ Fs bl sl (.binOp .leq t x y u) ty (.bool (bLt m n || decide (m = n))) := .str hx hy (fun w => by rw [← beq_bytes]; rfl)
theorem QOp.gtr_s {t u : TypeId} {x y : Operand} {m n : ByteArray} (hx : ev ρ x = some (.string m)) (hy : ev ρ y = some (.string n)) :
    QOp P ρ Fs bl sl (.binOp .gtr t x y u) ty (.bool (!(bLt m n || decide (m = n)))) := .str hx hy (fun w => by rw [← beq_bytes]; rfl)

theorem QOp.not {t : TypeId} {x : Operand} {b : Bool} (hx : ev ρ x = some (.bool b)) : QOp P ρ Fs bl sl (.unOp .not t x) ty (.bool (!b)) := .of fun e he w _ => by
  simp [execOp, he x _ hx, Op.unary]
theorem QOp.not_d {t : TypeId} {x : Operand} {p : Prop} [Decidable p] (hx : ev ρ x = some (.bool (decide p))) : QOp P ρ Fs bl sl (.unOp .not t x) ty (.bool (decide (¬ p))) := .of fun e he w _ => by
  simp [execOp, he x _ hx, Op.unary]
theorem QOp.not_t {t : TypeId} {x : Operand} (hx : ev ρ x = some (.bool true)) : QOp P ρ Fs bl sl (.unOp .not t x) ty (.bool false) := .of fun e he w _ => by
  simp [execOp, he x _ hx, Op.unary]
theorem QOp.not_f {t : TypeId} {x : Operand} (hx : ev ρ x = some (.bool false)) : QOp P ρ Fs bl sl (.unOp .not t x) ty (.bool true) := .of fun e he w _ => by
  simp [execOp, he x _ hx, Op.unary]
theorem QOp.conv_ss {s t : TypeId} {x : Operand} {b : ByteArray} (hs : P.underlying s = some .string) (ht : P.underlying t = some .string) (hx : ev ρ x = some (.string b)) : QOp P ρ Fs bl sl (.convert s t x) ty (.string b) := .of fun e he w _ => by
  simp [execOp, he x _ hx, convert, run_underlying hs, run_underlying ht]
theorem QOp.neg {t : TypeId} {x : Operand} {n : Int} (hx : ev ρ x = some (.int .i64 n)) (hr : -9223372036854775808 ≤ -n ∧ -n ≤ 9223372036854775807) : QOp P ρ Fs bl sl (.unOp .neg t x) ty (.int .i64 (-n)) := .of fun e he w _ => by
  have := IntWalk.i64_in (0 - n) (by omega)
  simp [execOp, he x _ hx, Op.unary, Op.intArith] at this ⊢
  exact this

/-- A conversion between kinds of integers. -/
theorem QOp.conv {s t : TypeId} {x : Operand} {k k' : IntKind} {ks : TypeDesc} {n : Int} (hs : P.underlying s = some ks) (ht : P.underlying t = some (.int k')) (hx : ev ρ x = some (.int k n)) (hr : k'.wrap n = n) :
    QOp P ρ Fs bl sl (.convert s t x) ty (.int k' n) := .of fun e he w _ => by
  simp [execOp, he x _ hx, convert, run_underlying hs, run_underlying ht, Conv.intToInt, hr]
theorem QOp.convw {s t : TypeId} {x : Operand} {k k' : IntKind} {ks : TypeDesc} {n : Int} (hs : P.underlying s = some ks) (ht : P.underlying t = some (.int k')) (hx : ev ρ x = some (.int k n)) :
    QOp P ρ Fs bl sl (.convert s t x) ty (.int k' (k'.wrap n)) := .of fun e he w _ => by
  simp [execOp, he x _ hx, convert, run_underlying hs, run_underlying ht, Conv.intToInt]

theorem QOp.extract {x : Operand} {vs : List Value} {n : Nat} {v : Value} (hx : ev ρ x = some (.tuple vs.toArray)) (hn : vs[n]? = some v) : QOp P ρ Fs bl sl (.extract x n) ty v := .of fun e he w _ => by
  simp [execOp, he x _ hx, Instr.extract, hn]
theorem QOp.nilCheck {x : Operand} {v : Value} (hx : ev ρ x = some v) (hv : (match v with | .pointer (some _) => true | .func (.func _) _ _ => true | _ => false) = true) : QOp P ρ Fs bl sl (.nilCheck x) ty v := .of fun e he w _ => by
  simp only [execOp, he x _ hx]
  split <;> first | (simp at hv; done) | rfl
theorem QOp.makeFunc {fn : Fn} {fs cs : Array Operand} {vf vc : List Value} (hf : fs.toList.map (ev ρ) = vf.map some) (hc : cs.toList.map (ev ρ) = vc.map some) :
    QOp P ρ Fs bl sl (.makeFunc fn fs cs) ty (.func fn vf.toArray vc.toArray) := .of fun e he w _ => by
  have key : ∀ (l : List Operand) (vl : List Value), l.map (ev ρ) = vl.map some → l.map e = vl := by
    intro l
    induction l with
    | nil => intro vl h; cases vl <;> simp at h ⊢
    | cons x l ih =>
      intro vl h
      cases vl with
      | nil => simp at h
      | cons v vl =>
        simp only [List.map_cons, List.cons.injEq] at h
        simp only [List.map_cons, he x v h.1, ih vl h.2]
  have h1 : fs.map e = vf.toArray := by rw [← Array.toList_inj]; simpa using key _ _ hf
  have h2 : cs.map e = vc.toArray := by rw [← Array.toList_inj]; simpa using key _ _ hc
  simp [execOp, Instr.makeFunc, h1, h2]
end
end Go.Proofs.Ytbhmhindommaeaa
