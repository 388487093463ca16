/-
  Structs of ints and of structs of ints, compared.
-/
import Derived.Test.YtbhmhindommaeaaL10
namespace Go.Proofs.Ytbhmhindommaeaa
open Go.RowKit
set_option linter.unusedSimpArgs false

/-- Fields of ints, or of structs of ints, one behind the other; up to offset m. -/
def intsOk2 (P : Program) (m : Nat) : List Field → Nat → Bool
  | [], n => n == m
  | f :: fs, n => f.name != "_" && f.offset == n && (match P.underlying f.type with
    | some (.int .i64) => intsOk2 P m fs (n + 1)
    | some (.struct gs) => intsOk P gs.toList && !P.stoodInHeld f.type && decide (szOf P f.type = some gs.size) && intsOk2 P m fs (n + gs.size)
    | _ => false)
section
variable {P : Program}
theorem intsOk2_le {m : Nat} : ∀ (fs : List Field) (n : Nat), intsOk2 P m fs n = true → n ≤ m
  | [], n, h => by simp [intsOk2] at h; omega
  | f :: fs, n, h => by
    simp only [intsOk2, Bool.and_eq_true] at h
    obtain ⟨_, h⟩ := h
    split at h
    · have := intsOk2_le fs _ h; omega
    · simp only [Bool.and_eq_true] at h
      have := intsOk2_le fs _ h.2; omega
    · cases h
theorem run_eqInts2 {w : World} (d m : Nat) : ∀ (fs : List Field) (n : Nat) (xs ys : List Int), intsOk2 P m fs n = true → xs.length = m → ys.length = m →
    (Op.eqFields (d + 2) (xs.map (Value.int .i64)).toArray (ys.map (Value.int .i64)).toArray fs).run P w = .ok (decide (xs.drop n = ys.drop n)) w
  | [], n, xs, ys, h, h1, h2 => by
    simp only [intsOk2, beq_iff_eq] at h
    simp [Op.eqFields, List.drop_of_length_le, h1, h2, h]
  | f :: fs, n, xs, ys, h, h1, h2 => by
    simp only [intsOk2, Bool.and_eq_true, bne_iff_ne, ne_eq, beq_iff_eq] at h
    obtain ⟨⟨hn, ho⟩, h⟩ := h
    split at h
    · rename_i hu
      have ha : aggOf P f.type = some false := by simp [aggOf, hu]
      have hle := intsOk2_le fs _ h
      have hx : ∀ (l : List Int), l.length = m → (Go.part f.type (l.map (Value.int .i64)).toArray f.offset).run P w = .ok (.int .i64 (l.getD n 0)) w := fun l hl => by
        unfold Go.part
        rw [Sem.run_bind, run_isAgg ha]
        have : n < l.length := by omega
        simp [ho, this, List.getD_eq_getElem?_getD]
      simp only [Op.eqFields, ne_eq, hn, not_false_eq_true, if_true]
      rw [Sem.run_bind, hx xs (by omega)]
      simp only [Result.andThen_ok]
      rw [Sem.run_bind, hx ys (by omega)]
      simp only [Result.andThen_ok]
      rw [Sem.run_bind, run_equalIn_int w (d + 1) f.type .i64 .i64 _ _ hu]
      simp only [Result.andThen_ok]
      have e1 : xs.drop n = xs.getD n 0 :: xs.drop (n + 1) := by
        rw [List.getD_eq_getElem?_getD, List.getElem?_eq_getElem (by omega)]; simp
      have e2 : ys.drop n = ys.getD n 0 :: ys.drop (n + 1) := by
        rw [List.getD_eq_getElem?_getD, List.getElem?_eq_getElem (by omega)]; simp
      have ih := run_eqInts2 (w := w) d m fs (n + 1) xs ys h h1 h2
      by_cases he : xs.getD n 0 = ys.getD n 0
      · simp only [he, beq_self_eq_true, Bool.not_true, Bool.false_eq_true, if_false]
        rw [ih, e1, e2, he]
        simp
      · have : (xs.getD n 0 == ys.getD n 0) = false := by simpa using he
        simp only [this, Bool.not_false, if_true, Sem.run_pure]
        rw [e1, e2]
        have : ¬ (xs.getD n 0 :: xs.drop (n + 1) = ys.getD n 0 :: ys.drop (n + 1)) := fun h => he (List.cons.inj h).1
        rw [decide_eq_false this]
    · rename_i gs hu
      simp only [Bool.and_eq_true, Bool.not_eq_true', decide_eq_true_eq] at h
      obtain ⟨⟨⟨hok, hp⟩, hz⟩, h⟩ := h
      have ha : aggOf P f.type = some true := by simp [aggOf, hu]
      have hle := intsOk2_le fs _ h
      have hf : P.fieldsOf f.type = gs := by simp [Program.fieldsOf, hu]
      have hx : ∀ (l : List Int), l.length = m → (Go.part f.type (l.map (Value.int .i64)).toArray f.offset).run P w = .ok (.agg ((((l.drop n).take gs.size)).map (Value.int .i64)).toArray) w := fun l hl => by
        unfold Go.part
        rw [Sem.run_bind, run_isAgg ha]
        simp only [Result.andThen_ok, if_true]
        rw [Sem.run_bind, run_sizeOf hz]
        simp only [Result.andThen_ok, Sem.run_pure, ho]
        congr 2
        rw [← Array.toList_inj]
        simp only [Array.toList_extract, List.extract_eq_take_drop]
        rw [show n + gs.size - n = gs.size from by omega, List.map_take, List.map_drop]
      simp only [Op.eqFields, ne_eq, hn, not_false_eq_true, if_true]
      rw [Sem.run_bind, hx xs (by omega)]
      simp only [Result.andThen_ok]
      rw [Sem.run_bind, hx ys (by omega)]
      simp only [Result.andThen_ok]
      have hin := run_eqInts (P := P) (w := w) d gs.toList 0 ((xs.drop n).take gs.size) ((ys.drop n).take gs.size) (by simpa [intsOk] using hok) (by simp; omega) (by simp; omega)
      rw [Sem.run_bind, run_equalIn_struct w (d + 1) f.type _ _ (by rw [hf]; exact hu) hp, hf, hin]
      simp only [Result.andThen_ok, List.drop_zero]
      have ih := run_eqInts2 (w := w) d m fs (n + gs.size) xs ys h h1 h2
      have e : ∀ l : List Int, l.drop n = (l.drop n).take gs.size ++ l.drop (n + gs.size) := fun l => by
        rw [← List.drop_drop, List.take_append_drop]
      by_cases he : (xs.drop n).take gs.size = (ys.drop n).take gs.size
      · simp only [he, decide_true, Bool.not_true, Bool.false_eq_true, if_false]
        rw [ih, e xs, e ys, he]
        simp
      · simp only [he, decide_false, Bool.not_false, if_true, Sem.run_pure]
        have : ¬ (xs.drop n = ys.drop n) := fun h => he (by rw [h])
        rw [decide_eq_false this]
    · cases h
theorem run_equal_ints2 {w : World} {t : TypeId} {fs : Array Field} {m : Nat} {xs ys : List Int} (ht : P.underlying t = some (.struct fs)) (hok : intsOk2 P m fs.toList 0 = true) (hp : P.stoodInHeld t = false) (h1 : xs.length = m) (h2 : ys.length = m) :
    (Op.equal t (.agg (xs.map (Value.int .i64)).toArray) (.agg (ys.map (Value.int .i64)).toArray)).run P w = .ok (decide (xs = ys)) w := by
  have hf : P.fieldsOf t = fs := by simp [Program.fieldsOf, ht]
  show (Op.equalIn (9999 + 1) t _ _).run P w = _
  rw [run_equalIn_struct w 9999 t _ _ (by rw [hf]; exact ht) hp, hf]
  have := run_eqInts2 (P := P) (w := w) 9997 m fs.toList 0 xs ys hok h1 h2
  simpa using this

variable {ρ : Env} {Fs : List Hp} {bl : Blks} {sl : List OwnS} {ty : TypeId}
theorem QOp.eql_i2 (l1 l2 : List Int) {t u : TypeId} {x y : Operand} {fs : Array Field} {m : Nat} (ht : P.underlying t = some (.struct fs)) (hok : intsOk2 P m fs.toList 0 = true) (hp : P.stoodInHeld t = false) (hg : P.eqGuardType P.depth t = false) (h1 : l1.length = m) (h2 : l2.length = m)
    (hx : ev ρ x = some (.agg (l1.map (Value.int .i64)).toArray)) (hy : ev ρ y = some (.agg (l2.map (Value.int .i64)).toArray)) : QOp P ρ Fs bl sl (.binOp .eql t x y u) ty (.bool (decide (l1 = l2))) := .bin hx hy fun w => by
  rw [Sem.run_bind, guard_agg w hg]
  simp only [Result.andThen_ok, binOp]
  rw [Sem.run_bind, run_equal_ints2 ht hok hp h1 h2]
  rfl
theorem QOp.neq_i2 (l1 l2 : List Int) {t u : TypeId} {x y : Operand} {fs : Array Field} {m : Nat} (ht : P.underlying t = some (.struct fs)) (hok : intsOk2 P m fs.toList 0 = true) (hp : P.stoodInHeld t = false) (hg : P.eqGuardType P.depth t = false) (h1 : l1.length = m) (h2 : l2.length = m)
    (hx : ev ρ x = some (.agg (l1.map (Value.int .i64)).toArray)) (hy : ev ρ y = some (.agg (l2.map (Value.int .i64)).toArray)) : QOp P ρ Fs bl sl (.binOp .neq t x y u) ty (.bool (decide (l1 ≠ l2))) := .bin hx hy fun w => by
  rw [Sem.run_bind, guard_agg w hg]
  simp only [Result.andThen_ok, binOp]
  rw [Sem.run_bind, run_equal_ints2 ht hok hp h1 h2]
  simp only [Result.andThen_ok, Sem.run_pure, decide_not]
end
end Go.Proofs.Ytbhmhindommaeaa
