/-
  Maps of one's own: a block whose entries are a plain list.
-/
import Derived.Test.YtbhmhindommaeaaL9
import Derived.MapKept
namespace Go.Proofs.Ytbhmhindommaeaa
open Go.RowKit Go.MapKept
set_option linter.unusedSectionVars false
set_option linter.unusedSimpArgs false

section
variable {α β : Type} [DecidableEq α]
/-- The entries from number n on. -/
def mEs (f : α → Value) (g : β → Value) : Nat → List (α × β) → List MapEntry
  | _, [] => []
  | n, x :: l => ⟨f x.1, g x.2, n⟩ :: mEs f g (n + 1) l
/-- A map's block. -/
abbrev mObj (f : α → Value) (g : β → Value) (l : List (α × β)) : Obj := .map (mEs f g 0 l).toArray l.length

theorem mEs_app (f : α → Value) (g : β → Value) (x : α × β) : ∀ (n : Nat) (l : List (α × β)), mEs f g n (l ++ [x]) = mEs f g n l ++ [⟨f x.1, g x.2, n + l.length⟩]
  | n, [] => rfl
  | n, y :: l => by
    simp only [List.cons_append, mEs, List.length_cons, mEs_app f g x (n + 1) l]
    rw [show n + 1 + l.length = n + (l.length + 1) by omega]
theorem mEs_mod (f : α → Value) (g : β → Value) (k : α) (v : β) : ∀ (j n : Nat) (l : List (α × β)), j < l.length → (mEs f g n l).modify j (fun e => { e with key := f k, val := g v }) = mEs f g n (l.set j (k, v))
  | _, _, [], h => by simp at h
  | 0, n, y :: l, _ => by simp [mEs, List.modify]
  | j + 1, n, y :: l, h => by
    have := mEs_mod f g k v j (n + 1) l (by simpa using h)
    simp only [mEs, List.modify_succ_cons, List.set_cons_succ, this]

theorem find_mEs {d : TypeDesc} {f : α → Value} {g : β → Value} (hK : ∀ a, IsKey d (f a)) (hi : ∀ a b, f a = f b → a = b) (k : α) (v : β) : ∀ (l : List (α × β)) (n i : Nat),
    (mget l k = none ∧ Instr.findNow d (f k) (mEs f g n l) i = some none ∧ mput l k v = l ++ [(k, v)]) ∨
    ∃ b j, mget l k = some b ∧ Instr.findNow d (f k) (mEs f g n l) i = some (some (i + j, g b)) ∧ j < l.length ∧ mput l k v = l.set j (k, v) ∧ ∃ e, (mEs f g n l)[j]? = some e ∧ e.key = f k
  | [], n, i => .inl ⟨rfl, rfl, rfl⟩
  | (a, b) :: l, n, i => by
    obtain ⟨r, hr, hiff⟩ := sameNow_of_keys (hK k) (hK a)
    by_cases h : a = k
    · subst h
      have : r = true := hiff.2 rfl
      subst this
      exact .inr ⟨b, 0, by simp [mget], by simp [mEs, Instr.findNow, hr], by simp, by simp [mput], _, rfl, rfl⟩
    · have hr2 : r = false := by
        cases r with
        | false => rfl
        | true => exact absurd (hi _ _ (hiff.1 rfl)).symm h
      subst hr2
      rcases find_mEs (g := g) hK hi k v l (n + 1) (i + 1) with ⟨h1, h2, h3⟩ | ⟨b', j, h1, h2, h3, h4, e, h5, h6⟩
      · exact .inl ⟨by simp [mget, h, h1], by simp [mEs, Instr.findNow, hr, h2], by simp [mput, h, h3]⟩
      · exact .inr ⟨b', j + 1, by simp [mget, h, h1], by simp [mEs, Instr.findNow, hr, h2]; omega, by simpa using h3, by simp [mput, h, h4], e, by simpa [mEs] using h5, h6⟩

theorem mput_run {P : Program} {w : World} {t kt et : TypeId} {d : TypeDesc} {f : α → Value} {g : β → Value} (hm : P.underlying t = some (.map kt et)) (hd : P.underlying kt = some d) (hK : ∀ a, IsKey d (f a)) (hi : ∀ a b, f a = f b → a = b) {r : Nat} {l : List (α × β)} (hb : w.heap[r]? = some (mObj f g l)) (k : α) (v : β) :
    (Instr.mapUpdate t (.map (some r)) (f k) (g v)).run P w = .ok () { w with heap := w.heap.setIfInBounds r (mObj f g (mput l k v)) } := by
  rcases find_mEs hK hi (g := g) k v l 0 0 with ⟨_, h2, h3⟩ | ⟨b, j, _, h2, h3, h4, e, h5, h6⟩
  · rw [h3]
    simp [Instr.mapUpdate, run_underlying hm, MapKept.run_getObj_map hb, MapKept.run_checkKey hd (hK k), MapKept.run_findKey hd h2, MapKept.run_setObj_map _ hb]
    rw [mObj, mEs_app, List.length_append, Nat.zero_add]; rfl
  · rw [h4]
    have hk : (((mEs f g 0 l).toArray[j]?).map (·.key)).getD (f k) = f k := by simp [h5, h6]
    simp only [Nat.zero_add] at h2
    have e2 : (mEs f g 0 l).toArray.modify j (fun e => { e with key := f k, val := g v }) = (mEs f g 0 (l.set j (k, v))).toArray := by
      rw [← mEs_mod f g k v j 0 l h3]
      apply Array.ext'
      simp
    simp only [Instr.mapUpdate, Sem.run_bind, run_underlying hm, Result.andThen_ok, MapKept.run_getObj_map hb, MapKept.run_checkKey hd (hK k), MapKept.run_findKey hd h2, hk, MapKept.run_keyThatStays (hK k), e2]
    rw [mObj, List.length_set]
    exact MapKept.run_setObj_map _ hb
theorem mget_run {P : Program} {w : World} {t kt et : TypeId} {d : TypeDesc} {f : α → Value} {g : β → Value} {z : β} (hm : P.underlying t = some (.map kt et)) (hd : P.underlying kt = some d) (hK : ∀ a, IsKey d (f a)) (hi : ∀ a b, f a = f b → a = b) (hz : (P.info? et).bind (·.zero) = some (g z)) {r : Nat} {l : List (α × β)} (hb : w.heap[r]? = some (mObj f g l)) (k : α) :
    (Instr.lookup t (.map (some r)) (f k) false).run P w = .ok (g ((mget l k).getD z)) w := by
  have hzr : (zeroValue et).run P w = .ok (g z) w := by
    cases h1 : P.info? et with
    | none => rw [h1] at hz; cases hz
    | some i =>
      rw [h1] at hz
      cases h2 : i.zero with
      | none => rw [Option.bind_some, h2] at hz; cases hz
      | some u =>
        rw [Option.bind_some, h2] at hz
        obtain rfl := Option.some.inj hz
        simp [zeroValue, typeInfo, h1, h2]
  rcases find_mEs hK hi (g := g) k z l 0 0 with ⟨h1, h2, _⟩ | ⟨b, j, h1, h2, _⟩
  · simp [Instr.lookup, run_underlying hm, MapKept.run_getObj_map hb, MapKept.run_checkKey hd (hK k), MapKept.run_findKey hd h2, h1, hzr]
  · simp [Instr.lookup, run_underlying hm, MapKept.run_getObj_map hb, MapKept.run_checkKey hd (hK k), MapKept.run_findKey hd h2, h1]
end

section
variable {P : Program} {c : Cx} {R : Value → World → Prop} {nt : Nat} {w0 : World} {S0 : List Nat} {df : List Deferred} {ρ ρ' : Env} {Fs Fs' : List Hp} {bl bl' : Blks} {sl sl' : List OwnS}
  {K K' : Act → World → Prop} {k : List Item} {ty : TypeId} {α β : Type} [DecidableEq α]

theorem Cov.mkMap {d : Nat} {t : TypeId} (f : α → Value) (g : β → Value) (hs : Stp P K' ⟨some d, .makeMap t none, ty, none⟩ K) (hd : Nat.blt d nt = true)
    (hk : ∀ b, w0.heap.size ≤ b → Cov nt w0 S0 df ((d, .map (some b)) :: ρ) Fs ((b, mObj f g []) :: bl) sl K) : Cov nt w0 S0 df ρ Fs bl sl K' :=
  .new_ (fv := fun b => .map (some b)) hs (fun _ _ _ _ => run_v (s := Instr.makeMap t none) rfl) hd hk

theorem Cov.mapPut (i : Nat) {f : α → Value} {g : β → Value} {l : List (α × β)} {x : α} {y : β} {t kt et : TypeId} {dsc : TypeDesc} {m p q : Operand} {b : Nat} {op : Op} (hop : op = .mapUpdate t m p q ∨ op = .insert t m p q) (hs : Stp P K' ⟨none, op, ty, none⟩ K)
    (hm : ev ρ m = some (.map (some b))) (hp : ev ρ p = some (f x)) (hq : ev ρ q = some (g y)) (hb : bl[i]? = some (b, mObj f g l)) (ht : P.underlying t = some (.map kt et)) (hd : P.underlying kt = some dsc) (hK : ∀ a, IsKey dsc (f a)) (hi : ∀ a b, f a = f b → a = b)
    (bl' : Blks) (hbl : bl.set i (b, mObj f g (mput l x y)) = bl') (hk : Cov nt w0 S0 df ρ Fs bl' sl K) : Cov nt w0 S0 df ρ Fs bl sl K' := fun a w hf hinv => by
  refine hs a w ?_
  have hbw : w.heap[b]? = some (mObj f g l) := hinv.mem.own _ (List.mem_of_getElem? hb)
  have hr := mput_run (P := P) (w := w) ht hd hK hi hbw x y
  have hrun : (execOp a.eval (⟨none, op, ty, none⟩ : OpX).oper).run P w = .ok .skip { w with heap := w.heap.setIfInBounds b (mObj f g (mput l x y)) } := by
    rcases hop with rfl | rfl
    · refine run_u (s := Instr.mapUpdate t (a.eval m) (a.eval p) (a.eval q)) ?_
      rw [ev_sound hf hm, ev_sound hf hp, ev_sound hf hq]; exact hr
    · refine run_u (s := Instr.mapUpdate t (a.eval m) (a.eval p) (a.eval q)) ?_
      rw [ev_sound hf hm, ev_sound hf hp, ev_sound hf hq]; exact hr
  unfold Oper.wp
  rw [hrun]
  subst hbl
  have hlt : b < w.heap.size := (Array.getElem?_eq_some_iff.1 hbw).1
  exact hk _ _ (hf.put_none _) (hinv.set i hb ⟨rfl, rfl, rfl, by simp, fun z _ hz => by simp only [List.mem_singleton] at hz; simp [Ne.symm hz]⟩ (by simp [hlt]))

theorem QOp.mapGet (i : Nat) {f : α → Value} {g : β → Value} {l : List (α × β)} {x : α} {z : β} {t kt et : TypeId} {dsc : TypeDesc} {m p : Operand} {b : Nat} (hm : ev ρ m = some (.map (some b))) (hp : ev ρ p = some (f x)) (hb : bl[i]? = some (b, mObj f g l)) (ht : P.underlying t = some (.map kt et)) (hd : P.underlying kt = some dsc)
    (hK : ∀ a, IsKey dsc (f a)) (hi : ∀ a b, f a = f b → a = b) (hz : (P.info? et).bind (·.zero) = some (g z)) : QOp P ρ Fs bl sl (.lookup t m p false) ty (g ((mget l x).getD z)) := .of fun e he w hmem => by
  have hbw : w.heap[b]? = some (mObj f g l) := hmem.own _ (List.mem_of_getElem? hb)
  refine run_v (s := Instr.lookup t (e m) (e p) false) ?_
  rw [he m _ hm, he p _ hp]
  exact mget_run ht hd hK hi hz hbw x
end
theorem ik_int {k : IntKind} : ∀ a : Int, IsKey (.int k) (.int k a) := fun _ => rfl
theorem ij_int {k : IntKind} : ∀ a b : Int, Value.int k a = Value.int k b → a = b := fun _ _ h => by cases h; rfl
theorem ik_str : ∀ a : ByteArray, IsKey .string (.string a) := fun _ => trivial
theorem ij_str : ∀ a b : ByteArray, Value.string a = Value.string b → a = b := fun _ _ h => by cases h; rfl
end Go.Proofs.Ytbhmhindommaeaa
