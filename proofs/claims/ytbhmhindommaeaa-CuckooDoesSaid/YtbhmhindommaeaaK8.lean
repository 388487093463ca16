/-
  More quiet operations: parts of slices and strings, structs.
-/
import Derived.Test.YtbhmhindommaeaaK7
namespace Go.Proofs.Ytbhmhindommaeaa
open Go.RowKit

/-- s[l:h] of a slice with elements of sz cells. -/
def subV (v : Value) (l h sz : Nat) : Value := match v with
  | .slice a _ cap => .slice (if cap = l then a else a.map (·.add (l * sz))) (h - l) (cap - l)
  | _ => undef

theorem Sl.sub {G : Hp} {sz : Nat} {v : Value} {xs : List (List Value)} (h : Sl G sz v xs) {l m : Nat} (h1 : l ≤ m) (h2 : m ≤ xs.length) : Sl G sz (subV v l m sz) ((xs.drop l).take (m - l)) := by
  obtain ⟨a, cap, rfl, hcap, hsz, hc⟩ := h
  have hlen : ((xs.drop l).take (m - l)).length = m - l := by simp; omega
  refine ⟨if cap = l then a else a.map (·.add (l * sz)), cap - l, by simp [subV, hlen], by rw [hlen]; omega, fun x hx => hsz x (List.mem_of_mem_drop (List.mem_of_mem_take hx)), fun hne => ?_⟩
  have hml : l < m := by
    rcases Nat.lt_or_ge l m with h | h
    · exact h
    · exfalso; apply hne; rw [List.eq_nil_iff_length_eq_zero, hlen]; omega
  have hne' : xs ≠ [] := by rintro rfl; simp at h2; omega
  obtain ⟨b, o, rfl, hc'⟩ := hc hne'
  refine ⟨b, o + l * sz, ?_, fun i x hi j c hj => ?_⟩
  · rw [if_neg (by omega)]; simp [addr_add]
  · have hi' : xs[l + i]? = some x := by
      have : i < m - l := by
        rcases Nat.lt_or_ge i (m - l) with h | h
        · exact h
        · rw [List.getElem?_eq_none (by rw [hlen]; exact h)] at hi; cases hi
      rw [List.getElem?_take_of_lt this, List.getElem?_drop] at hi
      exact hi
    have := hc' (l + i) x hi' j c hj
    rwa [Nat.add_mul, ← Nat.add_assoc] at this

section
variable {P : Program} {c : Cx} {R : Value → World → Prop} {nt : Nat} {w0 : World} {S0 : List Nat} {df : List Deferred} {ρ ρ' : Env} {Fs Fs' : List Hp} {bl bl' : Blks} {sl sl' : List OwnS}
  {K K' : Act → World → Prop} {k : List Item} {ty : TypeId}

/-- How a bound of a slice expression reads. -/
inductive Bnd (ρ : Env) (dflt : Nat) : Option Operand → Nat → Prop
  | no : Bnd ρ dflt none dflt
  | yes {x : Operand} {k : IntKind} {n : Int} {m : Nat} (hx : ev ρ x = some (.int k n)) (h0 : 0 ≤ n) (hm : n.toNat = m) : Bnd ρ dflt (some x) m

theorem Bnd.spec {ρ : Env} {d m : Nat} {o : Option Operand} (h : Bnd ρ d o m) (e : Operand → Value) (he : ∀ x u, ev ρ x = some u → e x = u) : o.map e = none ∧ m = d ∨ ∃ k n, o.map e = some (.int k n) ∧ 0 ≤ n ∧ n.toNat = m := by
  cases h with
  | no => exact .inl ⟨rfl, rfl⟩
  | yes hx h0 hm => exact .inr ⟨_, _, by rw [Option.map_some, he _ _ hx], h0, hm⟩

theorem QOp.slice_s {t : TypeId} {x : Operand} {lo hi : Option Operand} {s : ByteArray} {l h : Nat} (hx : ev ρ x = some (.string s)) (ht : P.underlying t = some .string) (hl : Bnd ρ 0 lo l) (hh : Bnd ρ s.size hi h) (h1 : l ≤ h) (h2 : h ≤ s.size) :
    QOp P ρ Fs bl sl (.slice t x lo hi none) ty (.string (s.extract l h)) := .of fun e he w _ => by
  refine run_v (s := Instr.sliceAt t (e x) (lo.map e) (hi.map e) none) ?_
  rw [he x _ hx]
  unfold Instr.sliceAt
  rw [Sem.run_bind, run_underlying ht]
  simp only [Result.andThen_ok]
  unfold Instr.slice
  rw [Sem.run_bind, run_underlying ht]
  simp only [Result.andThen_ok]
  simp only [Option.isSome_none, Bool.false_eq_true, if_false]
  rw [Sem.run_bind, run_sliceBounds (hl.spec e he) (hh.spec e he) h1 h2]
  rfl

theorem QOp.slice_sl {sz : Nat} {v : Value} {len cap : Nat} {a : Option Addr} {t el : TypeId} {x : Operand} {lo hi : Option Operand} {l h : Nat} (hx : ev ρ x = some v) (hv : v = .slice a len cap) (ht : slOf P t = some el) (hz : szOf P el = some sz)
    (hl : Bnd ρ 0 lo l) (hh : Bnd ρ len hi h) (h1 : l ≤ h) (h2 : h ≤ cap) : QOp P ρ Fs bl sl (.slice t x lo hi none) ty (subV v l h sz) := .of fun e he w _ => by
  subst hv
  have hu := slOf_spec ht
  refine run_v (s := Instr.sliceAt t (e x) (lo.map e) (hi.map e) none) ?_
  rw [he x _ hx]
  unfold Instr.sliceAt
  rw [Sem.run_bind, run_underlying hu]
  simp only [Result.andThen_ok]
  unfold Instr.slice
  rw [Sem.run_bind, run_underlying hu]
  simp only [Result.andThen_ok]
  rw [Sem.run_bind, run_sliceBounds (hl.spec e he) (hh.spec e he) h1 h2]
  simp only [Result.andThen_ok]
  rw [Sem.run_bind, run_sizeOf hz]
  rfl

/-- A part of a slice that reads, up to its length. -/
theorem QOp.slice {G : Hp} {sz : Nat} {v : Value} {xs : List (List Value)} {t el : TypeId} {x : Operand} {lo hi : Option Operand} {l h : Nat} (hs : Sl G sz v xs) (hx : ev ρ x = some v) (ht : slOf P t = some el) (hz : szOf P el = some sz)
    (hl : Bnd ρ 0 lo l) (hh : Bnd ρ xs.length hi h) (h1 : l ≤ h) (h2 : h ≤ xs.length) : QOp P ρ Fs bl sl (.slice t x lo hi none) ty (subV v l h sz) := by
  obtain ⟨a, cap, e, hcap, _⟩ := hs
  exact .slice_sl hx e ht hz hl hh h1 (by omega)

theorem QOp.index_s {t : TypeId} {x i : Operand} {s : ByteArray} {k : IntKind} {n : Int} (hx : ev ρ x = some (.string s)) (hi : ev ρ i = some (.int k n)) (ht : P.underlying t = some .string) (h0 : 0 ≤ n) (h1 : n < (s.size : Int)) :
    QOp P ρ Fs bl sl (.index t x i) ty (.int .u8 ((s.data.toList.getD n.toNat 0).toNat)) := .of fun e he w _ => by
  refine run_v (s := Instr.index t (e x) (e i)) ?_
  rw [he x _ hx, he i _ hi]
  unfold Instr.index
  have h2 : n.toNat < s.size := by omega
  have h3 : s[n.toNat]? = some s[n.toNat] := by
    rw [getElem?_pos s n.toNat h2]
  simp only [asIntOf, Sem.run_bind, Sem.run_pure, Result.andThen_ok, run_underlying ht, h0, if_true, h3]
  congr 3
  have : s[n.toNat] = s.data[n.toNat]'h2 := rfl
  rw [this]
  simp [List.getD_eq_getElem?_getD, Array.getElem?_eq_getElem (xs := s.data) (i := n.toNat) h2]

/-- The cells of a struct's fields, put in. -/
def fillL (place : List (Nat × Nat)) : List Value → List (Nat × Value) → Option (List Value)
  | cells, [] => some cells
  | cells, (i, v) :: rest => match place[i]? with
    | none => none
    | some (off, size) => if v.cells.size ≠ size || off + v.cells.size > cells.length then none else fillL place (cells.take off ++ v.cells.toList ++ cells.drop (off + v.cells.size)) rest

theorem fold_set : ∀ (l : List Value) (off j : Nat) (cells : Array Value), off + j + l.length ≤ cells.size →
    ((l.zipIdx j).foldl (fun cs (c, j) => cs.setIfInBounds (off + j) c) cells).toList = cells.toList.take (off + j) ++ l ++ cells.toList.drop (off + j + l.length)
  | [], off, j, cells, _ => by simp
  | v :: l, off, j, cells, h => by
    simp only [List.length_cons] at h
    simp only [List.zipIdx_cons, List.foldl_cons]
    rw [fold_set l off (j + 1) _ (by simp; omega)]
    simp only [Array.toList_setIfInBounds, List.length_cons]
    rw [show off + (j + 1) = off + j + 1 from by omega, show off + j + 1 + l.length = off + j + (l.length + 1) from by omega]
    rw [List.drop_set_of_lt (by omega)]
    rw [List.take_set, List.take_add_one]
    rw [List.set_append_right _ _ (by simp; omega)]
    simp only [List.length_take, Array.length_toList]
    rw [Nat.min_eq_left (by omega), Nat.sub_self]
    have : cells.toList[off + j]? = some (cells.toList[off + j]'(by simp; omega)) := List.getElem?_eq_getElem _
    rw [this]
    simp

theorem fill_eq (place : Nat → Option (Nat × Nat)) (pl : List (Nat × Nat)) (hp : ∀ i, place i = pl[i]?) : ∀ (parts : List (Nat × Value)) (cells : List Value), Instr.fill place cells.toArray parts = (fillL pl cells parts).map List.toArray
  | [], cells => by simp [Instr.fill, fillL]
  | (i, v) :: rest, cells => by
    simp only [Instr.fill, fillL, hp i]
    cases hq : pl[i]? with
    | none => simp
    | some q =>
      obtain ⟨off, size⟩ := q
      simp only [List.size_toArray]
      split
      · simp
      · rename_i hh
        simp only [Bool.or_eq_true, decide_eq_true_eq, not_or, ne_eq, Decidable.not_not] at hh
        rw [← fill_eq place pl hp rest]
        congr 1
        have := fold_set v.cells.toList off 0 cells.toArray (by simp; omega)
        rw [← Array.toList_inj]
        rw [← Array.foldl_toList]
        simpa using this

theorem run_mapM_places {w : World} : ∀ (fs : List Field) (pl : List (Nat × Nat)), fs.mapM (fun f => (szOf P f.type).map (f.offset, ·)) = some pl → (fs.mapM (fun f => do pure (f.offset, ← sizeOf f.type) : Field → Sem (Nat × Nat))).run P w = .ok pl w
  | [], pl, h => by simp at h; subst h; simp
  | f :: fs, pl, h => by
    simp only [List.mapM_cons, Option.bind_eq_bind, Option.bind_eq_some_iff, Option.map_eq_some_iff] at h
    obtain ⟨q, ⟨n, hn, rfl⟩, r, hr, hq⟩ := h
    simp only [Option.pure_def, Option.some.injEq] at hq
    subst hq
    simp only [List.mapM_cons]
    rw [Sem.run_bind, Sem.run_bind, run_sizeOf hn]
    simp only [Result.andThen_ok, Sem.run_pure]
    rw [Sem.run_bind, run_mapM_places fs r hr]
    simp

theorem map_ev {ρ : Env} {e : Operand → Value} (he : ∀ x u, ev ρ x = some u → e x = u) : ∀ (ps : List (Nat × Operand)) (vs : List (Nat × Value)), ps.map (fun p => (ev ρ p.2).map (p.1, ·)) = vs.map some → ps.map (fun p => (p.1, e p.2)) = vs
  | [], vs, h => by cases vs <;> simp at h ⊢
  | p :: ps, vs, h => by
    cases vs with
    | nil => simp at h
    | cons v vs =>
      simp only [List.map_cons, List.cons.injEq, Option.map_eq_some_iff] at h
      obtain ⟨⟨u, hu, hv⟩, h2⟩ := h
      simp only [List.map_cons, he _ _ hu, hv, map_ev he ps vs h2]

/-- A struct's value. -/
theorem QOp.build (res : List Value) (vs : List (Nat × Value)) {t : TypeId} {ps : Array (Nat × Operand)} {pl : List (Nat × Nat)} {agg : Bool} {sz bytes : Nat} {z : List Value} (ht : TyI P t agg sz bytes z) (hpl : plOf P t = some pl)
    (hv : ps.toList.map (fun p => (ev ρ p.2).map (p.1, ·)) = vs.map some) (hres : fillL pl z vs = some res) : QOp P ρ Fs bl sl (.build t ps) ty (.agg res.toArray) := .of fun e he w _ => by
  have hps : (ps.map fun p => (p.1, e p.2)) = vs.toArray := by
    rw [← Array.toList_inj]; simpa using map_ev he _ _ hv
  refine run_v (s := Instr.build t (ps.map fun (i, x) => (i, e x))) ?_
  rw [show (ps.map fun (i, x) => (i, e x)) = vs.toArray from hps]
  unfold plOf at hpl
  split at hpl
  · rename_i fs hu
    obtain ⟨zv, hz1, hz2⟩ := run_zero ht.z w
    unfold Instr.build
    rw [Sem.run_bind, hz1]
    simp only [Result.andThen_ok]
    rw [Sem.run_bind, run_underlying hu]
    simp only [Result.andThen_ok]
    rw [Sem.run_bind]
    have : (fs.mapM (fun f => do pure (f.offset, ← sizeOf f.type) : Field → Sem (Nat × Nat))).run P w = .ok pl.toArray w := by
      rw [← Array.toArray_toList (xs := fs), List.mapM_toArray]
      have := run_mapM_places (w := w) fs.toList pl hpl
      rw [map_eq_pure_bind, Sem.run_bind, this]
      rfl
    rw [this]
    simp only [Result.andThen_ok, hz2]
    rw [fill_eq _ pl (fun i => by simp) vs z, hres]
    rfl
  · cases hpl

theorem run_field {w : World} {t ft : TypeId} {n off : Nat} {cs : List Value} {v : Value} (hf : fldOf P t n = some (off, ft)) (h : (part ft cs.toArray off).run P w = .ok v w) : (Instr.field t (.agg cs.toArray) n).run P w = .ok v w := by
  unfold fldOf at hf
  split at hf
  · rename_i fs hu
    cases hn : fs[n]? with
    | none => simp [hn] at hf
    | some f =>
      simp only [hn, Option.map_some, Option.some.injEq, Prod.mk.injEq] at hf
      obtain ⟨rfl, rfl⟩ := hf
      unfold Instr.field
      rw [Sem.run_bind, run_underlying hu]
      simp only [Result.andThen_ok, hn, asAgg]
      rw [Sem.run_bind]
      simp only [Sem.run_pure, Result.andThen_ok]
      exact h
  · cases hf

theorem QOp.field {t ft : TypeId} {x : Operand} {n off sz bytes : Nat} {cs z : List Value} {v : Value} (hx : ev ρ x = some (.agg cs.toArray)) (hf : fldOf P t n = some (off, ft)) (ht : TyI P ft false sz bytes z) (hv : cs[off]? = some v) :
    QOp P ρ Fs bl sl (.field t x n) ty v := .of fun e he w _ => by
  refine run_v (s := Instr.field t (e x) n) ?_
  rw [he x _ hx]
  refine run_field hf ?_
  unfold part
  rw [Sem.run_bind, run_isAgg ht.agg]
  simp [hv]
theorem QOp.field_a (l : List Value) {t ft : TypeId} {x : Operand} {n off bytes : Nat} {cs z : List Value} (hx : ev ρ x = some (.agg cs.toArray)) (hf : fldOf P t n = some (off, ft)) (ht : TyI P ft true l.length bytes z) (hv : (cs.drop off).take l.length = l) :
    QOp P ρ Fs bl sl (.field t x n) ty (.agg l.toArray) := .of fun e he w _ => by
  refine run_v (s := Instr.field t (e x) n) ?_
  rw [he x _ hx]
  refine run_field hf ?_
  unfold part
  rw [Sem.run_bind, run_isAgg ht.agg]
  simp only [Result.andThen_ok, if_true]
  rw [Sem.run_bind, run_sizeOf ht.sz]
  simp only [Result.andThen_ok, Sem.run_pure]
  congr 2
  rw [← Array.toList_inj]
  simp only [Array.toList_extract, List.extract_eq_take_drop]
  rw [show off + l.length - off = l.length from by omega]
  exact hv

theorem pick_mem {α : Type} {l l0 : List α} (is : List Nat) (h : is.map (l[·]?) = l0.map some) : ∀ p ∈ l0, p ∈ l := by
  intro p hp
  have : some p ∈ is.map (l[·]?) := by rw [h]; exact List.mem_map.2 ⟨p, hp, rfl⟩
  obtain ⟨i, _, hi⟩ := List.mem_map.1 this
  exact List.mem_of_getElem? hi

/-- A struct's fields that are all of int, in order. -/
def intsOk (P : Program) (fs : List Field) : Bool := fs.zipIdx.all fun (f, i) => f.name != "_" && f.offset == i && (match P.underlying f.type with | some (.int .i64) => true | _ => false)

theorem run_eqInts {w : World} (d : Nat) : ∀ (fs : List Field) (n : Nat) (xs ys : List Int), (fs.zipIdx n).all (fun (f, i) => f.name != "_" && f.offset == i && (match P.underlying f.type with | some (.int .i64) => true | _ => false)) = true →
    xs.length = n + fs.length → ys.length = n + fs.length →
    (Op.eqFields (d + 1) (xs.map (Value.int .i64)).toArray (ys.map (Value.int .i64)).toArray fs).run P w = .ok (decide (xs.drop n = ys.drop n)) w
  | [], n, xs, ys, _, h1, h2 => by
    simp at h1 h2
    simp [Op.eqFields, List.drop_of_length_le, h1, h2]
  | f :: fs, n, xs, ys, h, h1, h2 => by
    simp only [List.zipIdx_cons, List.all_cons, Bool.and_eq_true, bne_iff_ne, ne_eq, beq_iff_eq] at h
    obtain ⟨⟨⟨hn, ho⟩, ht⟩, hr⟩ := h
    simp only [List.length_cons] at h1 h2
    have hu : P.underlying f.type = some (.int .i64) := by
      revert ht
      split
      · intro _; assumption
      · intro h; cases h
    have ha : aggOf P f.type = some false := by simp [aggOf, hu]
    have hx : ∀ (l : List Int), l.length = n + (fs.length + 1) → (part f.type (l.map (Value.int .i64)).toArray f.offset).run P w = .ok (.int .i64 (l.getD n 0)) w := fun l hl => by
      unfold part
      rw [Sem.run_bind, run_isAgg ha]
      have : n < l.length := by omega
      simp [ho, this, List.getD_eq_getElem?_getD]
    simp only [Op.eqFields, ne_eq, hn, not_false_eq_true, if_true]
    rw [Sem.run_bind, hx xs (by omega)]
    simp only [Result.andThen_ok]
    rw [Sem.run_bind, hx ys (by omega)]
    simp only [Result.andThen_ok]
    rw [Sem.run_bind, run_equalIn_int w d f.type .i64 .i64 _ _ hu]
    simp only [Result.andThen_ok]
    have e1 : xs.drop n = xs.getD n 0 :: xs.drop (n + 1) := by
      rw [List.getD_eq_getElem?_getD, List.getElem?_eq_getElem (by omega)]; simp
    have e2 : ys.drop n = ys.getD n 0 :: ys.drop (n + 1) := by
      rw [List.getD_eq_getElem?_getD, List.getElem?_eq_getElem (by omega)]; simp
    have ih := run_eqInts (w := w) d fs (n + 1) xs ys hr (by omega) (by omega)
    by_cases he : xs.getD n 0 = ys.getD n 0
    · simp only [he, beq_self_eq_true, Bool.not_true, Bool.false_eq_true, if_false]
      rw [ih, e1, e2, he]
      simp
    · have : (xs.getD n 0 == ys.getD n 0) = false := by simpa using he
      simp only [this, Bool.not_false, if_true, Sem.run_pure]
      rw [e1, e2]
      have : ¬ (xs.getD n 0 :: xs.drop (n + 1) = ys.getD n 0 :: ys.drop (n + 1)) := fun h => he (List.cons.inj h).1
      rw [decide_eq_false this]

theorem run_equal_ints {w : World} {t : TypeId} {fs : Array Field} {xs ys : List Int} (ht : P.underlying t = some (.struct fs)) (hok : intsOk P fs.toList = true) (hp : P.stoodInHeld t = false) (h1 : xs.length = fs.size) (h2 : ys.length = fs.size) :
    (Op.equal t (.agg (xs.map (Value.int .i64)).toArray) (.agg (ys.map (Value.int .i64)).toArray)).run P w = .ok (decide (xs = ys)) w := by
  have hf : P.fieldsOf t = fs := by simp [Program.fieldsOf, ht]
  show (Op.equalIn (9999 + 1) t _ _).run P w = _
  rw [run_equalIn_struct w 9999 t _ _ (by rw [hf]; exact ht) hp, hf]
  have := run_eqInts (P := P) (w := w) 9998 fs.toList 0 xs ys (by simpa [intsOk] using hok) (by simpa using h1) (by simpa using h2)
  simpa using this

theorem guard_agg {t : TypeId} {x y : Operand} {a b : Array Value} {op : BinOp} (w : World) (hg : P.eqGuardType P.depth t = false) : (eqGuard op t x y (.agg a) (.agg b)).run P w = .ok () w := by
  unfold eqGuard
  cases op <;> first
    | rfl
    | simp [hg]

theorem QOp.eql_i (l1 l2 : List Int) {t u : TypeId} {x y : Operand} {fs : Array Field} (ht : P.underlying t = some (.struct fs)) (hok : intsOk P fs.toList = true) (hp : P.stoodInHeld t = false) (hg : P.eqGuardType P.depth t = false) (h1 : l1.length = fs.size) (h2 : l2.length = fs.size)
    (hx : ev ρ x = some (.agg (l1.map (Value.int .i64)).toArray)) (hy : ev ρ y = some (.agg (l2.map (Value.int .i64)).toArray)) : QOp P ρ Fs bl sl (.binOp .eql t x y u) ty (.bool (decide (l1 = l2))) := .bin hx hy fun w => by
  rw [Sem.run_bind, guard_agg w hg]
  simp only [Result.andThen_ok, binOp]
  rw [Sem.run_bind, run_equal_ints ht hok hp h1 h2]
  rfl
theorem QOp.neq_i (l1 l2 : List Int) {t u : TypeId} {x y : Operand} {fs : Array Field} (ht : P.underlying t = some (.struct fs)) (hok : intsOk P fs.toList = true) (hp : P.stoodInHeld t = false) (hg : P.eqGuardType P.depth t = false) (h1 : l1.length = fs.size) (h2 : l2.length = fs.size)
    (hx : ev ρ x = some (.agg (l1.map (Value.int .i64)).toArray)) (hy : ev ρ y = some (.agg (l2.map (Value.int .i64)).toArray)) : QOp P ρ Fs bl sl (.binOp .neq t x y u) ty (.bool (decide (l1 ≠ l2))) := .bin hx hy fun w => by
  rw [Sem.run_bind, guard_agg w hg]
  simp only [Result.andThen_ok, binOp]
  rw [Sem.run_bind, run_equal_ints ht hok hp h1 h2]
  simp only [Result.andThen_ok, Sem.run_pure, decide_not]
end
end Go.Proofs.Ytbhmhindommaeaa
