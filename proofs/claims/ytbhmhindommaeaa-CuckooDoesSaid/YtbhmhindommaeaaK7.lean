/-
  Memory: what is read, what is written, what is made.
-/
import Derived.Test.YtbhmhindommaeaaK6
namespace Go.Proofs.Ytbhmhindommaeaa
open Go.RowKit

/-- The cell that G holds. -/
def rcell (G : Hp) (b o : Nat) : Option Value := match G b with
  | some (.cells c _ _) => c[o]?
  | _ => none

/-- p points, in G, to the cells cs. -/
def Rp (G : Hp) (p : Value) (cs : List Value) : Prop := ∃ b o, p = .pointer (some ⟨b, o, none⟩) ∧ ∀ (j : Nat) (c : Value), cs[j]? = some c → rcell G b (o + j) = some c

/-- v reads, in G, as a slice whose elements, of sz cells each, are xs. -/
def Sl (G : Hp) (sz : Nat) (v : Value) (xs : List (List Value)) : Prop :=
  ∃ a cap, v = .slice a xs.length cap ∧ xs.length ≤ cap ∧ (∀ x ∈ xs, x.length = sz) ∧
    (xs ≠ [] → ∃ b o, a = some ⟨b, o, none⟩ ∧ ∀ (i : Nat) (x : List Value), xs[i]? = some x → ∀ (j : Nat) (c : Value), x[j]? = some c → rcell G b (o + i * sz + j) = some c)

def elemPtr (v : Value) (i sz : Nat) : Value := match v with
  | .slice (some a) _ _ => .pointer (some (a.add (i * sz)))
  | _ => undef
def ptrAdd (p : Value) (n : Nat) : Value := match p with
  | .pointer (some a) => .pointer (some (a.add n))
  | v => v
def sLen : Value → Option Nat
  | .slice _ n _ => some n
  | _ => none

def szOf (P : Program) (t : TypeId) : Option Nat := (P.info? t).map (·.size)
def byOf (P : Program) (t : TypeId) : Option Nat := (P.info? t).map (·.bytes)
def aggOf (P : Program) (t : TypeId) : Option Bool := (P.underlying t).map fun d => match d with | .struct _ | .array _ _ => true | _ => false
def zOf (P : Program) (t : TypeId) : Option (List Value) := ((P.info? t).bind (·.zero)).map (·.cells.toList)
def fldOf (P : Program) (t : TypeId) (n : Nat) : Option (Nat × TypeId) := match P.underlying t with
  | some (.struct fs) => (fs[n]?).map fun f => (f.offset, f.type)
  | _ => none
def plOf (P : Program) (t : TypeId) : Option (List (Nat × Nat)) := match P.underlying t with
  | some (.struct fs) => fs.toList.mapM fun f => (szOf P f.type).map (f.offset, ·)
  | _ => none
def slOf (P : Program) (t : TypeId) : Option TypeId := match P.underlying t with
  | some (.slice e) => some e
  | _ => none
/-- A type's own row: is it a struct or an array, its cells, its bytes, its zero. -/
structure TyI (P : Program) (t : TypeId) (agg : Bool) (sz bytes : Nat) (z : List Value) : Prop where
  sz : szOf P t = some sz
  agg : aggOf P t = some agg
  by_ : byOf P t = some bytes
  z : zOf P t = some z

theorem run_sizeOf {P : Program} {t : TypeId} {n : Nat} (h : szOf P t = some n) (w : World) : (sizeOf t).run P w = .ok n w := by
  unfold szOf at h
  cases hi : P.info? t with
  | none => simp [hi] at h
  | some i => simp [hi] at h; simp [sizeOf, typeInfo, hi, h]
theorem run_isAgg {P : Program} {t : TypeId} {b : Bool} (h : aggOf P t = some b) (w : World) : (isAgg t).run P w = .ok b w := by
  unfold aggOf at h
  cases hi : P.underlying t with
  | none => simp [hi] at h
  | some d =>
    simp only [hi, Option.map_some, Option.some.injEq] at h
    unfold isAgg
    rw [Sem.run_bind, run_underlying hi]
    subst h
    cases d <;> rfl
theorem run_zero {P : Program} {t : TypeId} {z : List Value} (h : zOf P t = some z) (w : World) : ∃ v, (zeroValue t).run P w = .ok v w ∧ v.cells = z.toArray := by
  unfold zOf at h
  cases hi : P.info? t with
  | none => simp [hi] at h
  | some i =>
    cases hz : i.zero with
    | none => simp [hi, hz] at h
    | some v =>
      simp only [hi, hz, Option.bind_some, Option.map_some, Option.some.injEq] at h
      exact ⟨v, by simp [zeroValue, typeInfo, hi, hz], by rw [← h]⟩

theorem addr_add (b o n : Nat) : (⟨b, o, none⟩ : Addr).add n = ⟨b, o + n, none⟩ := by
  unfold Addr.add; split <;> simp_all

theorem HpIn.cell {G : Hp} {w : World} (h : HpIn G w) {b o : Nat} {v : Value} (hc : rcell G b o = some v) : w.cell? ⟨b, o, none⟩ = some v := by
  unfold rcell at hc
  cases hg : G b with
  | none => rw [hg] at hc; cases hc
  | some ob =>
    rw [hg] at hc
    have := h b ob hg
    unfold World.cell?
    simp only [this]
    cases ob <;> simp_all

theorem Sl.len {G : Hp} {sz : Nat} {v : Value} {xs : List (List Value)} (h : Sl G sz v xs) : sLen v = some xs.length := by
  obtain ⟨a, cap, rfl, _⟩ := h; rfl

theorem Sl.elem {G : Hp} {sz : Nat} {v : Value} {xs : List (List Value)} (h : Sl G sz v xs) {i : Nat} {x : List Value} (hi : xs[i]? = some x) : Rp G (elemPtr v i sz) x := by
  obtain ⟨a, cap, rfl, _, _, hc⟩ := h
  have hne : xs ≠ [] := by rintro rfl; simp at hi
  obtain ⟨b, o, rfl, hc'⟩ := hc hne
  exact ⟨b, o + i * sz, by simp [elemPtr, addr_add], fun j c hj => hc' i x hi j c hj⟩

theorem Rp.add {G : Hp} {p : Value} {cs : List Value} (h : Rp G p cs) (n : Nat) : Rp G (ptrAdd p n) (cs.drop n) := by
  obtain ⟨b, o, rfl, hc⟩ := h
  refine ⟨b, o + n, by simp [ptrAdd, addr_add], fun j c hj => ?_⟩
  have := hc (n + j) c (by simpa [List.getElem?_drop] using hj)
  rwa [← Nat.add_assoc] at this

section
variable {P : Program} {c : Cx} {R : Value → World → Prop} {nt : Nat} {w0 : World} {S0 : List Nat} {df : List Deferred} {ρ ρ' : Env} {Fs Fs' : List Hp} {bl bl' : Blks} {sl sl' : List OwnS}
  {K K' : Act → World → Prop} {k : List Item} {ty : TypeId}

theorem run_v {s : Sem Value} {v : Value} {w w' : World} (h : s.run P w = .ok v w') : (do let x ← s; pure (Next.value x) : Sem Next).run P w = .ok (.value v) w' := by rw [Sem.run_bind, h]; rfl
theorem run_u {s : Sem Unit} {w w' : World} (h : s.run P w = .ok () w') : (do s; pure Next.skip : Sem Next).run P w = .ok .skip w' := by rw [Sem.run_bind, h]; rfl

theorem cell_own {w : World} (hm : Mem Fs bl sl w) {i b : Nat} {cs : List Value} {T : TypeId} {fz : Nat × Nat} (h : bl[i]? = some (b, .cells cs.toArray T fz)) (o : Nat) : w.cell? ⟨b, o, none⟩ = cs[o]? := by
  have := hm.own _ (List.mem_of_getElem? h)
  unfold World.cell?
  simp only [this]
  simp

theorem run_loadCells {w : World} {b o : Nat} : ∀ (l : List Value) (i : Nat) (acc : Array Value), (∀ (j : Nat) (v : Value), l[j]? = some v → w.cell? ⟨b, o + (i + j), none⟩ = some v) →
    (loadCellsFrom ⟨b, o, none⟩ i l.length acc).run P w = .ok (acc ++ l.toArray) w
  | [], i, acc, _ => by simp [loadCellsFrom]
  | v :: l, i, acc, h => by
    have h0 := h 0 v (by simp)
    simp only [Nat.add_zero] at h0
    simp only [List.length_cons, loadCellsFrom, addr_add]
    rw [Sem.run_bind]
    have : (load ⟨b, o + i, none⟩).run P w = .ok v w := by simp [load, Sem.run, h0]
    rw [this]
    simp only [Result.andThen_ok]
    rw [run_loadCells l (i + 1) (acc.push v) (fun j u hj => by
      have := h (j + 1) u (by simpa using hj)
      rwa [show i + (j + 1) = i + 1 + j from by omega] at this)]
    simp

theorem run_loadVar_s {w : World} {t : TypeId} {b o : Nat} {v : Value} (ht : ∀ w, (isAgg t).run P w = .ok false w) (h : w.cell? ⟨b, o, none⟩ = some v) : (loadVar t ⟨b, o, none⟩).run P w = .ok v w := by
  unfold loadVar
  rw [Sem.run_bind, ht]
  simp [load, Sem.run, h]

theorem run_loadVar_a {w : World} {t : TypeId} {b o : Nat} {l : List Value} (ht : ∀ w, (isAgg t).run P w = .ok true w) (hn : ∀ w, (sizeOf t).run P w = .ok l.length w) (h : ∀ (j : Nat) (v : Value), l[j]? = some v → w.cell? ⟨b, o + j, none⟩ = some v) :
    (loadVar t ⟨b, o, none⟩).run P w = .ok (.agg l.toArray) w := by
  unfold loadVar
  rw [Sem.run_bind, ht]
  simp only [Result.andThen_ok, if_true]
  rw [Sem.run_bind, hn]
  simp only [Result.andThen_ok]
  rw [Sem.run_bind]
  have := run_loadCells (P := P) (w := w) (b := b) (o := o) l 0 #[] (fun j v hj => by simpa using h j v hj)
  unfold loadCells
  rw [this]
  simp

theorem QOp.load_own (i : Nat) {t : TypeId} {x : Operand} {b o : Nat} {cs : List Value} {T : TypeId} {fz : Nat × Nat} {v : Value} (hx : ev ρ x = some (.pointer (some ⟨b, o, none⟩)))
    (h : bl[i]? = some (b, .cells cs.toArray T fz)) {sz bytes : Nat} {z : List Value} (ht : TyI P t false sz bytes z) (hv : cs[o]? = some v) : QOp P ρ Fs bl sl (.load t x) ty v := .of fun e he w hm => by
  have := cell_own hm h o
  refine run_v (s := Instr.loadAt t (e x)) ?_
  rw [he x _ hx]
  exact run_loadVar_s (run_isAgg ht.agg) (this.trans hv)

theorem QOp.load_own_a (i : Nat) (l : List Value) {t : TypeId} {x : Operand} {b o : Nat} {cs : List Value} {T : TypeId} {fz : Nat × Nat} (hx : ev ρ x = some (.pointer (some ⟨b, o, none⟩)))
    (h : bl[i]? = some (b, .cells cs.toArray T fz)) {bytes : Nat} {z : List Value} (ht : TyI P t true l.length bytes z) (hv : (cs.drop o).take l.length = l) : QOp P ρ Fs bl sl (.load t x) ty (.agg l.toArray) := .of fun e he w hm => by
  have h2 := cell_own hm h
  have h3 : ∀ (j : Nat) (v : Value), l[j]? = some v → w.cell? ⟨b, o + j, none⟩ = some v := fun j v hj => by
    rw [h2, ← hj, ← hv]
    have : j < l.length := by rcases Nat.lt_or_ge j l.length with h | h; exact h; rw [List.getElem?_eq_none h] at hj; cases hj
    simp [List.getElem?_drop, this]
  refine run_v (s := Instr.loadAt t (e x)) ?_
  rw [he x _ hx]
  exact run_loadVar_a (run_isAgg ht.agg) (run_sizeOf ht.sz) h3

theorem QOp.load_rp {G : Hp} {cs : List Value} {t : TypeId} {x : Operand} {p v : Value} {sz bytes : Nat} {z : List Value} (hp : Rp G p cs) (hG : G ∈ Fs) (hx : ev ρ x = some p) (ht : TyI P t false sz bytes z) (hv : cs[0]? = some v) :
    QOp P ρ Fs bl sl (.load t x) ty v := .of fun e he w hm => by
  obtain ⟨b, o, rfl, hc⟩ := hp
  refine run_v (s := Instr.loadAt t (e x)) ?_
  rw [he x _ hx]
  exact run_loadVar_s (run_isAgg ht.agg) ((hm.fs G hG).cell (hc 0 v hv))

theorem QOp.load_rp_a (l : List Value) {G : Hp} {cs : List Value} {t : TypeId} {x : Operand} {p : Value} {bytes : Nat} {z : List Value} (hp : Rp G p cs) (hG : G ∈ Fs) (hx : ev ρ x = some p) (ht : TyI P t true l.length bytes z) (hv : cs.take l.length = l) :
    QOp P ρ Fs bl sl (.load t x) ty (.agg l.toArray) := .of fun e he w hm => by
  obtain ⟨b, o, rfl, hc⟩ := hp
  refine run_v (s := Instr.loadAt t (e x)) ?_
  rw [he x _ hx]
  refine run_loadVar_a (run_isAgg ht.agg) (run_sizeOf ht.sz) fun j v hj => (hm.fs G hG).cell (hc j v ?_)
  have hl : j < l.length := by rcases Nat.lt_or_ge j l.length with h | h; exact h; rw [List.getElem?_eq_none h] at hj; cases hj
  rw [← hv, List.getElem?_take_of_lt hl] at hj
  exact hj

theorem run_fieldAt {w : World} {s : TypeId} {n b o off m : Nat} {ft : TypeId} (hf : fldOf P s n = some (off, ft)) (hz : szOf P ft = some (m + 1)) :
    (Instr.fieldAt s (.pointer (some ⟨b, o, none⟩)) n).run P w = .ok (.pointer (some ⟨b, o + off, none⟩)) w := by
  unfold fldOf at hf
  split at hf
  · rename_i fs hu
    cases hn : fs[n]? with
    | none => simp [hn] at hf
    | some f =>
      simp only [hn, Option.map_some, Option.some.injEq, Prod.mk.injEq] at hf
      obtain ⟨rfl, rfl⟩ := hf
      unfold Instr.fieldAt
      rw [Sem.run_bind, run_underlying hu]
      simp only [Result.andThen_ok, hn]
      simp only [Instr.sureAddr, Sem.run_bind, Sem.run_pure, Result.andThen_ok, fieldPlace, run_sizeOf hz, addr_add]
      simp
  · cases hf

theorem QOp.fieldAddr (o' : Nat) {s : TypeId} {x : Operand} {n b o off m : Nat} {ft : TypeId} (hx : ev ρ x = some (.pointer (some ⟨b, o, none⟩))) (hf : fldOf P s n = some (off, ft)) (hz : szOf P ft = some (m + 1)) (ho : o + off = o') :
    QOp P ρ Fs bl sl (.fieldAddr s x n) ty (.pointer (some ⟨b, o', none⟩)) := .of fun e he w _ => by
  refine run_v (s := Instr.fieldAt s (e x) n) ?_
  rw [he x _ hx, ← ho]
  exact run_fieldAt hf hz

theorem QOp.fieldAddr_rp {G : Hp} {cs : List Value} {s : TypeId} {x : Operand} {p : Value} {n off m : Nat} {ft : TypeId} (hp : Rp G p cs) (hx : ev ρ x = some p) (hf : fldOf P s n = some (off, ft)) (hz : szOf P ft = some (m + 1)) :
    QOp P ρ Fs bl sl (.fieldAddr s x n) ty (ptrAdd p off) := .of fun e he w _ => by
  obtain ⟨b, o, rfl, _⟩ := hp
  refine run_v (s := Instr.fieldAt s (e x) n) ?_
  rw [he x _ hx]
  simp only [ptrAdd, addr_add]
  exact run_fieldAt hf hz

theorem slOf_spec {t el : TypeId} (h : slOf P t = some el) : P.underlying t = some (.slice el) := by
  unfold slOf at h
  split at h
  · rename_i e he; cases h; exact he
  · cases h

theorem run_indexAt {w : World} {t el : TypeId} {a : Addr} {len cap sz : Nat} {k : IntKind} {n : Int} (ht : slOf P t = some el) (hz : szOf P el = some sz) (h0 : 0 ≤ n) (h1 : n < (len : Int)) :
    (Instr.indexAt t (.slice (some a) len cap) (.int k n)).run P w = .ok (.pointer (some (a.add (n.toNat * sz)))) w := by
  have hu := slOf_spec ht
  unfold Instr.indexAt
  simp only [asIntOf, Sem.run_bind, Sem.run_pure, Result.andThen_ok, run_underlying hu]
  simp [h0, h1, run_sizeOf hz]

/-- The address of an element of a slice that reads. -/
theorem QOp.indexAddr {G : Hp} {sz : Nat} {v : Value} {xs : List (List Value)} {t el : TypeId} {x i : Operand} {k : IntKind} {n : Int} (hs : Sl G sz v xs) (hx : ev ρ x = some v) (hi : ev ρ i = some (.int k n)) (ht : slOf P t = some el) (hz : szOf P el = some sz)
    (h0 : 0 ≤ n) (h1 : n < (xs.length : Int)) : QOp P ρ Fs bl sl (.indexAddr t x i) ty (elemPtr v n.toNat sz) := .of fun e he w _ => by
  obtain ⟨a, cap, rfl, _, _, hc⟩ := hs
  have hne : xs ≠ [] := by rintro rfl; simp at h1; omega
  obtain ⟨b, o, rfl, _⟩ := hc hne
  refine run_v (s := Instr.indexAt t (e x) (e i)) ?_
  rw [he x _ hx, he i _ hi]
  exact run_indexAt ht hz h0 h1

theorem run_builtin {w : World} {e : Operand → Value} {b : Builtin} {args : Array Operand} {ts : Array TypeId} {dst : Option Tmp} {r : Result Next}
    (h : (builtin b ts ty (args.map fun | .const _ => true | _ => false) (args.map e)).run P w = r) : (execOp e ⟨dst, .call ⟨.builtin b, args, ts⟩, ty, "", #[], none⟩).run P w = r := by
  simp only [execOp, resolve, Sem.run_bind, Sem.run_pure, Result.andThen_ok, invoke]
  exact h

theorem QOp.len_s {t : TypeId} {x : Operand} {s : ByteArray} (hx : ev ρ x = some (.string s)) (ht : P.underlying t = some .string) : QOp P ρ Fs bl sl (.call ⟨.builtin .len, #[x], #[t]⟩) ty (.int .i64 s.size) := .of fun e he w _ => by
  refine run_builtin (run_v ?_)
  simp [Builtin.len_, he x _ hx, run_underlying ht, goInt]
theorem QOp.len_sl {t el : TypeId} {x : Operand} {v : Value} {n : Nat} (hx : ev ρ x = some v) (hl : sLen v = some n) (ht : slOf P t = some el) : QOp P ρ Fs bl sl (.call ⟨.builtin .len, #[x], #[t]⟩) ty (.int .i64 n) := .of fun e he w _ => by
  refine run_builtin (run_v ?_)
  have hu := slOf_spec ht
  cases v <;> simp [sLen] at hl
  simp [Builtin.len_, he x _ hx, run_underlying hu, goInt, hl]
theorem QOp.min2 {ts : Array TypeId} {x y : Operand} {k : IntKind} {m n : Int} (hx : ev ρ x = some (.int k m)) (hy : ev ρ y = some (.int k n)) : QOp P ρ Fs bl sl (.call ⟨.builtin .min, #[x, y], ts⟩) ty (.int k (min m n)) := .of fun e he w _ => by
  refine run_builtin (run_v ?_)
  simp [Builtin.min_, he x _ hx, he y _ hy, Builtin.min2, Int.min_def]
  split <;> split <;> omega
theorem QOp.max2 {ts : Array TypeId} {x y : Operand} {k : IntKind} {m n : Int} (hx : ev ρ x = some (.int k m)) (hy : ev ρ y = some (.int k n)) : QOp P ρ Fs bl sl (.call ⟨.builtin .max, #[x, y], ts⟩) ty (.int k (max m n)) := .of fun e he w _ => by
  refine run_builtin (run_v ?_)
  simp [Builtin.max_, he x _ hx, he y _ hy, Builtin.max2, Int.max_def]
  split <;> split <;> omega

/-- A part of a string. -/
theorem run_sliceBounds {w : World} {isSlice : Bool} {len cap : Nat} {lo hi : Option Value} {l h : Nat} (hl : lo = none ∧ l = 0 ∨ ∃ k n, lo = some (.int k n) ∧ 0 ≤ n ∧ n.toNat = l) (hh : hi = none ∧ h = len ∨ ∃ k n, hi = some (.int k n) ∧ 0 ≤ n ∧ n.toNat = h)
    (h1 : l ≤ h) (h2 : h ≤ cap) : (Instr.sliceBounds isSlice len cap lo hi none).run P w = .ok (l, h, cap) w := by
  unfold Instr.sliceBounds
  rcases hl with ⟨rfl, rfl⟩ | ⟨k, n, rfl, hn, rfl⟩ <;> rcases hh with ⟨rfl, rfl⟩ | ⟨k', n', rfl, hn', rfl⟩
  · simp
  · have : n' ≤ (cap : Int) := by omega
    simp [Instr.sliceBound, asIntOf, hn', this]
  · have : n ≤ (h : Int) := by omega
    simp [Instr.sliceBound, asIntOf, hn, this]
  · have : n' ≤ (cap : Int) := by omega
    have h3 : n ≤ ((n'.toNat : Nat) : Int) := by omega
    simp [Instr.sliceBound, asIntOf, hn, hn', this]
    omega
end
end Go.Proofs.Ytbhmhindommaeaa
