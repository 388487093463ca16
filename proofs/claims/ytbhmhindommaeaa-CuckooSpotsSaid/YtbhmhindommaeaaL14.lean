/-
  Slices that are lent: a view of a block; calls without a place; slices of one's own that a call reads.
-/
import Derived.Test.YtbhmhindommaeaaL13
namespace Go.Proofs.Ytbhmhindommaeaa
open Go.RowKit

/-- A part of a block. -/
def viewG (b : Option Nat) (T : TypeId) (pre cs post : List Value) : Guest where
  blks := b.toList
  nodup := by cases b <;> simp
  holds w := ∀ g, b = some g → w.heap[g]? = some (.cells (pre ++ cs ++ post).toArray T (0, 0))
  lt w h x hx := by
    cases b with
    | none => simp at hx
    | some g => simp at hx; subst hx; exact own_lt (h _ rfl)
  same w w' h e g hg := by subst hg; rw [e g (by simp)]; exact h g rfl

/-- The slice a, n, k shows the cells cs behind pre in block b. -/
def VA (a : Option Addr) (b : Option Nat) (n k : Nat) (pre cs : List Value) : Prop := n ≤ k ∧ (cs ≠ [] → ∃ g, b = some g ∧ a = some ⟨g, pre.length, none⟩)
/-- A whole slice, as a view. -/
def VB (a : Option Addr) (b : Option Nat) (n k sz : Nat) (post : List Value) : Prop :=
  (a = none ∧ b = none ∧ n = 0 ∧ k = 0) ∨ ∃ g, a = some ⟨g, 0, none⟩ ∧ b = some g ∧ n ≤ k ∧ k ≤ maxLen ∧ n * sz + post.length = k * sz

theorem flat_len {sz : Nat} : ∀ {xs : List (List Value)}, (∀ x ∈ xs, x.length = sz) → xs.flatten.length = xs.length * sz
  | [], _ => by simp
  | x :: xs, h => by simp only [List.flatten_cons, List.length_append, List.length_cons, Nat.add_mul]; rw [h x List.mem_cons_self, flat_len fun y hy => h y (List.mem_cons_of_mem _ hy)]; omega

theorem OL.clen {α : Type} {Q : Rep α} {G : Hp} {cs : List Value} {l : List α} (h : OL Q G cs l) : cs.length = l.length * Q.sz := by
  obtain ⟨_, xs, rfl, h3, h4⟩ := h
  rw [flat_len h3, h4.1]

theorem VA.len {a : Option Addr} {b : Option Nat} {n n' k : Nat} {pre cs cs' : List Value} (h : VA a b n k pre cs) (hn : n' = n) (hc : cs'.length = cs.length) : VA a b n' k pre cs' :=
  ⟨hn ▸ h.1, fun hne => h.2 fun e => hne (by rw [e] at hc; exact List.eq_nil_of_length_eq_zero hc)⟩

theorem VA.call {α : Type} {Q : Rep α} {G G' : Hp} {a : Option Addr} {b : Option Nat} {k : Nat} {pre cs cs' : List Value} {l l' : List α} (h : VA a b l.length k pre cs) (ho : OL Q G cs l) (ho' : OL Q G' cs' l') (hl : l'.length = l.length) : VA a b l'.length k pre cs' :=
  h.len hl (by rw [ho.clen, ho'.clen, hl])

theorem view_cells {w : World} {a : Option Addr} {b : Option Nat} {n k : Nat} {T : TypeId} {pre cs post : List Value} (h : (viewG b T pre cs post).holds w) (va : VA a b n k pre cs) (hn : 0 < cs.length) :
    ∃ g, a = some ⟨g, pre.length, none⟩ ∧ b = some g ∧ w.heap[g]? = some (.cells (pre ++ cs ++ post).toArray T (0, 0)) ∧ ∀ (q : Nat) (v : Value), cs[q]? = some v → w.cell? ⟨g, pre.length + q, none⟩ = some v := by
  obtain ⟨g, hb, ha⟩ := va.2 (by rintro rfl; simp at hn)
  have hw := h g hb
  refine ⟨g, ha, hb, hw, fun q v hq => ?_⟩
  rw [cell_of_row w g _ _ T (0, 0) hw]
  have hl : q < cs.length := (List.getElem?_eq_some_iff.1 hq).1
  simp only [List.getElem?_toArray]
  rw [List.append_assoc, List.getElem?_append_right (by omega), Nat.add_sub_cancel_left, List.getElem?_append_left hl]
  exact hq

/-- A heap in which a resource of one's own reads. -/
def Rd (s : OwnS) (G : Hp) : Prop := ∃ w, s.holds w ∧ ∀ b ∈ s.blocks, G b = w.heap[b]?

/-- What reads nothing but its own cells. -/
def Rep.flat {α : Type} (Q : Rep α) : Prop := ∀ (G G' : Hp) (c : List Value) (x : α), Q.r G c x → Q.r G' c x
theorem Rep.flat_int (k : IntKind) : (Rep.int k).flat := fun _ _ _ _ h => h
theorem Rep.flat_bool : Rep.bool.flat := fun _ _ _ _ h => h
theorem Rep.flat_str : Rep.str.flat := fun _ _ _ _ h => h
theorem Rep.flat_pair {α β : Type} {A : Rep α} {B : Rep β} (ha : A.flat) (hb : B.flat) : (Rep.pair A B).flat := fun G G' c x ⟨c1, c2, h, h1, h2⟩ => ⟨c1, c2, h, ha G G' _ _ h1, hb G G' _ _ h2⟩
theorem OL.flat {α : Type} {Q : Rep α} (hf : Q.flat) {G G' : Hp} {cs : List Value} {l : List α} (h : OL Q G' cs l) : OL Q G cs l := by
  obtain ⟨hb, xs, h1, h3, h4, h5⟩ := h
  exact ⟨hb, xs, h1, h3, h4, fun i c x hc hx => hf _ _ _ _ (h5 i c x hc hx)⟩

section
variable {P : Program} {c : Cx} {R : Value → World → Prop} {nt : Nat} {w0 : World} {S0 : List Nat} {df : List Deferred} {ρ ρ' : Env} {Fs Fs' Fin B : List Hp} {bl bl' : Blks} {sl sl' : List OwnS}
  {K K' : Act → World → Prop} {k : List Item} {ty : TypeId} {α : Type} {G : Hp}

theorem QOp.idxV (q : Nat) {Q : Rep α} {a : Option Addr} {b : Option Nat} {m T sz : Nat} {l : List α} {pre cs post : List Value} {i : Int} {u : α} {kk : IntKind} {t el : TypeId} {x j : Operand} (hs : sl[q]? = some (.g (viewG b T pre cs post))) (va : VA a b l.length m pre cs) (ho : OL Q G cs l)
    (hx : ev ρ x = some (.slice a l.length m)) (hj : ev ρ j = some (.int kk i)) (he : lidx l i = some u) (ht : slOf P t = some el) (hz : szOf P el = some sz) (hn : sz = Q.sz) (h0 : Nat.blt 0 sz = true) : QOp P ρ Fs bl sl (.indexAddr t x j) ty (elemPtr (.slice a l.length m) i.toNat sz) := .of fun e he' w hm => by
  obtain ⟨h3, h4, _⟩ := lidx_some he
  have h0' : 0 < sz := by simpa [Nat.blt_eq] using h0
  have hpos : 0 < cs.length := by rw [ho.clen, ← hn]; exact Nat.mul_pos (by omega) h0'
  obtain ⟨g, rfl, _⟩ := view_cells (hm.slh _ (List.mem_of_getElem? hs)) va hpos
  refine run_v (s := Instr.indexAt t (e x) (e j)) ?_
  rw [he' x _ hx, he' j _ hj]
  exact run_indexAt ht hz h3 h4

theorem elem_cellsV {w : World} {Q : Rep α} {a : Option Addr} {b : Option Nat} {m T sz n : Nat} {l : List α} {pre cs post d : List Value} (h : (viewG b T pre cs post).holds w) (va : VA a b l.length m pre cs) (ho : OL Q G cs l) (hq : sz = Q.sz) (h0 : Nat.blt 0 sz = true) (hn : n < l.length) (he : Elem sz cs n d) :
    ∃ g, a = some ⟨g, pre.length, none⟩ ∧ b = some g ∧ w.heap[g]? = some (.cells (pre ++ cs ++ post).toArray T (0, 0)) ∧ ∀ (q : Nat) (v : Value), d[q]? = some v → w.cell? ⟨g, pre.length + (n * sz + q), none⟩ = some v := by
  have h0' : 0 < sz := by simpa [Nat.blt_eq] using h0
  have hpos : 0 < cs.length := by rw [ho.clen, ← hq]; exact Nat.mul_pos (by omega) h0'
  obtain ⟨g, ha, hb, hw, hc⟩ := view_cells h va hpos
  exact ⟨g, ha, hb, hw, fun q v hv => hc _ _ (he.2 q v hv)⟩

theorem QOp.loadV (q off : Nat) {Q : Rep α} {a : Option Addr} {b : Option Nat} {m T sz s bytes : Nat} {l : List α} {pre cs post d z : List Value} {i : Int} {u : α} {t : TypeId} {x : Operand} {p v : Value} (hs : sl[q]? = some (.g (viewG b T pre cs post))) (va : VA a b l.length m pre cs) (ho : OL Q G cs l) (hn : sz = Q.sz) (h0 : Nat.blt 0 sz = true)
    (he : lidx l i = some u) (hd : Elem sz cs i.toNat d) (hx : ev ρ x = some p) (hp : PtrO p a l.length m i.toNat sz off) (ht : TyI P t false s bytes z) (hv : d[off]? = some v) : QOp P ρ Fs bl sl (.load t x) ty v := .of fun e he' w hm => by
  obtain ⟨h3, h4, _⟩ := lidx_some he
  obtain ⟨g, rfl, _, _, hc⟩ := elem_cellsV (hm.slh _ (List.mem_of_getElem? hs)) va ho hn h0 (by omega) hd
  refine run_v (s := Instr.loadAt t (e x)) ?_
  rw [he' x _ hx]
  rcases hp with ⟨rfl, rfl⟩ | rfl
  · simp only [elemPtr, addr_add]
    exact run_loadVar_s (run_isAgg ht.agg) (by simpa using hc 0 v hv)
  · simp only [elemPtr, ptrAdd, addr_add]
    exact run_loadVar_s (run_isAgg ht.agg) (by rw [Nat.add_assoc]; exact hc off v hv)
theorem QOp.loadV_a (q off : Nat) (r : List Value) {Q : Rep α} {a : Option Addr} {b : Option Nat} {m T sz bytes : Nat} {l : List α} {pre cs post d z : List Value} {i : Int} {u : α} {t : TypeId} {x : Operand} {p : Value} (hs : sl[q]? = some (.g (viewG b T pre cs post))) (va : VA a b l.length m pre cs) (ho : OL Q G cs l) (hn : sz = Q.sz) (h0 : Nat.blt 0 sz = true)
    (he : lidx l i = some u) (hd : Elem sz cs i.toNat d) (hx : ev ρ x = some p) (hp : PtrO p a l.length m i.toNat sz off) (ht : TyI P t true r.length bytes z) (hv : (d.drop off).take r.length = r) : QOp P ρ Fs bl sl (.load t x) ty (.agg r.toArray) := .of fun e he' w hm => by
  obtain ⟨h3, h4, _⟩ := lidx_some he
  obtain ⟨g, rfl, _, _, hc⟩ := elem_cellsV (hm.slh _ (List.mem_of_getElem? hs)) va ho hn h0 (by omega) hd
  refine run_v (s := Instr.loadAt t (e x)) ?_
  rw [he' x _ hx]
  have key : ∀ (j : Nat) (v : Value), r[j]? = some v → d[off + j]? = some v := fun j v hj => by
    have hl : j < r.length := by rcases Nat.lt_or_ge j r.length with h | h; exact h; rw [List.getElem?_eq_none h] at hj; cases hj
    rw [← hv, List.getElem?_take_of_lt hl, List.getElem?_drop] at hj
    exact hj
  rcases hp with ⟨rfl, rfl⟩ | rfl
  · simp only [elemPtr, addr_add]
    exact run_loadVar_a (run_isAgg ht.agg) (run_sizeOf ht.sz) fun j v hj => by rw [Nat.add_assoc]; exact hc j v (by simpa using key j v hj)
  · simp only [elemPtr, ptrAdd, addr_add]
    exact run_loadVar_a (run_isAgg ht.agg) (run_sizeOf ht.sz) fun j v hj => by rw [Nat.add_assoc, Nat.add_assoc]; exact hc _ v (key j v hj)

theorem QOp.fieldV (q o : Nat) {Q : Rep α} {a : Option Addr} {b : Option Nat} {m T sz : Nat} {l : List α} {pre cs post : List Value} {i : Int} {u : α} {s : TypeId} {x : Operand} {p : Value} {n off mm : Nat} {ft : TypeId} (hs : sl[q]? = some (.g (viewG b T pre cs post))) (va : VA a b l.length m pre cs) (ho : OL Q G cs l) (hn : sz = Q.sz) (h0 : Nat.blt 0 sz = true)
    (he : lidx l i = some u) (hx : ev ρ x = some p) (hp : PtrO p a l.length m i.toNat sz o) (hf : fldOf P s n = some (off, ft)) (hz : szOf P ft = some (mm + 1)) : QOp P ρ Fs bl sl (.fieldAddr s x n) ty (ptrAdd (elemPtr (.slice a l.length m) i.toNat sz) (o + off)) := .of fun e he' w hm => by
  obtain ⟨h3, h4, _⟩ := lidx_some he
  have h0' : 0 < sz := by simpa [Nat.blt_eq] using h0
  have hpos : 0 < cs.length := by rw [ho.clen, ← hn]; exact Nat.mul_pos (by omega) h0'
  obtain ⟨g, rfl, _⟩ := view_cells (hm.slh _ (List.mem_of_getElem? hs)) va hpos
  refine run_v (s := Instr.fieldAt s (e x) n) ?_
  rw [he' x _ hx]
  rcases hp with ⟨rfl, rfl⟩ | rfl
  · simp only [elemPtr, ptrAdd, addr_add, Nat.zero_add]
    exact run_fieldAt hf hz
  · simp only [elemPtr, ptrAdd, addr_add]
    rw [← Nat.add_assoc]
    exact run_fieldAt hf hz

/-- Cells of a list of rows, one row replaced. -/
theorem OL.upd {Q : Rep α} {sz off : Nat} {cs dc cv : List Value} {l l' : List α} {i : Int} {y : α} (ho : OL Q G cs l) (hn : sz = Q.sz) (hl : lupd l i y = some l') (hd : Elem sz cs i.toNat dc) (hfit : off + cv.length ≤ sz) (hy : Q.r G (dc.take off ++ cv ++ dc.drop (off + cv.length)) y) :
    OL Q G (cs.take (i.toNat * sz + off) ++ cv ++ cs.drop (i.toNat * sz + off + cv.length)) l' ∧ l'.length = l.length ∧ i.toNat < l.length ∧ (cs.take (i.toNat * sz + off) ++ cv ++ cs.drop (i.toNat * sz + off + cv.length)).length = cs.length := by
  subst hn
  obtain ⟨hi0, hil, rfl⟩ := lupd_some hl
  have hcl := ho.clen
  obtain ⟨hb1, xs, rfl, h3, h4⟩ := ho
  have hxs : ∃ ys : List { c : List Value // c.length = Q.sz }, xs = ys.map (·.1) := ⟨xs.attach.map fun c => ⟨c.1, h3 _ c.2⟩, by simp⟩
  obtain ⟨ys, rfl⟩ := hxs
  have e1 : ys.length = l.length := by have := h4.1; simpa using this
  have hj : i.toNat < ys.length := by omega
  have hdc : (ys[i.toNat]).1 = dc := by
    apply List.ext_getElem?
    intro j
    rcases Nat.lt_or_ge j dc.length with h | h
    · have hjl : j < (ys[i.toNat]).1.length := by rw [(ys[i.toNat]).2, ← hd.1]; exact h
      have g1 := get_flatten (ys.map (·.1)) i.toNat (ys[i.toNat]).1 j _ h3 (by rw [List.getElem?_map, List.getElem?_eq_getElem hj]; rfl) (List.getElem?_eq_getElem hjl)
      have g2 := hd.2 j _ (List.getElem?_eq_getElem h)
      rw [g1] at g2
      rw [List.getElem?_eq_getElem hjl, g2, List.getElem?_eq_getElem h]
    · rw [List.getElem?_eq_none h, List.getElem?_eq_none (by rw [(ys[i.toNat]).2, ← hd.1]; exact h)]
  have hlen : (dc.take off ++ cv ++ dc.drop (off + cv.length)).length = Q.sz := by
    simp only [List.length_append, List.length_take, List.length_drop, hd.1]; omega
  have hgd : ys.getD i.toNat ys[i.toNat] = ys[i.toNat] := by rw [List.getD_eq_getElem?_getD, List.getElem?_eq_getElem hj]; rfl
  have hset := flat_set (f := fun c : { c : List Value // c.length = Q.sz } => c.1) (sz := Q.sz) (fun c => c.2) (ys[i.toNat]) (off := off) (c := cv) hfit (y := ⟨_, hlen⟩) ys i.toNat hj (by rw [hgd, hdc])
  have hle : (i.toNat + 1) * Q.sz ≤ l.length * Q.sz := Nat.mul_le_mul_right _ (by omega)
  rw [Nat.add_mul] at hle
  refine ⟨?_, List.length_set, by omega, by simp only [List.length_append, List.length_take, List.length_drop]; omega⟩
  rw [hset]
  refine ⟨by simp; omega, _, rfl, fun c hc => by obtain ⟨c', _, rfl⟩ := List.mem_map.1 hc; exact c'.2, by simp [e1], fun j c x hc hx => ?_⟩
  simp only [List.getElem?_map, List.getElem?_set] at hc hx
  by_cases hij : i.toNat = j
  · subst hij
    rw [if_pos rfl] at hc hx
    simp [hj, show i.toNat < l.length by omega] at hc hx
    subst hc hx
    simpa only [List.append_assoc] using hy
  · rw [if_neg hij] at hc hx
    exact h4.2 j c x (by rw [List.getElem?_map]; exact hc) hx

/-- A store into an element of a view. -/
theorem Cov.storeV (q : Nat) (off : Nat) {Q : Rep α} {a : Option Addr} {b : Option Nat} {m T sz : Nat} {l l' : List α} {pre cs post dc : List Value} {i : Int} {y : α} {t : TypeId} {x u : Operand} {v p : Value} {agg : Bool} {bytes : Nat} {z : List Value} (hs : Stp P K' ⟨none, .store t x u, ty, none⟩ K)
    (hi : sl[q]? = some (.g (viewG b T pre cs post))) (va : VA a b l.length m pre cs) (hn : sz = Q.sz) (h0 : Nat.blt 0 sz = true) (ho : OL Q G cs l) (hl : lupd l i y = some l') (hx : ev ρ x = some p) (hp : PtrO p a l.length m i.toNat sz off) (hu : ev ρ u = some v) (ht : TyI P t agg (cellsL v).length bytes z) (hd : Elem sz cs i.toNat dc)
    (hy : Q.r G (dc.take off ++ cellsL v ++ dc.drop (off + (cellsL v).length)) y) (h1 : (cellsL v).all (·.oneCell') = true) (hfit : Nat.ble (off + (cellsL v).length) sz = true)
    (hk : ∀ cs', l'.length = l.length → OL Q G cs' l' → VA a b l'.length m pre cs' → Cov nt w0 S0 df ρ Fs bl (sl.set q (.g (viewG b T pre cs' post))) K) : Cov nt w0 S0 df ρ Fs bl sl K' := fun aa w hfi hinv => by
  refine hs aa w ?_
  have hfit' : off + (cellsL v).length ≤ sz := by simpa [Nat.ble_eq] using hfit
  obtain ⟨ho', hll, hil, hcl⟩ := ho.upd hn hl hd hfit' hy
  obtain ⟨g, rfl, rfl, hw, _⟩ := elem_cellsV (hinv.mem.slh _ (List.mem_of_getElem? hi)) va ho hn h0 hil hd
  have hle : i.toNat * sz + off + (cellsL v).length ≤ cs.length := by
    rw [ho.clen, ← hn]
    have : (i.toNat + 1) * sz ≤ l.length * sz := Nat.mul_le_mul_right _ hil
    rw [Nat.add_mul] at this
    omega
  obtain ⟨w', hr, kw, hb'⟩ := storeVar_run (P := P) (cs := pre ++ cs ++ post) (o := pre.length + (i.toNat * sz + off)) (cs' := pre ++ (cs.take (i.toNat * sz + off) ++ cellsL v ++ cs.drop (i.toNat * sz + off + (cellsL v).length)) ++ post) ht hw h1 (by simp only [List.length_append]; omega) (by
    have e1 : (pre ++ cs ++ post).take (pre.length + (i.toNat * sz + off)) = pre ++ cs.take (i.toNat * sz + off) := by
      rw [List.append_assoc, List.take_append, Nat.add_sub_cancel_left, List.take_of_length_le (l := pre) (by omega), List.take_append_of_le_length (by omega)]
    have e2 : (pre ++ cs ++ post).drop (pre.length + (i.toNat * sz + off) + (cellsL v).length) = cs.drop (i.toNat * sz + off + (cellsL v).length) ++ post := by
      rw [List.append_assoc, Nat.add_assoc, List.drop_append, Nat.add_sub_cancel_left, List.drop_of_length_le (l := pre) (by omega), List.nil_append, List.drop_append_of_le_length (by omega)]
    rw [e1, e2]
    simp only [List.append_assoc])
  have hrun : (execOp aa.eval (⟨none, .store t x u, ty, none⟩ : OpX).oper).run P w = .ok .skip w' := by
    refine run_u (s := Instr.storeAt t (aa.eval x) (aa.eval u)) ?_
    rw [ev_sound hfi hx, ev_sound hfi hu]
    rcases hp with ⟨rfl, rfl⟩ | rfl
    · simp only [elemPtr, addr_add]
      exact hr
    · simp only [elemPtr, ptrAdd, addr_add, Nat.add_assoc] at hr ⊢
      exact hr
  unfold Oper.wp
  rw [hrun]
  refine hk _ hll ho' (va.len hll hcl) _ _ (hfi.put_none _) (hinv.set_s q hi (s' := .g (viewG (some g) T pre _ post)) (by simpa [OwnS.blocks, viewG] using kw) ?_ (by simp [OwnS.blocks, viewG]) (fun b hb => .inl (by simpa [OwnS.blocks, viewG] using hb)))
  intro g' hg'
  cases hg'
  exact hb'

theorem Inv.set_same {w : World} (h : Inv w0 S0 Fs bl sl w) (i : Nat) {s s' : OwnS} (hi : sl[i]? = some s) (hs : s'.holds w) (hnd : s'.blocks.Nodup) (hb : ∀ b ∈ s'.blocks, b ∈ s.blocks) : Inv w0 S0 Fs bl (sl.set i s') w :=
  h.set_s i hi (Keep.refl w _) hs hnd fun b h => .inl (hb b h)

/-- A slice of one's own as a view, and back. -/
theorem Cov.toV (q : Nat) {a : Option Addr} {n m T sz : Nat} {cs : List Value} (hi : sl[q]? = some (.s (.slice a n m) T sz n cs))
    (hk : ∀ b post, VA a b n m [] cs → VB a b n m sz post → Cov nt w0 S0 df ρ Fs bl (sl.set q (.g (viewG b T [] cs post))) K) : Cov nt w0 S0 df ρ Fs bl sl K := fun aa w hfi hinv => by
  have hown : w.ownsRow 0 T sz (.slice a n m) n cs := hinv.mem.slh _ (List.mem_of_getElem? hi)
  rcases hown.2 with ⟨hv, h0⟩ | ⟨g, cap, cur, hv, _, hg, hnc, hm2, hcs, htk⟩
  · cases hv
    have hc0 : cs = [] := List.eq_nil_of_length_eq_zero (by rw [hown.1]; simp)
    subst hc0
    exact hk none [] ⟨Nat.le_refl _, fun h => absurd rfl h⟩ (.inl ⟨rfl, rfl, rfl, rfl⟩) _ _ hfi (hinv.set_same q hi (s' := .g (viewG none T [] [] [])) (fun g hg => by cases hg) (by simp [OwnS.blocks, viewG]) (by simp [OwnS.blocks, viewG]))
  · cases hv
    have hcur : cur = ([] ++ cs ++ cur.toList.drop (n * sz)).toArray := by rw [← htk]; simp
    refine hk (some g) (cur.toList.drop (n * sz)) ⟨hnc, fun _ => ⟨g, rfl, rfl⟩⟩ (.inr ⟨g, rfl, rfl, hnc, hm2, ?_⟩) _ _ hfi (hinv.set_same q hi (s' := .g (viewG (some g) T [] cs (cur.toList.drop (n * sz)))) (fun g' hg' => ?_) (by simp [OwnS.blocks, viewG]) (by simp [OwnS.blocks, viewG, Value.ownBlock]))
    · have : n * sz ≤ m * sz := Nat.mul_le_mul_right _ hnc
      simp only [List.length_drop, Array.length_toList, hcs]; omega
    · cases hg'; rw [hg]; exact congrArg (fun c => some (Obj.cells c T (0, 0))) hcur
theorem Cov.ofV (q : Nat) {Q : Rep α} {a : Option Addr} {b : Option Nat} {n m T sz : Nat} {cs post : List Value} {l : List α} (hi : sl[q]? = some (.g (viewG b T [] cs post))) (vb : VB a b n m sz post) (hl : l.length = n) (ho : OL Q G cs l) (hn : sz = Q.sz)
    (hk : Cov nt w0 S0 df ρ Fs bl (sl.set q (.s (.slice a l.length m) T sz l.length cs)) K) : Cov nt w0 S0 df ρ Fs bl sl K := fun aa w hfi hinv => by
  subst hl
  have hh : (viewG b T [] cs post).holds w := hinv.mem.slh _ (List.mem_of_getElem? hi)
  have hcl := ho.clen
  rcases vb with ⟨rfl, rfl, h0, rfl⟩ | ⟨g, rfl, rfl, h1, h2, h3⟩
  · have hc0 : cs = [] := List.eq_nil_of_length_eq_zero (by rw [hcl, h0]; simp)
    refine hk _ _ hfi (hinv.set_same q hi (s' := .s (.slice none l.length 0) T sz l.length cs) ?_ (by simp [OwnS.blocks, Value.ownBlock]) (by simp [OwnS.blocks, Value.ownBlock]))
    rw [hc0, h0]
    exact World.ownsRow_nil w 0 T sz
  · refine hk _ _ hfi (hinv.set_same q hi (s' := .s (.slice (some ⟨g, 0, none⟩) l.length m) T sz l.length cs) ?_ (by simp [OwnS.blocks, Value.ownBlock]) (by simp [OwnS.blocks, Value.ownBlock, viewG]))
    refine ⟨by rw [hcl, hn], .inr ⟨g, m, _, rfl, Nat.zero_le _, hh g rfl, h1, h2, ?_, ?_⟩⟩
    · simp only [List.nil_append, List.size_toArray, List.length_append, hcl, ← hn]; exact h3
    · simp only [List.nil_append]
      exact List.take_left' (by rw [hcl, hn])
/-- A view, cut otherwise. -/
theorem Cov.reV (q : Nat) {b : Option Nat} {T : TypeId} {pre cs post : List Value} (pre' cs' post' : List Value) (hi : sl[q]? = some (.g (viewG b T pre cs post))) (he : pre ++ cs ++ post = pre' ++ cs' ++ post')
    (hk : Cov nt w0 S0 df ρ Fs bl (sl.set q (.g (viewG b T pre' cs' post'))) K) : Cov nt w0 S0 df ρ Fs bl sl K := fun aa w hfi hinv => by
  have hh : (viewG b T pre cs post).holds w := hinv.mem.slh _ (List.mem_of_getElem? hi)
  refine hk _ _ hfi (hinv.set_same q hi (s' := .g (viewG b T pre' cs' post')) (fun g hg => ?_) (viewG b T pre' cs' post').nodup (fun b h => h))
  rw [← he]; exact hh g hg

/-- Calls without a place. -/
theorem Cov.callg0 {b1 b2 : Blks} {s1 s2 : List OwnS} (vs cap : List Value) {f : FuncId} {fop : Operand} {args : Array Operand} {ts : Array TypeId} {Post : Value → Hp → Blks → List OwnS → Prop} (hs : Stp P K' ⟨none, .call ⟨.value fop, args, ts⟩, ty, none⟩ K)
    (hf : ev ρ fop = some (.func (.func f) #[] cap.toArray)) (ha : args.toList.map (ev ρ) = vs.map some) (hcall : ∀ args w, (callFunc f args).run P w = .ok (.enter f args) w) (hbl : bl = b1 ++ b2) (hsl : sl = s1 ++ s2) (hr : RetG P f (vs ++ cap).toArray Fs b1 s1 Post)
    (hk : ∀ v Fr bo so, Fresh w0 Fr → Post v Fr bo so → Cov nt w0 S0 df ρ (Fr :: Fs) (bo ++ b2) (so ++ s2) K) : Cov nt w0 S0 df ρ Fs bl sl K' := fun a w hfi hi => by
  subst hbl hsl
  refine hs a w ?_
  unfold Oper.wp
  have := run_call (P := P) (ty := ty) (ts := ts) (dst := none) (w := w) hf ha (fun x u hx => ev_sound hfi hx) hcall
  rw [show (⟨none, .call ⟨.value fop, args, ts⟩, ty, none⟩ : OpX).oper = ⟨none, .call ⟨.value fop, args, ts⟩, ty, "", #[], none⟩ from rfl, this]
  refine Calls.mono (hr.use hi) fun e w' ⟨v, he, Fr, bo, so, h1, h2, h3⟩ => ?_
  subst he
  exact hk v Fr bo so (fun b o hb => Nat.le_trans hi.keep.size (h1 b o hb)) h3 _ _ (hfi.put_none v) (hi.calledG h1 h2)
theorem Cov.callS0 {b1 b2 : Blks} {s1 s2 : List OwnS} (vs cap : List Value) {f : FuncId} {fop : Operand} {args : Array Operand} {ts : Array TypeId} {Q : Value → Blks → List OwnS → Prop} (hs : Stp P K' ⟨none, .call ⟨.value fop, args, ts⟩, ty, none⟩ K)
    (hf : ev ρ fop = some (.func (.func f) #[] cap.toArray)) (ha : args.toList.map (ev ρ) = vs.map some) (hcall : ∀ args w, (callFunc f args).run P w = .ok (.enter f args) w) (hbl : bl = b1 ++ b2) (hsl : sl = s1 ++ s2) (hr : RetS P f (vs ++ cap).toArray Fs b1 s1 Q)
    (hk : ∀ v bo so, Q v bo so → Cov nt w0 S0 df ρ Fs (bo ++ b2) (so ++ s2) K) : Cov nt w0 S0 df ρ Fs bl sl K' :=
  Cov.callg0 vs cap hs hf ha hcall hbl hsl hr fun v Fr bo so _ h => Cov.less Fs (fun _ hF => List.mem_cons_of_mem _ hF) (hk v bo so h)
theorem Cov.callW0 {b1 b2 : Blks} {s1 s2 : List OwnS} (vs cap : List Value) {f : FuncId} {fop : Operand} {args : Array Operand} {ts : Array TypeId} {Q : Value → Blks → List OwnS → Hp → Prop} (hs : Stp P K' ⟨none, .call ⟨.value fop, args, ts⟩, ty, none⟩ K)
    (hf : ev ρ fop = some (.func (.func f) #[] cap.toArray)) (ha : args.toList.map (ev ρ) = vs.map some) (hcall : ∀ args w, (callFunc f args).run P w = .ok (.enter f args) w) (hbl : bl = b1 ++ b2) (hsl : sl = s1 ++ s2) (hr : RetW P f (vs ++ cap).toArray (G :: B) b1 s1 Q) (hB : Bd w0 S0 B G)
    (hk : ∀ v bo so G', HpLe G G' → Bd w0 S0 B G' → Q v bo so G' → Cov nt w0 S0 df ρ (G' :: B) (bo ++ b2) (so ++ s2) K) : Cov nt w0 S0 df ρ (G :: B) bl sl K' :=
  Cov.callg0 vs cap hs hf ha hcall hbl hsl hr fun v Fr bo so hfr h =>
    Cov.union (Fin := B) (bd_cons (Bd.fresh hfr) (bd_cons hB bd_fin)) fun G' he hb' =>
      Cov.less (G' :: B) (fun F hF => by rcases List.mem_cons.1 hF with rfl | hF; exact List.mem_cons_self; exact List.mem_cons_of_mem _ (List.mem_cons_of_mem _ (List.mem_cons_of_mem _ hF)))
        (hk v bo so G' (ext_le he (List.mem_cons_of_mem _ List.mem_cons_self)) hb' (h G' he))

/-! What is one's own, lent to be read. -/

theorem SlR.rd {Q : Rep α} {G' : Hp} {a : Option Addr} {m T sz : Nat} {l : List α} {cs : List Value} (ho : OL Q G cs l) (hn : sz = Q.sz) (hle : HpLe G G') (h : Rd (.s (.slice a l.length m) T sz l.length cs) G') : SlR Q G' a m l := by
  obtain ⟨w, hh, hb⟩ := h
  have hown : w.ownsRow 0 T sz (.slice a l.length m) l.length cs := hh
  have hlb := ho.1
  obtain ⟨_, xs, rfl, h3, h4⟩ := ho
  have e1 : xs.length = l.length := h4.1
  refine ⟨by omega, xs, ⟨a, m, by rw [e1], ?_, fun x hx => h3 x hx, fun hne => ?_⟩, h4.mono hle⟩
  · rw [e1]
    rcases hown.2 with ⟨hv, h0⟩ | ⟨g, cap, cur, hv, _, hg, hnc, hm2, hcs, htk⟩
    · simp only [Value.slice.injEq] at hv; omega
    · simp only [Value.slice.injEq] at hv; omega
  · rcases hown.2 with ⟨hv, h0⟩ | ⟨g, cap, cur, hv, _, hg, hnc, hm2, hcs, htk⟩
    · rw [h0] at e1; exact absurd (List.eq_nil_of_length_eq_zero e1) hne
    · cases hv
      refine ⟨g, 0, rfl, fun i x hx j v hj => ?_⟩
      have := hb g (by simp [OwnS.blocks, Value.ownBlock])
      unfold rcell
      rw [this, hg]
      have hfl := get_flatten xs i x j v h3 hx hj
      have hlt : i * Q.sz + j < l.length * Q.sz := by
        have hi : i < xs.length := (List.getElem?_eq_some_iff.1 hx).1
        have hj' : j < Q.sz := by rw [← h3 x (List.mem_of_getElem? hx)]; exact (List.getElem?_eq_some_iff.1 hj).1
        have : (i + 1) * Q.sz ≤ l.length * Q.sz := Nat.mul_le_mul_right _ (by omega)
        rw [Nat.add_mul] at this
        omega
      rw [← htk, hn, List.getElem?_take_of_lt hlt] at hfl
      simpa using hfl
theorem SlR.rdV {Q : Rep α} {G' : Hp} {a : Option Addr} {b : Option Nat} {m : Nat} {T : TypeId} {l : List α} {pre cs post : List Value} (ho : OL Q G cs l) (va : VA a b l.length m pre cs) (hle : HpLe G G') (h0 : Nat.blt 0 Q.sz = true) (h : Rd (.g (viewG b T pre cs post)) G') : SlR Q G' a m l := by
  obtain ⟨w, hh, hb⟩ := h
  have hcl := ho.clen
  have hlb := ho.1
  obtain ⟨_, xs, rfl, h3, h4⟩ := ho
  have e1 : xs.length = l.length := h4.1
  have h0' : 0 < Q.sz := by simpa [Nat.blt_eq] using h0
  refine ⟨by omega, xs, ⟨a, m, by rw [e1], by rw [e1]; exact va.1, fun x hx => h3 x hx, fun hne => ?_⟩, h4.mono hle⟩
  have hpos : 0 < xs.flatten.length := by
    rw [hcl, ← e1]
    refine Nat.mul_pos ?_ h0'
    exact List.length_pos_iff.2 hne
  obtain ⟨g, rfl, rfl, hw, _⟩ := view_cells hh va hpos
  refine ⟨g, pre.length, rfl, fun i x hx j v hj => ?_⟩
  have := hb g (by simp [OwnS.blocks, viewG])
  unfold rcell
  rw [this, hw]
  have hfl := get_flatten xs i x j v h3 hx hj
  have hl : i * Q.sz + j < xs.flatten.length := (List.getElem?_eq_some_iff.1 hfl).1
  show (pre ++ xs.flatten ++ post).toArray[pre.length + i * Q.sz + j]? = some v
  rw [List.getElem?_toArray, List.append_assoc, Nat.add_assoc, List.getElem?_append_right (by omega), Nat.add_sub_cancel_left, List.getElem?_append_left hl]
  exact hfl

theorem RetW.flat {f : FuncId} {args : Array Value} {bin : Blks} {sin : List OwnS} {Q : Value → Blks → List OwnS → Hp → Prop} (h : RetW P f args Fs bin sin Q) : RetG P f args Fs bin sin fun v _ bo so => ∃ G2, Q v bo so G2 :=
  fun w h1 h2 h3 h4 h5 => (h w h1 h2 h3 h4 h5).mono fun _ w' ⟨Fr, bo, so, a, b, d⟩ => ⟨Fr, bo, so, a, b, whole w', d _ fun F hF x o hx => b.mem.fs F hF x o hx⟩

/-- The state where sB is lent to be read, and what is there again after. -/
theorem Inv.lendB {w : World} {s1 sB s2 : List OwnS} (hi : Inv w0 S0 (G :: B) bl (s1 ++ (sB ++ s2)) w) : ∃ G', HpLe G G' ∧ (∀ s ∈ sB, Rd s G') ∧ Inv w0 S0 (G' :: G :: B) bl (s1 ++ s2) w ∧ (∀ Fin, Bd w0 S0 Fin G → Bd w0 S0 Fin G') ∧
    ∀ w' Fs2 bo so, Inv w0 S0 (Fs2 ++ G' :: G :: B) bo (so ++ s2) w' → Inv w0 S0 (G :: B) bo (so ++ (sB ++ s2)) w' := by
  classical
  let G' : Hp := fun b => if b ∈ sB.flatMap OwnS.blocks then w.heap[b]? else G b
  have hblk : ∀ b, b ∈ blks bl (s1 ++ (sB ++ s2)) ↔ b ∈ blks bl (s1 ++ s2) ∨ b ∈ sB.flatMap OwnS.blocks := fun b => by
    simp only [blks, List.flatMap_append, List.mem_append]
    constructor
    · rintro (h | h | h | h) <;> simp [h]
    · rintro ((h | h | h) | h) <;> simp [h]
  have hperm : (blks bl (s1 ++ (sB ++ s2))).Perm (sB.flatMap OwnS.blocks ++ blks bl (s1 ++ s2)) := by
    simp only [blks, List.flatMap_append]
    have e1 : (s1.flatMap OwnS.blocks ++ (sB.flatMap OwnS.blocks ++ s2.flatMap OwnS.blocks)).Perm (sB.flatMap OwnS.blocks ++ (s1.flatMap OwnS.blocks ++ s2.flatMap OwnS.blocks)) := by
      rw [← List.append_assoc, ← List.append_assoc]; exact List.perm_append_comm.append_right _
    exact (e1.append_left _).trans (List.perm_append_comm_assoc _ _ _)
  have hnd := List.nodup_append.1 (hperm.nodup_iff.1 hi.nodup)
  have hmine : ∀ b ∈ sB.flatMap OwnS.blocks, b ∈ blks bl (s1 ++ (sB ++ s2)) := fun b hb => (hblk b).2 (.inr hb)
  have hapG : ∀ b ∈ sB.flatMap OwnS.blocks, ∀ F ∈ G :: B, F b = none := fun b hb F hF => hi.apart b (hmine b hb) F hF
  have hle : HpLe G G' := fun b o hb => by
    show (if _ then _ else _) = _
    rw [if_neg fun h => by rw [hapG b h G List.mem_cons_self] at hb; cases hb]; exact hb
  have hG'w : HpIn G' w := fun b o hb => by
    have hb' : (if b ∈ sB.flatMap OwnS.blocks then w.heap[b]? else G b) = some o := hb
    split at hb'
    · exact hb'
    · exact hi.mem.fs G List.mem_cons_self b o hb'
  have hval : ∀ b ∈ sB.flatMap OwnS.blocks, G' b = w.heap[b]? := fun b hb => by show (if _ then _ else _) = _; rw [if_pos hb]
  have hhold : ∀ s ∈ sB, s.holds w := fun s hs => hi.mem.slh s (List.mem_append_right _ (List.mem_append_left _ hs))
  refine ⟨G', hle, fun s hs => ⟨w, hhold s hs, fun b hb => hval b (List.mem_flatMap.2 ⟨s, hs, hb⟩)⟩, ?_, fun Fin hbd b o hb => ?_, ?_⟩
  · refine hi.change [] (by simp) (Keep.refl w []) (fun F hF => ?_) hi.mem.own (fun s hs => hi.mem.slh s ?_) hnd.2.1 (fun b hb => .inl ((hblk b).2 (.inl hb)))
    · rcases List.mem_cons.1 hF with rfl | hF
      · refine .inr ⟨hG'w, fun b hb => ?_⟩
        have hn : b ∉ sB.flatMap OwnS.blocks := fun h => hnd.2.2 b h b hb rfl
        show (if _ then _ else _) = _
        rw [if_neg hn]
        exact hi.apart b ((hblk b).2 (.inl hb)) G List.mem_cons_self
      · exact .inl hF
    · rcases List.mem_append.1 hs with h | h
      · exact List.mem_append_left _ h
      · exact List.mem_append_right _ (List.mem_append_right _ h)
  · by_cases hm : b ∈ sB.flatMap OwnS.blocks
    · rcases hi.mine b (hmine b hm) with h | h
      · exact .inr (.inl h)
      · exact .inl h
    · refine hbd b o ?_
      have hb' : (if b ∈ sB.flatMap OwnS.blocks then w.heap[b]? else G b) = some o := hb
      rwa [if_neg hm] at hb'
  · intro w' Fs2 bo so hi'
    have hG'm : G' ∈ Fs2 ++ G' :: G :: B := List.mem_append_right _ List.mem_cons_self
    have hblk' : ∀ b, b ∈ blks bo (so ++ (sB ++ s2)) ↔ b ∈ blks bo (so ++ s2) ∨ b ∈ sB.flatMap OwnS.blocks := fun b => by
      simp only [blks, List.flatMap_append, List.mem_append]
      constructor
      · rintro (h | h | h | h) <;> simp [h]
      · rintro ((h | h | h) | h) <;> simp [h]
    have hperm' : (blks bo (so ++ (sB ++ s2))).Perm (sB.flatMap OwnS.blocks ++ blks bo (so ++ s2)) := by
      simp only [blks, List.flatMap_append]
      have e1 : (so.flatMap OwnS.blocks ++ (sB.flatMap OwnS.blocks ++ s2.flatMap OwnS.blocks)).Perm (sB.flatMap OwnS.blocks ++ (so.flatMap OwnS.blocks ++ s2.flatMap OwnS.blocks)) := by
        rw [← List.append_assoc, ← List.append_assoc]; exact List.perm_append_comm.append_right _
      exact (e1.append_left _).trans (List.perm_append_comm_assoc _ _ _)
    have hlt : ∀ b ∈ sB.flatMap OwnS.blocks, ∃ o, w.heap[b]? = some o := fun b hb => by
      obtain ⟨s, hs, hb⟩ := List.mem_flatMap.1 hb
      exact ⟨_, Array.getElem?_eq_getElem (OwnS.lt (hhold s hs) b hb)⟩
    have hsame : ∀ b ∈ sB.flatMap OwnS.blocks, w'.heap[b]? = w.heap[b]? := fun b hb => by
      obtain ⟨o, ho⟩ := hlt b hb
      rw [ho]; exact hi'.mem.fs G' hG'm b o (by rw [hval b hb]; exact ho)
    refine ⟨⟨fun F hF => hi'.mem.fs F (List.mem_append_right _ (List.mem_cons_of_mem _ hF)), hi'.mem.own, fun s hs => ?_⟩, hi'.keep, ?_, fun b hb => ?_, fun b hb F hF => ?_⟩
    · rcases List.mem_append.1 hs with h | h
      · exact hi'.mem.slh s (List.mem_append_left _ h)
      · rcases List.mem_append.1 h with h | h
        · exact OwnS.same (hhold s h) fun b hb => hsame b (List.mem_flatMap.2 ⟨s, h, hb⟩)
        · exact hi'.mem.slh s (List.mem_append_right _ h)
    · rw [hperm'.nodup_iff, List.nodup_append]
      refine ⟨hnd.1, hi'.nodup, fun a ha b hb e => ?_⟩
      subst e
      have h1 := hi'.apart a hb G' hG'm
      obtain ⟨o, ho⟩ := hlt a ha
      rw [hval a ha, ho] at h1
      cases h1
    · rcases (hblk' b).1 hb with h | h
      · exact hi'.mine b h
      · exact hi.mine b (hmine b h)
    · rcases (hblk' b).1 hb with h | h
      · exact hi'.apart b h F (List.mem_append_right _ (List.mem_cons_of_mem _ hF))
      · exact hapG b h F hF

/-- A call that reads sB. -/
theorem Cov.callB {b1 b2 : Blks} {s1 sB s2 : List OwnS} (vs cap : List Value) {d : Nat} {f : FuncId} {fop : Operand} {args : Array Operand} {ts : Array TypeId} {Q : Value → Blks → List OwnS → Prop} (hs : Stp P K' ⟨some d, .call ⟨.value fop, args, ts⟩, ty, none⟩ K)
    (hf : ev ρ fop = some (.func (.func f) #[] cap.toArray)) (ha : args.toList.map (ev ρ) = vs.map some) (hcall : ∀ args w, (callFunc f args).run P w = .ok (.enter f args) w) (hbl : bl = b1 ++ b2) (hsl : sl = s1 ++ (sB ++ s2))
    (hr : ∀ Fs' G', HpLe G G' → (∀ s ∈ sB, Rd s G') → G' ∈ Fs' → RetG P f (vs ++ cap).toArray Fs' b1 s1 (fun v _ bo so => Q v bo so)) (hd : Nat.blt d nt = true)
    (hk : ∀ v bo so, Q v bo so → Cov nt w0 S0 df ((d, v) :: ρ) (G :: B) (bo ++ b2) (so ++ (sB ++ s2)) K) : Cov nt w0 S0 df ρ (G :: B) bl sl K' := fun a w hfi hi => by
  subst hsl
  obtain ⟨G', hle, hrd, hi2, _, hback⟩ := hi.lendB
  exact Cov.callg vs cap hs hf ha hcall hbl rfl (hr (G' :: G :: B) G' hle hrd List.mem_cons_self) hd (fun v Fr bo so _ hq a' w' hf' hi' => hk v bo so hq a' w' hf' (hback w' [Fr] _ _ hi')) a w hfi hi2
theorem Cov.callB0 {b1 b2 : Blks} {s1 sB s2 : List OwnS} (vs cap : List Value) {f : FuncId} {fop : Operand} {args : Array Operand} {ts : Array TypeId} {Q : Value → Blks → List OwnS → Prop} (hs : Stp P K' ⟨none, .call ⟨.value fop, args, ts⟩, ty, none⟩ K)
    (hf : ev ρ fop = some (.func (.func f) #[] cap.toArray)) (ha : args.toList.map (ev ρ) = vs.map some) (hcall : ∀ args w, (callFunc f args).run P w = .ok (.enter f args) w) (hbl : bl = b1 ++ b2) (hsl : sl = s1 ++ (sB ++ s2))
    (hr : ∀ Fs' G', HpLe G G' → (∀ s ∈ sB, Rd s G') → G' ∈ Fs' → RetG P f (vs ++ cap).toArray Fs' b1 s1 (fun v _ bo so => Q v bo so))
    (hk : ∀ v bo so, Q v bo so → Cov nt w0 S0 df ρ (G :: B) (bo ++ b2) (so ++ (sB ++ s2)) K) : Cov nt w0 S0 df ρ (G :: B) bl sl K' := fun a w hfi hi => by
  subst hsl
  obtain ⟨G', hle, hrd, hi2, _, hback⟩ := hi.lendB
  exact Cov.callg0 vs cap hs hf ha hcall hbl rfl (hr (G' :: G :: B) G' hle hrd List.mem_cons_self) (fun v Fr bo so _ hq a' w' hf' hi' => hk v bo so hq a' w' hf' (hback w' [Fr] _ _ hi')) a w hfi hi2
end
end Go.Proofs.Ytbhmhindommaeaa
