/-
  Slices of one's own are written, copied, made; a function hands one back.
-/
import Derived.Test.YtbhmhindommaeaaK17
import Derived.Laws.MakeOwn
namespace Go.Proofs.Ytbhmhindommaeaa
open Go.RowKit

theorem flat_set {α : Type} {f : α → List Value} {sz : Nat} (hf : ∀ x, (f x).length = sz) (d : α) {off : Nat} {c : List Value} (hc : off + c.length ≤ sz) {y : α} : ∀ (l : List α) (k : Nat), k < l.length → (f (l.getD k d)).take off ++ c ++ (f (l.getD k d)).drop (off + c.length) = f y →
    (l.map f).flatten.take (k * sz + off) ++ c ++ (l.map f).flatten.drop (k * sz + off + c.length) = ((l.set k y).map f).flatten
  | [], k, hk, _ => by simp at hk
  | x :: l, 0, _, h => by
    simp only [List.getD_cons_zero] at h
    simp only [List.map_cons, List.flatten_cons, List.set_cons_zero, Nat.zero_mul, Nat.zero_add]
    rw [List.take_append_of_le_length (by rw [hf]; omega), List.drop_append_of_le_length (by rw [hf]; omega), ← List.append_assoc, h]
  | x :: l, k + 1, hk, h => by
    have ih := flat_set hf d hc l k (by simpa using hk) (by simpa using h)
    simp only [List.map_cons, List.flatten_cons, List.set_cons_succ]
    rw [← ih]
    have e1 : (k + 1) * sz + off = (f x).length + (k * sz + off) := by rw [hf, Nat.add_mul]; omega
    rw [e1, Nat.add_assoc (f x).length, List.take_append, List.drop_append]
    rw [List.take_of_length_le (l := f x) (by omega), List.drop_of_length_le (l := f x) (by omega)]
    simp [List.append_assoc]

section
variable {P : Program} {c : Cx} {R : Value → World → Prop} {nt : Nat} {w0 : World} {S0 : List Nat} {df : List Deferred} {ρ ρ' : Env} {Fs Fs' Fin : List Hp} {bl bl' : Blks} {sl sl' : List OwnS}
  {K K' : Act → World → Prop} {k : List Item} {ty : TypeId}

/-- A store into an element of a slice of one's own (p: where in it). -/
theorem Cov.store_o {α : Type} (i : Nat) (d : α) (y : α) (off : Nat) {l : List α} {f : α → List Value} {a : Option Addr} {cap T sz j : Nat} {t : TypeId} {x u : Operand} {v : Value} {agg : Bool} {bytes : Nat} {z : List Value} (hs : Stp P K' ⟨none, .store t x u, ty, none⟩ K)
    (hi : sl[i]? = some (.s (.slice a l.length cap) T sz l.length (l.map f).flatten)) {p : Value} (hx : ev ρ x = some p) (hp : (p = elemPtr (.slice a l.length cap) j sz ∧ off = 0) ∨ p = ptrAdd (elemPtr (.slice a l.length cap) j sz) off) (hu : ev ρ u = some v) (ht : TyI P t agg (cellsL v).length bytes z)
    (h1 : (cellsL v).all (·.oneCell') = true) (hf : ∀ x, (f x).length = sz) (hj : j < l.length) (hfit : off + (cellsL v).length ≤ sz) (hy : (f (l.getD j d)).take off ++ cellsL v ++ (f (l.getD j d)).drop (off + (cellsL v).length) = f y)
    (sl' : List OwnS) (hsl : sl.set i (.s (.slice a (l.set j y).length cap) T sz (l.set j y).length ((l.set j y).map f).flatten) = sl') (hk : Cov nt w0 S0 df ρ Fs bl sl' K) : Cov nt w0 S0 df ρ Fs bl sl K' := fun a' w hfi hinv => by
  subst hsl
  refine hs a' w ?_
  have hown : w.ownsRow 0 T sz _ _ _ := hinv.mem.slh _ (List.mem_of_getElem? hi)
  obtain ⟨g, cur, rfl, hg, htake, hcs, hnc⟩ := own_form hown (by omega)
  have hlt : j * sz + off + (cellsL v).length ≤ l.length * sz := by
    have : (j + 1) * sz ≤ l.length * sz := Nat.mul_le_mul_right _ hj
    rw [Nat.add_mul] at this
    omega
  have hcap : l.length * sz ≤ cap * sz := Nat.mul_le_mul_right _ hnc
  obtain ⟨w', hr, kw, hb'⟩ := storeVar_run (P := P) (cs := cur.toList) (o := j * sz + off) ht (by simpa using hg) h1 (by simp; omega) rfl
  have hrun : (execOp a'.eval (⟨none, .store t x u, ty, none⟩ : OpX).oper).run P w = .ok .skip w' := by
    refine run_u (s := Instr.storeAt t (a'.eval x) (a'.eval u)) ?_
    rw [ev_sound hfi hx, ev_sound hfi hu]
    rcases hp with ⟨rfl, rfl⟩ | rfl
    · simp only [elemPtr, addr_add, Nat.zero_add]
      exact hr
    · simp only [elemPtr, ptrAdd, addr_add, Nat.zero_add]
      exact hr
  unfold Oper.wp
  rw [hrun]
  have hfl : (l.map f).flatten.length = l.length * sz := flatten_len hf l
  have hset := flat_set hf d hfit l j hj hy
  refine hk _ _ (hfi.put_none _) (hinv.set_s i hi (s' := .s (.slice (some ⟨g, 0, none⟩) (l.set j y).length cap) T sz (l.set j y).length ((l.set j y).map f).flatten) (by simpa [OwnS.blocks, Value.ownBlock] using kw) ?_ (by simp [OwnS.blocks, Value.ownBlock]) (fun b hb => .inl (by simpa [OwnS.blocks, Value.ownBlock] using hb)))
  have hcur : cur.toList = (l.map f).flatten ++ cur.toList.drop (l.length * sz) := by rw [← htake, List.take_append_drop]
  rcases hown.2 with ⟨_, h0⟩ | ⟨g2, cap2, cur2, hv, _, hg2, _, hm2, _⟩
  · omega
  · cases hv
    refine ⟨by rw [flatten_len hf], .inr ⟨g, cap, _, rfl, Nat.zero_le _, hb', by simpa using hnc, hm2, ?_, ?_⟩⟩
    · simp only [List.size_toArray, List.length_append, List.length_take, List.length_drop, Array.length_toList]
      omega
    · rw [List.length_set, ← hset]
      simp only [List.toList_toArray]
      rw [hcur]
      have e1 : List.take (j * sz + off) ((l.map f).flatten ++ List.drop (l.length * sz) cur.toList) = List.take (j * sz + off) (l.map f).flatten := List.take_append_of_le_length (by rw [hfl]; omega)
      have e2 : List.drop (j * sz + off + (cellsL v).length) ((l.map f).flatten ++ List.drop (l.length * sz) cur.toList) = List.drop (j * sz + off + (cellsL v).length) (l.map f).flatten ++ List.drop (l.length * sz) cur.toList := List.drop_append_of_le_length (by rw [hfl]; omega)
      rw [e1, e2, ← List.append_assoc]
      have e3 : (List.take (j * sz + off) (l.map f).flatten ++ cellsL v ++ List.drop (j * sz + off + (cellsL v).length) (l.map f).flatten).length = l.length * sz := by simp only [List.length_append, List.length_take, List.length_drop, hfl]; omega
      exact List.take_left' e3

/-- A field's address in an element of a slice of one's own. -/
theorem QOp.fieldAddr_o {α : Type} (i : Nat) {l : List α} {f : α → List Value} {a : Option Addr} {cap T sz j : Nat} {s : TypeId} {x : Operand} {n off m o : Nat} {ft : TypeId} (hs : sl[i]? = some (.s (.slice a l.length cap) T sz l.length (l.map f).flatten)) (hj : j < l.length)
    {p : Value} (hx : ev ρ x = some p) (hp : (p = elemPtr (.slice a l.length cap) j sz ∧ o = 0) ∨ p = ptrAdd (elemPtr (.slice a l.length cap) j sz) o) (hf : fldOf P s n = some (off, ft)) (hz : szOf P ft = some (m + 1)) : QOp P ρ Fs bl sl (.fieldAddr s x n) ty (ptrAdd (elemPtr (.slice a l.length cap) j sz) (o + off)) := .of fun e he w hm => by
  obtain ⟨g, cur, rfl, _⟩ := own_form (hm.slh _ (List.mem_of_getElem? hs)) (by omega)
  refine run_v (s := Instr.fieldAt s (e x) n) ?_
  rw [he x _ hx]
  rcases hp with ⟨rfl, rfl⟩ | rfl
  · simp only [elemPtr, ptrAdd, addr_add, Nat.zero_add]
    exact run_fieldAt hf hz
  · simp only [elemPtr, ptrAdd, addr_add, Nat.zero_add]
    rw [← Nat.add_assoc]
    exact run_fieldAt hf hz

/-- make, filled with zeros. -/
theorem Cov.make {α : Type} (zx : α) (f : α → List Value) {d : Nat} {t el : TypeId} {x y : Operand} {n : Nat} {agg : Bool} {sz bytes : Nat} {z : List Value} (hs : Stp P K' ⟨some d, .makeSlice t x y, ty, none⟩ K) (ht : slOf P t = some el) (hel : TyI P el agg sz bytes z) (hzl : z.length = sz) (hz1 : 0 < sz) (hzf : f zx = z)
    (hx : ev ρ x = some (.int .i64 n)) (hy : ev ρ y = some (.int .i64 n)) (hn : n ≤ 16777216) (hby : Nat.ble bytes 8388608 = true) (hd : Nat.blt d nt = true)
    (hk : ∀ b, w0.heap.size ≤ b → Cov nt w0 S0 df ((d, .slice (some ⟨b, 0, none⟩) (List.replicate n zx).length n) :: ρ) Fs bl (.s (.slice (some ⟨b, 0, none⟩) (List.replicate n zx).length n) el sz (List.replicate n zx).length ((List.replicate n zx).map f).flatten :: sl) K) : Cov nt w0 S0 df ρ Fs bl sl K' := fun a w hf hi => by
  obtain ⟨i, zv, h1, h2, h3, h4, h5⟩ := hel.info
  have hby' : bytes ≤ 8388608 := by simpa [Nat.ble_eq] using hby
  have hbytes : i.bytes * n ≤ 281474976710656 := by rw [h4]; exact Nat.le_trans (Nat.mul_le_mul hby' hn) (by decide)
  have hb' : (i.bytes : Int) * (n : Int) ≤ 281474976710656 := by
    have h : ((i.bytes * n : Nat) : Int) ≤ 281474976710656 := by omega
    rwa [Int.natCast_mul] at h
  have hr := run_make (P := P) w t el i zv (slOf_spec ht) h1 h2 .i64 .i64 n n (by omega) (Int.le_refl _) hb' (by omega)
  simp only [Int.toNat_natCast] at hr
  have hcells : (madeCells zv.cells (n * i.size)).toList = ((List.replicate n zx).map f).flatten := by
    rw [h3, h5]
    apply List.ext_getElem?
    intro j
    have hfl : ((List.replicate n zx).map f).flatten.length = n * sz := by simp [hzf, hzl]
    by_cases hj : j < n * sz
    · have hq : j / sz < n := Nat.div_lt_of_lt_mul (by rw [Nat.mul_comm]; exact hj)
      have hm : j % sz < sz := Nat.mod_lt _ hz1
      have hg := get_flatten (sz := sz) ((List.replicate n zx).map f) (j / sz) z (j % sz) (z[j % sz]'(by omega)) (fun x hx => by simp only [List.map_replicate, List.mem_replicate] at hx; rw [hx.2, hzf, hzl]) (by simp [hq, hzf]) (List.getElem?_eq_getElem _)
      rw [show j / sz * sz + j % sz = j from by rw [Nat.mul_comm]; exact Nat.div_add_mod j sz] at hg
      rw [hg]
      simp [madeCells, hj, hzl, hm]
    · rw [List.getElem?_eq_none (by simp [madeCells]; omega), List.getElem?_eq_none (by rw [hfl]; omega)]
  refine hs a w ?_
  unfold Oper.wp
  have hrun : (execOp a.eval (⟨some d, .makeSlice t x y, ty, none⟩ : OpX).oper).run P w = .ok (.value (.slice (some ⟨w.heap.size, 0, none⟩) n n)) (w.alloc (.cells (madeCells zv.cells (n * i.size)) el)) := by
    refine run_v (s := Instr.makeSlice t (a.eval x) (a.eval y)) ?_
    rw [ev_sound hf hx, ev_sound hf hy]
    exact hr
  rw [hrun]
  have hk' := hk w.heap.size hi.keep.size
  simp only [List.length_replicate] at hk'
  refine hk' _ _ (hf.put hd _) (hi.alloc_s _ _ (by simp [OwnS.blocks, Value.ownBlock]) ?_)
  have := World.ownsRow_lit (base := 0) (e := el) (size := sz) w (madeCells zv.cells (n * i.size)) n (Nat.zero_le _) (by simp only [maxLen]; omega) (by rw [size_madeCells, h3])
  rw [hcells] at this
  exact this

/-- A resource to the front. -/
theorem Cov.pullS (i : Nat) {p : OwnS} (hp : sl[i]? = some p) (sl' : List OwnS) (hsl : p :: sl.eraseIdx i = sl') (h : Cov nt w0 S0 df ρ Fs bl sl' K) : Cov nt w0 S0 df ρ Fs bl sl K := fun a w hf hi => by
  subst hsl
  exact h a w hf (hi.perm (List.Perm.refl _) (perm_erase sl i _ hp))

/-- The heap that holds nothing. -/
theorem Cov.emp (h : Cov nt w0 S0 df ρ (empHp :: Fs) bl sl K) : Cov nt w0 S0 df ρ Fs bl sl K := fun a w hf hi =>
  h a w hf (hi.change [] (by simp) (Keep.refl w []) (fun G hG => by
    rcases List.mem_cons.1 hG with rfl | hG
    · exact .inr ⟨fun b o hb => by simp [empHp] at hb, fun _ _ => rfl⟩
    · exact .inl hG) hi.mem.own hi.mem.slh hi.nodup (fun _ hx => .inl hx))
theorem Bd.emp : Bd w0 S0 Fin empHp := fun b o h => by simp [empHp] at h

/-- A block of one's own that is only read from now on: a pointer to what it holds. -/
theorem Cov.freezeB (i : Nat) {b : Nat} {cs : List Value} {T : TypeId} (hb : bl[i]? = some (b, .cells cs.toArray T (0, 0))) (bl' : Blks) (hbl : bl.eraseIdx i = bl')
    (hk : ∀ G, (∀ Fin, Bd w0 S0 Fin G) → Rp G (.pointer (some ⟨b, 0, none⟩)) cs → Cov nt w0 S0 df ρ (G :: Fs) bl' sl K) : Cov nt w0 S0 df ρ Fs bl sl K := fun a w hf hi => by
  have hm : b ∈ blks bl sl := List.mem_append_left _ (List.mem_map.2 ⟨_, List.mem_of_getElem? hb, rfl⟩)
  refine Cov.freeze i hb bl' hbl (hk (single b (.cells cs.toArray T (0, 0))) (fun Fin x o hx => ?_) ⟨b, 0, rfl, fun j c hj => ?_⟩) a w hf hi
  · unfold single at hx
    split at hx
    · rename_i e; subst e
      rcases hi.mine x hm with h | h
      · exact .inr (.inl h)
      · exact .inl h
    · cases hx
  · simp only [rcell, single, if_true, Nat.zero_add]
    simpa using hj
end
end Go.Proofs.Ytbhmhindommaeaa
