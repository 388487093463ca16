/-
  The rules of the walk: slices that read, slices of one's own.
-/
import Derived.Test.YtbhmhindommaeaaL1
namespace Go.Proofs.Ytbhmhindommaeaa
open Go.RowKit

section
variable {P : Program} {c : Cx} {R : Value → World → Prop} {nt : Nat} {w0 : World} {S0 : List Nat} {df : List Deferred} {ρ ρ' : Env} {Fs Fs' Fin B : List Hp} {bl bl' : Blks} {sl sl' : List OwnS}
  {K K' : Act → World → Prop} {k : List Item} {ty : TypeId} {α : Type} {G : Hp}

/-- The length of a slice, said otherwise. -/
theorem Cov.reval (t : Nat) {a : Option Addr} {n n' m : Nat} (e : n' = n) (ht : ρ.lookup t = some (.slice a n m)) (h : Cov nt w0 S0 df ((t, .slice a n' m) :: ρ) Fs bl sl K) : Cov nt w0 S0 df ρ Fs bl sl K := by
  subst e
  refine fun a w hf hi => h a w ⟨hf.1, hf.2.1, fun u v hu => ?_⟩ hi
  simp only [List.lookup] at hu
  by_cases e : u = t
  · subst e; simp only [beq_self_eq_true] at hu; cases hu; exact hf.2.2 _ _ ht
  · have e' : (u == t) = false := by simpa using e
    simp only [e'] at hu
    exact hf.2.2 _ _ hu
theorem QOp.cast {op : Op} {v v' : Value} (e : v = v') (h : QOp P ρ Fs bl sl op ty v) : QOp P ρ Fs bl sl op ty v' := e ▸ h

/-- The address of an element of a slice that reads. -/
theorem QOp.idxR {Q : Rep α} {a : Option Addr} {m : Nat} {l : List α} {i : Int} {u : α} {kk : IntKind} {t el : TypeId} {x j : Operand} (hs : SlR Q G a m l) (hx : ev ρ x = some (.slice a l.length m)) (hj : ev ρ j = some (.int kk i))
    (he : lidx l i = some u) (ht : slOf P t = some el) (hz : szOf P el = some Q.sz) : QOp P ρ Fs bl sl (.indexAddr t x j) ty (elemPtr (.slice a l.length m) i.toNat Q.sz) := by
  obtain ⟨_, xs, h1, h2⟩ := hs
  obtain ⟨h3, h4, _⟩ := lidx_some he
  exact .indexAddr h1 hx hj ht hz h3 (by rw [h2.1]; omega)

/-- A part of a slice that reads. -/
theorem QOp.sliceR {Q : Rep α} {a a' : Option Addr} {m m' : Nat} {l l' : List α} {i j : Int} {t el : TypeId} {x : Operand} {lo hi : Option Operand} (hs : SlR Q G a m l) (hx : ev ρ x = some (.slice a l.length m)) (hl : lsub l i j = some l')
    (ht : slOf P t = some el) (hz : szOf P el = some Q.sz) (hlo : 0 ≤ i → Bnd ρ 0 lo i.toNat) (hhi : 0 ≤ j → Bnd ρ l.length hi j.toNat) (hv : subV (.slice a l.length m) i.toNat j.toNat Q.sz = .slice a' l'.length m') :
    QOp P ρ Fs bl sl (.slice t x lo hi none) ty (.slice a' l'.length m') := by
  obtain ⟨_, xs, h1, h2⟩ := hs
  obtain ⟨h3, h4, h5, _⟩ := lsub_some hl
  have e := h2.1
  refine .cast hv (.slice h1 hx ht hz (hlo h3) ?_ (by omega) (by omega))
  rw [e]; exact hhi (by omega)

theorem own_cells {w : World} {T sz : Nat} {n : Nat} {a : Option Addr} {m : Nat} {cs : List Value} (h : w.ownsRow 0 T sz (.slice a n m) n cs) (hn : 0 < n) :
    ∃ g, a = some ⟨g, 0, none⟩ ∧ ∀ (q : Nat) (v : Value), q < n * sz → cs[q]? = some v → w.cell? ⟨g, q, none⟩ = some v := by
  rcases h.2 with ⟨_, h0⟩ | ⟨g, cap', cur, h1, _, h2, h3, _, h4, h5⟩
  · omega
  · cases h1
    refine ⟨g, rfl, fun q v hq hv => ?_⟩
    rw [← h5, List.getElem?_take_of_lt hq] at hv
    rw [cell_of_row w g _ cur T (0, 0) h2]
    simpa using hv

/-- The address of an element of a slice of one's own. -/
theorem QOp.idxO (q : Nat) {a : Option Addr} {m T sz : Nat} {l : List α} {cs : List Value} {i : Int} {u : α} {kk : IntKind} {t el : TypeId} {x j : Operand} (hs : sl[q]? = some (.s (.slice a l.length m) T sz l.length cs)) (hx : ev ρ x = some (.slice a l.length m)) (hj : ev ρ j = some (.int kk i))
    (he : lidx l i = some u) (ht : slOf P t = some el) (hz : szOf P el = some sz) : QOp P ρ Fs bl sl (.indexAddr t x j) ty (elemPtr (.slice a l.length m) i.toNat sz) := .of fun e he' w hm => by
  obtain ⟨h3, h4, _⟩ := lidx_some he
  obtain ⟨g, rfl, _⟩ := own_cells (hm.slh _ (List.mem_of_getElem? hs)) (by omega)
  refine run_v (s := Instr.indexAt t (e x) (e j)) ?_
  rw [he' x _ hx, he' j _ hj]
  exact run_indexAt ht hz h3 h4

/-- p points to the place off of the n-th element. -/
def PtrO (p : Value) (a : Option Addr) (len m n sz off : Nat) : Prop := (p = elemPtr (.slice a len m) n sz ∧ off = 0) ∨ p = ptrAdd (elemPtr (.slice a len m) n sz) off

theorem elem_cells {w : World} {T sz : Nat} {len : Nat} {a : Option Addr} {m n : Nat} {cs d : List Value} (h : w.ownsRow 0 T sz (.slice a len m) len cs) (hn : n < len) (he : Elem sz cs n d) :
    ∃ g, a = some ⟨g, 0, none⟩ ∧ ∀ (q : Nat) (v : Value), d[q]? = some v → w.cell? ⟨g, n * sz + q, none⟩ = some v := by
  obtain ⟨g, rfl, hc⟩ := own_cells h (by omega)
  refine ⟨g, rfl, fun q v hq => hc _ _ ?_ (he.2 q v hq)⟩
  have hl : q < sz := by rw [← he.1]; exact (List.getElem?_eq_some_iff.1 hq).1
  have : (n + 1) * sz ≤ len * sz := Nat.mul_le_mul_right _ hn
  rw [Nat.add_mul] at this
  omega

/-- An element of a slice of one's own. -/
theorem QOp.loadO (q off : Nat) {a : Option Addr} {m T sz s bytes : Nat} {l : List α} {cs d z : List Value} {i : Int} {u : α} {t : TypeId} {x : Operand} {p v : Value} (hs : sl[q]? = some (.s (.slice a l.length m) T sz l.length cs)) (he : lidx l i = some u) (hd : Elem sz cs i.toNat d)
    (hx : ev ρ x = some p) (hp : PtrO p a l.length m i.toNat sz off) (ht : TyI P t false s bytes z) (hv : d[off]? = some v) : QOp P ρ Fs bl sl (.load t x) ty v := .of fun e he' w hm => by
  obtain ⟨h3, h4, _⟩ := lidx_some he
  obtain ⟨g, rfl, hc⟩ := elem_cells (hm.slh _ (List.mem_of_getElem? hs)) (by omega) hd
  refine run_v (s := Instr.loadAt t (e x)) ?_
  rw [he' x _ hx]
  rcases hp with ⟨rfl, rfl⟩ | rfl
  · simp only [elemPtr, addr_add, Nat.zero_add]
    exact run_loadVar_s (run_isAgg ht.agg) (by simpa using hc 0 v hv)
  · simp only [elemPtr, ptrAdd, addr_add, Nat.zero_add]
    exact run_loadVar_s (run_isAgg ht.agg) (hc off v hv)
theorem QOp.loadO_a (q off : Nat) (r : List Value) {a : Option Addr} {m T sz bytes : Nat} {l : List α} {cs d z : List Value} {i : Int} {u : α} {t : TypeId} {x : Operand} {p : Value} (hs : sl[q]? = some (.s (.slice a l.length m) T sz l.length cs)) (he : lidx l i = some u) (hd : Elem sz cs i.toNat d)
    (hx : ev ρ x = some p) (hp : PtrO p a l.length m i.toNat sz off) (ht : TyI P t true r.length bytes z) (hv : (d.drop off).take r.length = r) : QOp P ρ Fs bl sl (.load t x) ty (.agg r.toArray) := .of fun e he' w hm => by
  obtain ⟨h3, h4, _⟩ := lidx_some he
  obtain ⟨g, rfl, hc⟩ := elem_cells (hm.slh _ (List.mem_of_getElem? hs)) (by omega) hd
  refine run_v (s := Instr.loadAt t (e x)) ?_
  rw [he' x _ hx]
  have key : ∀ (j : Nat) (v : Value), r[j]? = some v → d[off + j]? = some v := fun j v hj => by
    have hl : j < r.length := by rcases Nat.lt_or_ge j r.length with h | h; exact h; rw [List.getElem?_eq_none h] at hj; cases hj
    rw [← hv, List.getElem?_take_of_lt hl, List.getElem?_drop] at hj
    exact hj
  rcases hp with ⟨rfl, rfl⟩ | rfl
  · simp only [elemPtr, addr_add, Nat.zero_add]
    exact run_loadVar_a (run_isAgg ht.agg) (run_sizeOf ht.sz) fun j v hj => hc j v (by simpa using key j v hj)
  · simp only [elemPtr, ptrAdd, addr_add, Nat.zero_add]
    exact run_loadVar_a (run_isAgg ht.agg) (run_sizeOf ht.sz) fun j v hj => by rw [Nat.add_assoc]; exact hc _ v (key j v hj)

theorem QOp.fieldO (q o : Nat) {a : Option Addr} {m T sz : Nat} {l : List α} {cs : List Value} {i : Int} {u : α} {s : TypeId} {x : Operand} {p : Value} {n off mm : Nat} {ft : TypeId} (hs : sl[q]? = some (.s (.slice a l.length m) T sz l.length cs)) (he : lidx l i = some u)
    (hx : ev ρ x = some p) (hp : PtrO p a l.length m i.toNat sz o) (hf : fldOf P s n = some (off, ft)) (hz : szOf P ft = some (mm + 1)) : QOp P ρ Fs bl sl (.fieldAddr s x n) ty (ptrAdd (elemPtr (.slice a l.length m) i.toNat sz) (o + off)) := .of fun e he' w hm => by
  obtain ⟨h3, h4, _⟩ := lidx_some he
  obtain ⟨g, rfl, _⟩ := own_cells (hm.slh _ (List.mem_of_getElem? hs)) (by omega)
  refine run_v (s := Instr.fieldAt s (e x) n) ?_
  rw [he' x _ hx]
  rcases hp with ⟨rfl, rfl⟩ | rfl
  · simp only [elemPtr, ptrAdd, addr_add, Nat.zero_add]
    exact run_fieldAt hf hz
  · simp only [elemPtr, ptrAdd, addr_add, Nat.zero_add]
    rw [← Nat.add_assoc]
    exact run_fieldAt hf hz

theorem QOp.quow {t u : TypeId} {x y : Operand} {kk : IntKind} {m n : Int} (hx : ev ρ x = some (.int kk m)) (hy : ev ρ y = some (.int kk n)) (hr : n ≠ 0) :
    QOp P ρ Fs bl sl (.binOp .quo t x y u) ty (.int kk (kk.wrap (m.tdiv n))) := .int hx hy fun w => by simp [binOp, Op.intDiv, hr]
theorem QOp.negw {t : TypeId} {x : Operand} {n : Int} (hx : ev ρ x = some (.int .i64 n)) : QOp P ρ Fs bl sl (.unOp .neg t x) ty (.int .i64 (IntKind.i64.wrap (0 - n))) := .of fun e he w _ => by
  simp [execOp, he x _ hx, Op.unary, Op.intArith]

theorem QOp.sidx {t : TypeId} {x i : Operand} {s : ByteArray} {kk : IntKind} {n u : Int} (hx : ev ρ x = some (.string s)) (hi : ev ρ i = some (.int kk n)) (ht : P.underlying t = some .string) (hu : sidx s n = some u) :
    QOp P ρ Fs bl sl (.index t x i) ty (.int .u8 u) := by
  obtain ⟨h0, h1, rfl⟩ := sidx_some hu
  exact .index_s hx hi ht h0 h1
theorem QOp.ssub {t : TypeId} {x : Operand} {lo hi : Option Operand} {s s' : ByteArray} {i j : Int} (hx : ev ρ x = some (.string s)) (ht : P.underlying t = some .string) (hs : ssub s i j = some s') (hl : 0 ≤ i → Bnd ρ 0 lo i.toNat) (hh : 0 ≤ j → Bnd ρ s.size hi j.toNat) :
    QOp P ρ Fs bl sl (.slice t x lo hi none) ty (.string s') := by
  obtain ⟨h0, h1, h2, rfl⟩ := ssub_some hs
  exact .slice_s hx ht (hl h0) (hh (by omega)) (by omega) (by omega)

theorem Bnd.yes' {ρ : Env} {d : Nat} {x : Operand} {k : IntKind} {n : Int} (hx : ev ρ x = some (.int k n)) (h0 : 0 ≤ n) : Bnd ρ d (some x) n.toNat := .yes hx h0 rfl

/-- At the beginning: one heap that holds all. -/
theorem Cov.enter (hk : ∀ G, Ext B G → Bd w0 S0 B G → Cov nt w0 S0 df ρ (G :: B) bl sl K) : Cov nt w0 S0 df ρ B bl sl K := Cov.union bd_fin hk

theorem ext_le {G' : Hp} (h : Ext Fs G') (hG : G ∈ Fs) : HpLe G G' := fun b o x => h G hG b o x

/-- A slice of one's own that is only read from now on. -/
theorem Cov.freezeR (q : Nat) {Q : Rep α} {a : Option Addr} {m T n : Nat} {l : List α} {cs : List Value} (hs : sl[q]? = some (.s (.slice a l.length m) T n l.length cs)) (hn : n = Q.sz) (ho : OL Q G cs l) (sl' : List OwnS) (hsl : sl.eraseIdx q = sl') (hB : Bd w0 S0 B G)
    (hk : ∀ G', HpLe G G' → Bd w0 S0 B G' → SlR Q G' a m l → Cov nt w0 S0 df ρ (G' :: B) bl sl' K) : Cov nt w0 S0 df ρ (G :: B) bl sl K := by
  subst hn
  obtain ⟨hb, xs, rfl, h3, h4⟩ := ho
  refine Cov.freezeS q xs hs rfl h4.1 h3 sl' hsl fun Gs hbs hss => ?_
  refine Cov.union (Fin := B) (bd_cons (hbs _) (bd_cons hB bd_fin)) fun G' he hb' => ?_
  refine Cov.less (G' :: B) (fun F hF => by rcases List.mem_cons.1 hF with rfl | hF; exact List.mem_cons_self; exact List.mem_cons_of_mem _ (List.mem_cons_of_mem _ (List.mem_cons_of_mem _ hF))) ?_
  have hle : HpLe G G' := ext_le he (List.mem_cons_of_mem _ List.mem_cons_self)
  exact hk G' hle hb' ⟨by omega, xs, hss.mono (ext_le he List.mem_cons_self), h4.mono hle⟩

/-- A block of one's own that is only read from now on. -/
theorem Cov.freezeBR (i : Nat) {b : Nat} {cs : List Value} {T : TypeId} (hb : bl[i]? = some (b, .cells cs.toArray T (0, 0))) (bl' : Blks) (hbl : bl.eraseIdx i = bl') (hB : Bd w0 S0 B G)
    (hk : ∀ G', HpLe G G' → Bd w0 S0 B G' → Rp G' (.pointer (some ⟨b, 0, none⟩)) cs → Cov nt w0 S0 df ρ (G' :: B) bl' sl K) : Cov nt w0 S0 df ρ (G :: B) bl sl K := by
  refine Cov.freezeB i hb bl' hbl fun Gs hbs hss => ?_
  refine Cov.union (Fin := B) (bd_cons (hbs _) (bd_cons hB bd_fin)) fun G' he hb' => ?_
  refine Cov.less (G' :: B) (fun F hF => by rcases List.mem_cons.1 hF with rfl | hF; exact List.mem_cons_self; exact List.mem_cons_of_mem _ (List.mem_cons_of_mem _ (List.mem_cons_of_mem _ hF))) ?_
  exact hk G' (ext_le he (List.mem_cons_of_mem _ List.mem_cons_self)) hb' (hss.mono (ext_le he List.mem_cons_self))

/-- A call whose result lies in memory. -/
theorem Cov.callX (vs cap : List Value) {d : Nat} {f : FuncId} {fop : Operand} {args : Array Operand} {ts : Array TypeId} {Q : Value → Hp → Prop} (hs : Stp P K' ⟨some d, .call ⟨.value fop, args, ts⟩, ty, none⟩ K)
    (hf : ev ρ fop = some (.func (.func f) #[] cap.toArray)) (ha : args.toList.map (ev ρ) = vs.map some) (hcall : ∀ args w, (callFunc f args).run P w = .ok (.enter f args) w) (hr : RetX P f (vs ++ cap).toArray (G :: B) Q) (hd : Nat.blt d nt = true) (hB : Bd w0 S0 B G)
    (hk : ∀ v G', HpLe G G' → Bd w0 S0 B G' → Q v G' → Cov nt w0 S0 df ((d, v) :: ρ) (G' :: B) bl sl K) : Cov nt w0 S0 df ρ (G :: B) bl sl K' :=
  Cov.callx (Fin := B) vs cap hs hf ha hcall hr hd (bd_cons hB bd_fin) fun v G' he hb' hq =>
    Cov.less (G' :: B) (fun F hF => by rcases List.mem_cons.1 hF with rfl | hF; exact List.mem_cons_self; exact List.mem_cons_of_mem _ (List.mem_cons_of_mem _ hF)) (hk v G' (ext_le he List.mem_cons_self) hb' hq)
theorem Cov.callLX (i : Nat) (vs cap : List Value) {d : Nat} {f : FuncId} {fop : Operand} {args : Array Operand} {ts : Array TypeId} {p : Nat × Obj} {Q : Value → Obj → Hp → Prop} (hs : Stp P K' ⟨some d, .call ⟨.value fop, args, ts⟩, ty, none⟩ K)
    (hf : ev ρ fop = some (.func (.func f) #[] cap.toArray)) (ha : args.toList.map (ev ρ) = vs.map some) (hcall : ∀ args w, (callFunc f args).run P w = .ok (.enter f args) w) (hp : bl[i]? = some p) (hr : RetLX P f (vs ++ cap).toArray (G :: B) p Q) (hd : Nat.blt d nt = true) (hB : Bd w0 S0 B G)
    (hk : ∀ v o' G', HpLe G G' → Bd w0 S0 B G' → Q v o' G' → Cov nt w0 S0 df ((d, v) :: ρ) (G' :: B) (bl.set i (p.1, o')) sl K) : Cov nt w0 S0 df ρ (G :: B) bl sl K' :=
  Cov.calllx (Fin := B) i vs cap hs hf ha hcall hp hr hd (bd_cons hB bd_fin) fun v o' G' he hb' hq =>
    Cov.less (G' :: B) (fun F hF => by rcases List.mem_cons.1 hF with rfl | hF; exact List.mem_cons_self; exact List.mem_cons_of_mem _ (List.mem_cons_of_mem _ hF)) (hk v o' G' (ext_le he List.mem_cons_self) hb' hq)

/-- append of what reads. -/
theorem Cov.appR (q : Nat) {Q : Rep α} {d : Nat} {t e : TypeId} {s x : Operand} {a a2 : Option Addr} {m m2 n : Nat} {l l2 l' : List α} {cs : List Value} {agg : Bool} {sz bytes : Nat} {z : List Value}
    (hs : Stp P K' ⟨some d, .call ⟨.builtin .append, #[s, x], #[t, t]⟩, ty, none⟩ K) (ht : slOf P t = some e) (hel : TyI P e agg sz bytes z) (hz : z.length = sz) (hsz : Nat.blt 0 sz = true) (hby : Nat.ble bytes 8388608 = true)
    (hi : sl[q]? = some (.s (.slice a l.length m) e sz l.length cs)) (hn : sz = Q.sz) (ho : OL Q G cs l) (he : ev ρ s = some (.slice a l.length m)) (hx : ev ρ x = some (.slice a2 n m2)) (h2 : SlR Q G a2 m2 l2) (hln : n = l2.length) (hG : G ∈ Fs) (hl : lapp l l2 = some l') (hd : Nat.blt d nt = true)
    (hk : ∀ a' m' cs', OL Q G cs' l' → Cov nt w0 S0 df ((d, .slice a' l'.length m') :: ρ) Fs bl (sl.set q (.s (.slice a' l'.length m') e sz l'.length cs')) K) : Cov nt w0 S0 df ρ Fs bl sl K' := by
  subst hn hln
  obtain ⟨hb, rfl⟩ := lapp_some hl
  obtain ⟨hb1, xs, rfl, h3, h4⟩ := ho
  obtain ⟨_, ys, h5, h6⟩ := h2
  have e1 : xs.length = l.length := h4.1
  have e2 : ys.length = l2.length := h6.1
  rw [← e1] at hi he
  rw [← e2] at hx h5
  refine Cov.append q xs ys id hs ht hel hz hsz hby (by simpa using hi) he hx (by simpa using h5) hG (fun c hc => ?_) (by omega) hd fun a' m' => ?_
  · obtain ⟨j, hj, rfl⟩ := List.getElem_of_mem hc
    exact Q.one (h6.2 j _ _ (List.getElem?_eq_getElem hj) (List.getElem?_eq_getElem (by omega)))
  · obtain ⟨_, _, _, _, h7, _⟩ := h5
    have hk' := hk a' m' (xs ++ ys).flatten ⟨by simp; omega, xs ++ ys, rfl, fun c hc => by rcases List.mem_append.1 hc with h | h; exact h3 c h; exact h7 c h, by simp [e1, e2], fun i c y hc hy => by
      rcases Nat.lt_or_ge i xs.length with h | h
      · rw [List.getElem?_append_left h] at hc
        rw [List.getElem?_append_left (by omega)] at hy
        exact h4.2 i c y hc hy
      · rw [List.getElem?_append_right h] at hc
        rw [List.getElem?_append_right (by omega), ← e1] at hy
        exact h6.2 _ c y hc hy⟩
    have e3 : (xs ++ ys).length = (l ++ l2).length := by simp [e1, e2]
    simpa [e1, e2] using hk'

/-- append of a slice of one's own, which lies first and is given up. -/
theorem Cov.appO (q : Nat) {Q : Rep α} {d : Nat} {t e : TypeId} {s x : Operand} {a a2 : Option Addr} {m m2 n T2 : Nat} {l l2 l' : List α} {cs cs2 : List Value} {agg : Bool} {sz bytes : Nat} {z : List Value}
    (hs : Stp P K' ⟨some d, .call ⟨.builtin .append, #[s, x], #[t, t]⟩, ty, none⟩ K) (ht : slOf P t = some e) (hel : TyI P e agg sz bytes z) (hz : z.length = sz) (hsz : Nat.blt 0 sz = true) (hby : Nat.ble bytes 8388608 = true)
    (hi2 : sl[0]? = some (.s (.slice a2 n m2) T2 sz n cs2)) (hi : sl[q + 1]? = some (.s (.slice a l.length m) e sz l.length cs)) (hn : sz = Q.sz) (ho : OL Q G cs l) (ho2 : OL Q G cs2 l2) (hln : n = l2.length) (he : ev ρ s = some (.slice a l.length m)) (hx : ev ρ x = some (.slice a2 n m2)) (hB : Bd w0 S0 B G) (hl : lapp l l2 = some l') (hd : Nat.blt d nt = true)
    (hk : ∀ a' m' cs', OL Q G cs' l' → Cov nt w0 S0 df ((d, .slice a' l'.length m') :: ρ) (G :: B) bl (sl.tail.set q (.s (.slice a' l'.length m') e sz l'.length cs')) K) : Cov nt w0 S0 df ρ (G :: B) bl sl K' := by
  subst hn hln
  obtain ⟨hb, rfl⟩ := lapp_some hl
  obtain ⟨hb1, xs, rfl, h3, h4⟩ := ho
  obtain ⟨_, ys, rfl, h5, h6⟩ := ho2
  have e1 : xs.length = l.length := h4.1
  have e2 : ys.length = l2.length := h6.1
  refine Cov.freezeS 0 ys hi2 rfl e2 h5 sl.tail (by cases sl <;> simp at hi2 ⊢) fun Gs hbs hss => ?_
  rw [← e1] at hi he
  rw [← e2] at hx hss
  have hi' : sl.tail[q]? = some (.s (.slice a xs.length m) e Q.sz xs.length (xs.map id).flatten) := by simpa using hi
  refine Cov.append q xs ys id hs ht hel hz hsz hby hi' he hx (by simpa using hss) List.mem_cons_self (fun c hc => ?_) (by omega) hd fun a' m' => ?_
  · obtain ⟨j, hj, rfl⟩ := List.getElem_of_mem hc
    exact Q.one (h6.2 j _ _ (List.getElem?_eq_getElem hj) (List.getElem?_eq_getElem (by omega)))
  · have hk' := hk a' m' (xs ++ ys).flatten ⟨by simp; omega, xs ++ ys, rfl, fun c hc => by rcases List.mem_append.1 hc with h | h; exact h3 c h; exact h5 c h, by simp [e1, e2], fun i c y hc hy => by
      rcases Nat.lt_or_ge i xs.length with h | h
      · rw [List.getElem?_append_left h] at hc
        rw [List.getElem?_append_left (by omega)] at hy
        exact h4.2 i c y hc hy
      · rw [List.getElem?_append_right h] at hc
        rw [List.getElem?_append_right (by omega), ← e1] at hy
        exact h6.2 _ c y hc hy⟩
    have e3 : (xs ++ ys).length = (l ++ l2).length := by simp [e1, e2]
    exact Cov.less (G :: B) (fun F hF => List.mem_cons_of_mem _ hF) (by simpa [e1, e2] using hk')

/-- A store into an element. -/
theorem Cov.storeR (q : Nat) (off : Nat) {Q : Rep α} {a : Option Addr} {m T sz : Nat} {l l' : List α} {cs dc : List Value} {i : Int} {y : α} {t : TypeId} {x u : Operand} {v p : Value} {agg : Bool} {bytes : Nat} {z : List Value} (hs : Stp P K' ⟨none, .store t x u, ty, none⟩ K)
    (hi : sl[q]? = some (.s (.slice a l.length m) T sz l.length cs)) (hn : sz = Q.sz) (ho : OL Q G cs l) (hl : lupd l i y = some l') (hx : ev ρ x = some p) (hp : PtrO p a l.length m i.toNat sz off) (hu : ev ρ u = some v) (ht : TyI P t agg (cellsL v).length bytes z) (hd : Elem sz cs i.toNat dc)
    (hy : Q.r G (dc.take off ++ cellsL v ++ dc.drop (off + (cellsL v).length)) y) (h1 : (cellsL v).all (·.oneCell') = true) (hfit : Nat.ble (off + (cellsL v).length) sz = true)
    (hk : ∀ cs', l'.length = l.length → OL Q G cs' l' → Cov nt w0 S0 df ρ Fs bl (sl.set q (.s (.slice a l'.length m) T sz l'.length cs')) K) : Cov nt w0 S0 df ρ Fs bl sl K' := by
  subst hn
  obtain ⟨hi0, hil, rfl⟩ := lupd_some hl
  obtain ⟨hb1, xs, rfl, h3, h4⟩ := ho
  have hfit' : off + (cellsL v).length ≤ Q.sz := by simpa [Nat.ble_eq] using hfit
  -- lists of cells of the right number
  have hxs : ∃ ys : List { c : List Value // c.length = Q.sz }, xs = ys.map (·.1) := ⟨xs.attach.map fun c => ⟨c.1, h3 _ c.2⟩, by simp⟩
  obtain ⟨ys, rfl⟩ := hxs
  have e1 : ys.length = l.length := by have := h4.1; simpa using this
  have hj : i.toNat < ys.length := by omega
  have hdc : (ys[i.toNat]).1 = dc := by
    apply List.ext_getElem?
    intro j
    rcases Nat.lt_or_ge j dc.length with h | h
    · have hjl : j < (ys[i.toNat]).1.length := by rw [(ys[i.toNat]).2, ← hd.1]; exact h
      have g1 := get_flatten (ys.map (·.1)) i.toNat (ys[i.toNat]).1 j _ h3 (by rw [List.getElem?_map, List.getElem?_eq_getElem hj]; rfl) (List.getElem?_eq_getElem hjl)
      have g2 := hd.2 j _ (List.getElem?_eq_getElem h)
      rw [g1] at g2
      rw [List.getElem?_eq_getElem hjl, g2, List.getElem?_eq_getElem h]
    · rw [List.getElem?_eq_none h, List.getElem?_eq_none (by rw [(ys[i.toNat]).2, ← hd.1]; exact h)]
  have hlen : (dc.take off ++ cellsL v ++ dc.drop (off + (cellsL v).length)).length = Q.sz := by
    simp only [List.length_append, List.length_take, List.length_drop, hd.1]; omega
  rw [← e1] at hi hp
  refine Cov.store_o q (ys[i.toNat]) (⟨_, hlen⟩ : { c : List Value // c.length = Q.sz }) off (f := fun c => c.1) hs hi hx hp hu ht h1 (fun c => c.2) hj hfit' ?_ _ rfl ?_
  · rw [show ys.getD i.toNat ys[i.toNat] = ys[i.toNat] from by rw [List.getD_eq_getElem?_getD, List.getElem?_eq_getElem hj]; rfl, hdc]
  · have hk' := hk ((ys.set i.toNat ⟨_, hlen⟩).map (·.1)).flatten List.length_set ⟨by simp; omega, _, rfl, fun c hc => by obtain ⟨c', _, rfl⟩ := List.mem_map.1 hc; exact c'.2, by simp [e1], fun j c x hc hx => by
      simp only [List.getElem?_map, List.getElem?_set] at hc hx
      by_cases hij : i.toNat = j
      · subst hij
        rw [if_pos rfl] at hc hx
        simp [hj, show i.toNat < l.length by omega] at hc hx
        subst hc hx
        simpa using hy
      · rw [if_neg hij] at hc hx
        exact h4.2 j c x (by rw [List.getElem?_map]; exact hc) hx⟩
    simpa [e1] using hk'

/-- make. -/
theorem Cov.makeR {Q : Rep α} {d : Nat} {t el : TypeId} {x y : Operand} {n : Int} {agg : Bool} {sz bytes : Nat} {z : List Value} {zx : α} {l : List α} (hs : Stp P K' ⟨some d, .makeSlice t x y, ty, none⟩ K) (ht : slOf P t = some el) (hel : TyI P el agg sz bytes z) (hn : sz = Q.sz) (hzl : z.length = sz) (hz1 : Nat.blt 0 sz = true) (hzf : Q.r G z zx)
    (hx : ev ρ x = some (.int .i64 n)) (hy : ev ρ y = some (.int .i64 n)) (hl : lmk n zx = some l) (hby : Nat.ble bytes 8388608 = true) (hd : Nat.blt d nt = true)
    (hk : ∀ b cs, w0.heap.size ≤ b → OL Q G cs l → Cov nt w0 S0 df ((d, .slice (some ⟨b, 0, none⟩) l.length l.length) :: ρ) Fs bl (.s (.slice (some ⟨b, 0, none⟩) l.length l.length) el sz l.length cs :: sl) K) : Cov nt w0 S0 df ρ Fs bl sl K' := by
  obtain ⟨h0, h1, rfl⟩ := lmk_some hl
  have hc : ((n.toNat : Nat) : Int) = n := by omega
  rw [← hc] at hx hy
  refine Cov.make zx (fun _ => z) hs ht hel hzl (by simpa [Nat.blt_eq] using hz1) rfl hx hy (by omega) hby hd fun b hb => ?_
  have hk' := hk b _ hb ⟨by simp; omega, List.replicate n.toNat z, rfl, fun c hc => by rw [(List.mem_replicate.1 hc).2, hzl, hn], by simp, fun i c x h2 h3 => by
    rw [List.getElem?_replicate] at h2 h3
    split at h2
    · rename_i hh; simp [hh] at h2 h3; subst h2 h3; exact hzf
    · cases h2⟩
  simpa using hk'

/-- A cut: what follows is walked once, for every state of a kind. -/
theorem Cov.cut {β : Type} (dyn : β → Env) (ρs : Env) (FsD : β → List Hp) (blD : β → Blks) (bls : Blks) (slD : β → List OwnS) (sls : List OwnS) (I : β → Prop) (hρ : Sub ρ ρs)
    (hk : ∀ y, I y → Cov nt w0 S0 df (dyn y ++ ρs) (FsD y) (blD y ++ bls) (slD y ++ sls) K) (h : (∀ y, I y → Cov nt w0 S0 df (dyn y ++ ρs) (FsD y) (blD y ++ bls) (slD y ++ sls) K) → Cov nt w0 S0 df ρ Fs bl sl K') : Cov nt w0 S0 df ρ Fs bl sl K' := h hk
end
end Go.Proofs.Ytbhmhindommaeaa
