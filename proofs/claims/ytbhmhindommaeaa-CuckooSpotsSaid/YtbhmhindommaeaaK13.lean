/-
  Arrays, literal slices, slices of one's own.
-/
import Derived.Test.YtbhmhindommaeaaK12
import Derived.Laws.OwnMore
namespace Go.Proofs.Ytbhmhindommaeaa
open Go.RowKit

def arOf (P : Program) (t : TypeId) : Option (Nat × TypeId) := match P.underlying t with
  | some (.array n e) => some (n, e)
  | _ => none

theorem arOf_spec {P : Program} {t el : TypeId} {n : Nat} (h : arOf P t = some (n, el)) : P.underlying t = some (.array n el) := by
  unfold arOf at h
  split at h
  · rename_i m e he; cases h; exact he
  · cases h

/-- The cells of parts of sz cells each, put in. -/
def fillF (sz : Nat) : List Value → List (Nat × Value) → Option (List Value)
  | cells, [] => some cells
  | cells, (i, v) :: rest => if v.cells.size ≠ sz || i * sz + v.cells.size > cells.length then none else fillF sz (cells.take (i * sz) ++ v.cells.toList ++ cells.drop (i * sz + v.cells.size)) rest

theorem fillF_eq (sz : Nat) : ∀ (parts : List (Nat × Value)) (cells : List Value), Instr.fill (fun i => some (i * sz, sz)) cells.toArray parts = (fillF sz cells parts).map List.toArray
  | [], cells => by simp [Instr.fill, fillF]
  | (i, v) :: rest, cells => by
    simp only [Instr.fill, fillF]
    simp only [List.size_toArray]
    split
    · simp
    · rename_i hh
      simp only [Bool.or_eq_true, decide_eq_true_eq, not_or, ne_eq, Decidable.not_not] at hh
      rw [← fillF_eq sz rest]
      congr 1
      have := fold_set v.cells.toList (i * sz) 0 cells.toArray (by simp; omega)
      rw [← Array.toList_inj]
      rw [← Array.foldl_toList]
      simpa using this

theorem fillF_length {sz : Nat} : ∀ {parts : List (Nat × Value)} {cells res : List Value}, fillF sz cells parts = some res → res.length = cells.length
  | [], cells, res, h => by simp only [fillF, Option.some.injEq] at h; rw [h]
  | (i, v) :: rest, cells, res, h => by
    simp only [fillF] at h
    split at h
    · cases h
    · rename_i hh
      simp only [Bool.or_eq_true, decide_eq_true_eq, not_or, ne_eq, Decidable.not_not] at hh
      rw [fillF_length h]
      simp; omega

def zerosL (z : List Value) (n : Nat) : List Value := (List.range n).map fun i => z.getD (i % z.length) undef

theorem zeros_eq (z : List Value) (n : Nat) (hz : 0 < z.length) : ((Array.range n).map (z.toArray[· % z.toArray.size]!)) = (zerosL z n).toArray := by
  rw [← Array.toList_inj]
  simp only [Array.toList_map, Array.toList_range, zerosL]
  refine List.map_congr_left fun i _ => ?_
  have h : i % z.length < z.length := Nat.mod_lt _ hz
  simp [List.getD_eq_getElem?_getD, h]

section
variable {P : Program} {c : Cx} {R : Value → World → Prop} {nt : Nat} {w0 : World} {S0 : List Nat} {df : List Deferred} {ρ ρ' : Env} {Fs Fs' Fin : List Hp} {bl bl' : Blks} {sl sl' : List OwnS}
  {K K' : Act → World → Prop} {k : List Item} {ty : TypeId}

theorem QOp.build_a (res : List Value) (vs : List (Nat × Value)) {t el : TypeId} {ps : Array (Nat × Operand)} {n sz s bytes : Nat} {agg : Bool} {z : List Value} (ht : TyI P t agg s bytes z) (har : arOf P t = some (n, el)) (hel : szOf P el = some sz)
    (hv : ps.toList.map (fun p => (ev ρ p.2).map (p.1, ·)) = vs.map some) (hres : fillF sz z vs = some res) : QOp P ρ Fs bl sl (.build t ps) ty (.agg res.toArray) := .of fun e he w _ => by
  have hps : (ps.map fun p => (p.1, e p.2)) = vs.toArray := by
    rw [← Array.toList_inj]; simpa using map_ev he _ _ hv
  refine run_v (s := Instr.build t (ps.map fun (i, x) => (i, e x))) ?_
  rw [show (ps.map fun (i, x) => (i, e x)) = vs.toArray from hps]
  obtain ⟨zv, hz1, hz2⟩ := run_zero ht.z w
  unfold Instr.build
  rw [Sem.run_bind, hz1]
  simp only [Result.andThen_ok]
  rw [Sem.run_bind, run_underlying (arOf_spec har)]
  simp only [Result.andThen_ok]
  rw [Sem.run_bind, run_sizeOf hel]
  simp only [Result.andThen_ok, hz2]
  rw [fillF_eq sz vs z, hres]
  rfl

/-- The address of an array's element. -/
theorem QOp.indexAddr_ar (o' : Nat) {t el : TypeId} {x i : Operand} {k : IntKind} {n : Int} {b o m sz : Nat} (hx : ev ρ x = some (.pointer (some ⟨b, o, none⟩))) (hi : ev ρ i = some (.int k n)) (ht : arOf P t = some (m, el)) (hz : szOf P el = some sz)
    (h0 : 0 ≤ n) (h1 : n < (m : Int)) (ho : o + n.toNat * sz = o') : QOp P ρ Fs bl sl (.indexAddr t x i) ty (.pointer (some ⟨b, o', none⟩)) := .of fun e he w _ => by
  refine run_v (s := Instr.indexAt t (e x) (e i)) ?_
  rw [he x _ hx, he i _ hi, ← ho]
  unfold Instr.indexAt
  simp only [asIntOf, Sem.run_bind, Sem.run_pure, Result.andThen_ok, run_underlying (arOf_spec ht), Instr.sureAddr]
  simp [h0, h1, run_sizeOf hz, addr_add]

/-- An array's element. -/
theorem QOp.index_ar {t el : TypeId} {x i : Operand} {k : IntKind} {n : Int} {m sz bytes : Nat} {cs z : List Value} {v : Value} (hx : ev ρ x = some (.agg cs.toArray)) (hi : ev ρ i = some (.int k n)) (ht : arOf P t = some (m, el)) (hel : TyI P el false sz bytes z)
    (h0 : 0 ≤ n) (h1 : n < (m : Int)) (hv : cs[n.toNat * sz]? = some v) : QOp P ρ Fs bl sl (.index t x i) ty v := .of fun e he w _ => by
  refine run_v (s := Instr.index t (e x) (e i)) ?_
  rw [he x _ hx, he i _ hi]
  unfold Instr.index
  simp only [asIntOf, Sem.run_bind, Sem.run_pure, Result.andThen_ok, run_underlying (arOf_spec ht)]
  simp only [h0, h1, and_self, if_true]
  rw [Sem.run_bind, run_sizeOf hel.sz]
  simp only [Result.andThen_ok]
  unfold part
  rw [Sem.run_bind, run_isAgg hel.agg]
  simp [hv]
theorem QOp.index_ar_a (l : List Value) {t el : TypeId} {x i : Operand} {k : IntKind} {n : Int} {m bytes : Nat} {cs z : List Value} (hx : ev ρ x = some (.agg cs.toArray)) (hi : ev ρ i = some (.int k n)) (ht : arOf P t = some (m, el)) (hel : TyI P el true l.length bytes z)
    (h0 : 0 ≤ n) (h1 : n < (m : Int)) (hv : (cs.drop (n.toNat * l.length)).take l.length = l) : QOp P ρ Fs bl sl (.index t x i) ty (.agg l.toArray) := .of fun e he w _ => by
  refine run_v (s := Instr.index t (e x) (e i)) ?_
  rw [he x _ hx, he i _ hi]
  unfold Instr.index
  simp only [asIntOf, Sem.run_bind, Sem.run_pure, Result.andThen_ok, run_underlying (arOf_spec ht)]
  simp only [h0, h1, and_self, if_true]
  rw [Sem.run_bind, run_sizeOf hel.sz]
  simp only [Result.andThen_ok]
  unfold part
  rw [Sem.run_bind, run_isAgg hel.agg]
  simp only [Result.andThen_ok, if_true]
  rw [Sem.run_bind, run_sizeOf hel.sz]
  simp only [Result.andThen_ok, Sem.run_pure]
  congr 2
  rw [← Array.toList_inj]
  simp only [Array.toList_extract, List.extract_eq_take_drop]
  rw [show n.toNat * l.length + l.length - n.toNat * l.length = l.length from by omega]
  exact hv

theorem Inv.alloc_s {w : World} (h : Inv w0 S0 Fs bl sl w) (o : Obj) (s : OwnS) (hv : s.blocks = [w.heap.size]) (hs : s.holds (w.alloc o)) : Inv w0 S0 Fs bl (s :: sl) (w.alloc o) := by
  have hlt : ∀ b ∈ blks bl sl, b < w.heap.size := fun b hb => blks_lt h.mem hb
  have hmem : ∀ b, b ∈ blks bl (s :: sl) ↔ b = w.heap.size ∨ b ∈ blks bl sl := fun b => by
    simp only [blks, List.flatMap_cons, hv, List.mem_append, List.mem_cons, List.not_mem_nil, or_false]
    constructor
    · rintro (h | h | h) <;> simp [h]
    · rintro (h | h | h) <;> simp [h]
  refine h.change [] (by simp) (Keep.alloc w o) (fun G hG => .inl hG) (fun p hp => ?_) (fun t ht => ?_) ?_ (fun b hb => ?_)
  · rw [Below.heap_alloc w o p.1 (own_lt (h.mem.own p hp))]; exact h.mem.own p hp
  · rcases List.mem_cons.1 ht with rfl | ht
    · exact hs
    · exact OwnS.same (h.mem.slh t ht) fun b hb => Below.heap_alloc w o b (OwnS.lt (h.mem.slh t ht) b hb)
  · have : (blks bl (s :: sl)).Perm (w.heap.size :: blks bl sl) := by
      simp only [blks, List.flatMap_cons, hv]
      exact List.perm_middle
    rw [this.nodup_iff, List.nodup_cons]
    exact ⟨fun hm => Nat.lt_irrefl _ (hlt _ hm), h.nodup⟩
  · rcases (hmem b).1 hb with rfl | hb
    · exact .inr (Nat.le_refl _)
    · exact .inl hb

/-- A literal slice: the call's own. -/
theorem Cov.lit (cs : List Value) (vs : List (Nat × Value)) {d : Nat} {t el : TypeId} {n : Nat} {ps : Array (Nat × Operand)} {agg : Bool} {sz bytes : Nat} {z : List Value} (hs : Stp P K' ⟨some d, .buildSlice t n ps, ty, none⟩ K) (ht : slOf P t = some el) (hel : TyI P el agg sz bytes z)
    (hv : ps.toList.map (fun p => (ev ρ p.2).map (p.1, ·)) = vs.map some) (hcs : fillF sz (zerosL z (n * sz)) vs = some cs) (hz : Nat.blt 0 z.length = true) (hn : Nat.ble n 100 = true) (hsz : Nat.ble sz 1000 = true) (hd : Nat.blt d nt = true)
    (hk : ∀ b, w0.heap.size ≤ b → Cov nt w0 S0 df ((d, .slice (some ⟨b, 0, none⟩) n n) :: ρ) Fs bl (.s (.slice (some ⟨b, 0, none⟩) n n) el sz n cs :: sl) K) : Cov nt w0 S0 df ρ Fs bl sl K' := fun a w hf hi => by
  have hz' : 0 < z.length := by simpa [Nat.blt_eq] using hz
  have hn' : n ≤ 100 := by simpa [Nat.ble_eq] using hn
  have hsz' : sz ≤ 1000 := by simpa [Nat.ble_eq] using hsz
  have hmul : n * sz ≤ 100 * 1000 := Nat.mul_le_mul hn' hsz'
  have hlen : cs.length = n * sz := by rw [fillF_length hcs]; simp [zerosL]
  refine hs a w ?_
  unfold Oper.wp
  have hps : (ps.map fun p => (p.1, a.eval p.2)) = vs.toArray := by
    rw [← Array.toList_inj]; simpa using map_ev (fun x u hx => ev_sound hf hx) _ _ hv
  have hrun : (execOp a.eval (⟨some d, .buildSlice t n ps, ty, none⟩ : OpX).oper).run P w = .ok (.value (.slice (some ⟨w.heap.size, 0, none⟩) n n)) (w.alloc (.cells cs.toArray el)) := by
    simp only [OpX.oper, execOp]
    rw [show (ps.map fun (i, x) => (i, a.eval x)) = vs.toArray from hps]
    refine run_v ?_
    obtain ⟨zv, hz1, hz2⟩ := run_zero hel.z w
    unfold Instr.buildSlice
    rw [Sem.run_bind, run_underlying (slOf_spec ht)]
    simp only [Result.andThen_ok]
    rw [Sem.run_bind, run_sizeOf hel.sz]
    simp only [Result.andThen_ok]
    have hlim : ¬ (n * sz > 2 ^ 24) := Nat.not_lt.2 (Nat.le_trans hmul (by decide))
    rw [if_neg hlim]
    by_cases h0 : n * sz = 0
    · rw [if_pos h0]
      rw [Sem.run_bind, Sem.run_pure]
      simp only [Result.andThen_ok]
      have : ((Array.range (n * sz)).map ((#[] : Array Value)[· % (#[] : Array Value).size]!)) = (zerosL z (n * sz)).toArray := by
        rw [h0]; simp [zerosL]
      rw [this, fillF_eq sz vs _, hcs]
      simp [newRow]
    · rw [if_neg h0]
      rw [Sem.run_bind, hz1]
      simp only [Result.andThen_ok, hz2]
      rw [Sem.run_bind, Sem.run_pure]
      simp only [Result.andThen_ok]
      rw [zeros_eq z _ hz', fillF_eq sz vs _, hcs]
      simp [newRow]
  rw [hrun]
  refine hk _ hi.keep.size _ _ (hf.put hd _) (hi.alloc_s _ _ rfl ?_)
  have := World.ownsRow_lit (base := 0) (e := el) (size := sz) w cs.toArray n (Nat.zero_le _) (by simp only [maxLen]; omega) (by simpa using hlen)
  simpa [OwnS.holds] using this

/-- nil, as a slice of one's own. -/
theorem Cov.own_nil (T : TypeId) (sz : Nat) (h : Cov nt w0 S0 df ρ Fs bl (.s (.slice none 0 0) T sz 0 [] :: sl) K) : Cov nt w0 S0 df ρ Fs bl sl K := fun a w hf hi => by
  have hb : blks bl (.s (.slice none 0 0) T sz 0 [] :: sl) = blks bl sl := by simp [blks, OwnS.blocks, Value.ownBlock]
  refine h a w hf (hi.change [] (by simp) (Keep.refl w []) (fun G hG => .inl hG) hi.mem.own (fun s hs => ?_) (by rw [hb]; exact hi.nodup) (fun b hx => .inl (by rwa [hb] at hx)))
  rcases List.mem_cons.1 hs with rfl | hs
  · exact World.ownsRow_nil w 0 T sz
  · exact hi.mem.slh s hs

theorem get_flatten {sz : Nat} : ∀ (xss : List (List Value)) (i : Nat) (x : List Value) (j : Nat) (v : Value), (∀ x ∈ xss, x.length = sz) → xss[i]? = some x → x[j]? = some v → xss.flatten[i * sz + j]? = some v
  | [], i, x, j, v, _, hi, _ => by simp at hi
  | y :: xss, 0, x, j, v, h, hi, hj => by
    simp only [List.getElem?_cons_zero, Option.some.injEq] at hi
    subst hi
    simp only [List.flatten_cons, Nat.zero_mul, Nat.zero_add]
    have : j < y.length := by rcases Nat.lt_or_ge j y.length with h | h; exact h; rw [List.getElem?_eq_none h] at hj; cases hj
    rw [List.getElem?_append_left this]; exact hj
  | y :: xss, i + 1, x, j, v, h, hi, hj => by
    simp only [List.getElem?_cons_succ] at hi
    have hy := h y List.mem_cons_self
    simp only [List.flatten_cons]
    rw [List.getElem?_append_right (by rw [hy, Nat.add_mul]; omega)]
    rw [hy, show (i + 1) * sz + j - sz = i * sz + j from by rw [Nat.add_mul]; omega]
    exact get_flatten xss i x j v (fun x hx => h x (List.mem_cons_of_mem _ hx)) hi hj

/-- What the heaps hold is new, or was there. -/
def Bd (w0 : World) (S0 : List Nat) (Fin : List Hp) (G : Hp) : Prop := ∀ b o, G b = some o → w0.heap.size ≤ b ∨ b ∈ S0 ∨ ∃ F ∈ Fin, F b = some o
/-- G' holds what the heaps hold. -/
def Ext (Fs : List Hp) (G' : Hp) : Prop := ∀ G ∈ Fs, ∀ b o, G b = some o → G' b = some o

theorem Bd.fin {G : Hp} (h : G ∈ Fin) : Bd w0 S0 Fin G := fun _ _ hb => .inr (.inr ⟨G, h, hb⟩)
theorem Bd.fresh {G : Hp} (h : Fresh w0 G) : Bd w0 S0 Fin G := fun b o hb => .inl (h b o hb)
theorem bd_fin : ∀ G ∈ Fin, Bd w0 S0 Fin G := fun _ h => .fin h
theorem bd_cons {G : Hp} (h : Bd w0 S0 Fin G) (hs : ∀ G ∈ Fs, Bd w0 S0 Fin G) : ∀ G' ∈ G :: Fs, Bd w0 S0 Fin G' := fun G' hG => by
  rcases List.mem_cons.1 hG with rfl | hG
  · exact h
  · exact hs _ hG

/-- One heap that holds what all hold. -/
theorem Cov.union (hbd : ∀ G ∈ Fs, Bd w0 S0 Fin G) (hk : ∀ G', Ext Fs G' → Bd w0 S0 Fin G' → Cov nt w0 S0 df ρ (G' :: Fs) bl sl K) : Cov nt w0 S0 df ρ Fs bl sl K := fun a w hf hi => by
  classical
  let G' : Hp := fun b => if ∃ G ∈ Fs, (G b).isSome then w.heap[b]? else none
  have h1 : Ext Fs G' := fun G hG b o hb => by
    show (if _ then _ else _) = _
    rw [if_pos ⟨G, hG, by rw [hb]; rfl⟩]
    exact hi.mem.fs G hG b o hb
  have h2 : ∀ b o, G' b = some o → ∃ G ∈ Fs, G b = some o := fun b o hb => by
    have hb' : (if ∃ G ∈ Fs, (G b).isSome then w.heap[b]? else none) = some o := hb
    split at hb'
    · rename_i he
      obtain ⟨G, hG, hs⟩ := he
      obtain ⟨o', ho'⟩ := Option.isSome_iff_exists.1 hs
      have := hi.mem.fs G hG b o' ho'
      rw [this] at hb'
      cases hb'
      exact ⟨G, hG, ho'⟩
    · cases hb'
  refine hk G' h1 (fun b o hb => ?_) a w hf (hi.change [] (by simp) (Keep.refl w []) (fun G hG => ?_) hi.mem.own hi.mem.slh hi.nodup (fun b hb => .inl hb))
  · obtain ⟨G, hG, hg⟩ := h2 b o hb
    exact hbd G hG b o hg
  · rcases List.mem_cons.1 hG with rfl | hG
    · refine .inr ⟨fun b o hb => ?_, fun b hb => ?_⟩
      · obtain ⟨G, hG, hg⟩ := h2 b o hb
        exact hi.mem.fs G hG b o hg
      · cases hg : G' b with
        | none => rfl
        | some o =>
          obtain ⟨G, hG, hg'⟩ := h2 b o hg
          rw [hi.apart b hb G hG] at hg'
          cases hg'
    · exact .inl hG

/-- A slice of one's own that is not written any more. -/
theorem Cov.freezeS (i : Nat) (xss : List (List Value)) {v : Value} {T : TypeId} {sz n : Nat} {cs : List Value} (hs : sl[i]? = some (.s v T sz n cs)) (hx : cs = xss.flatten) (hn : xss.length = n) (hsz : ∀ x ∈ xss, x.length = sz) (sl' : List OwnS) (hsl : sl.eraseIdx i = sl')
    (hk : ∀ G, (∀ Fin, Bd w0 S0 Fin G) → Sl G sz v xss → Cov nt w0 S0 df ρ (G :: Fs) bl sl' K) : Cov nt w0 S0 df ρ Fs bl sl K := fun a w hf hi => by
  subst hsl hx hn
  have hsm : OwnS.s v T sz xss.length xss.flatten ∈ sl := List.mem_of_getElem? hs
  have hperm := perm_erase sl i _ hs
  have hsub : (blks bl (sl.eraseIdx i)).Sublist (blks bl sl) := (List.Sublist.refl _).append (flatMap_sub _ (List.eraseIdx_sublist sl i))
  have key : ∀ G : Hp, (∀ Fin, Bd w0 S0 Fin G) → Sl G sz v xss → HpIn G w → (∀ b ∈ blks bl (sl.eraseIdx i), G b = none) → K a w := fun G h1 h2 h3 h4 => by
    refine hk G h1 h2 a w hf (hi.change [] (by simp) (Keep.refl w []) (fun G' hG => ?_) hi.mem.own (fun s h => hi.mem.slh s (List.mem_of_mem_eraseIdx h)) (hi.nodup.sublist hsub) (fun b hb => .inl (hsub.subset hb)))
    rcases List.mem_cons.1 hG with rfl | hG
    · exact .inr ⟨h3, h4⟩
    · exact .inl hG
  have hh : w.ownsRow 0 T sz v xss.length xss.flatten := hi.mem.slh _ hsm
  rcases hh.2 with ⟨rfl, hn0⟩ | ⟨g, cap, cur, rfl, _, hg, hnc, _, hcs, htake⟩
  · have : xss = [] := List.eq_nil_of_length_eq_zero hn0
    subst this
    exact key empHp (fun _ _ _ h => by simp [empHp] at h) (Sl.nil _ _) (fun _ _ h => by simp [empHp] at h) (fun _ _ => rfl)
  · have hblk : g ∈ blks bl sl := List.mem_append_right _ (List.mem_flatMap.2 ⟨_, hsm, by simp [OwnS.blocks, Value.ownBlock]⟩)
    have hp2 : (blks bl sl).Perm (g :: blks bl (sl.eraseIdx i)) := by
      have h1 := (hperm.flatMap_right OwnS.blocks).append_left (bl.map (·.1))
      refine h1.trans ?_
      simp only [List.flatMap_cons, OwnS.blocks, Value.ownBlock, Option.toList]
      exact List.perm_middle
    have hnd := List.nodup_cons.1 (hp2.nodup_iff.1 hi.nodup)
    refine key (single g (.cells cur T (0, 0))) (fun Fin b o hb => ?_) ⟨some ⟨g, 0, none⟩, cap, rfl, hnc, hsz, fun _ => ⟨g, 0, rfl, fun j x hj m u hm => ?_⟩⟩ (fun b o hb => ?_) (fun b hb => ?_)
    · unfold single at hb
      split at hb
      · rename_i e
        subst e
        rcases hi.mine b hblk with h | h
        · exact .inr (.inl h)
        · exact .inl h
      · cases hb
    · have h1 := get_flatten xss j x m u hsz hj hm
      have hlt : j < xss.length := by rcases Nat.lt_or_ge j xss.length with h | h; exact h; rw [List.getElem?_eq_none h] at hj; cases hj
      have hx := hsz x (List.mem_of_getElem? hj)
      have hlm : m < x.length := by rcases Nat.lt_or_ge m x.length with h | h; exact h; rw [List.getElem?_eq_none h] at hm; cases hm
      have hlt2 : j * sz + m < xss.length * sz := by
        have : (j + 1) * sz ≤ xss.length * sz := Nat.mul_le_mul_right _ hlt
        rw [Nat.add_mul] at this
        omega
      rw [← htake, List.getElem?_take_of_lt hlt2] at h1
      simp only [rcell, single, if_true, Nat.zero_add]
      simpa using h1
    · unfold single at hb
      split at hb
      · rename_i e; subst e; cases hb; exact hg
      · cases hb
    · unfold single
      rw [if_neg]
      rintro rfl
      exact hnd.1 hb

/-- The same, said by a list. -/
theorem Cov.freeze_m {α : Type} (i : Nat) (l : List α) (f : α → List Value) {v : Value} {T : TypeId} {sz n : Nat} {cs : List Value} (hs : sl[i]? = some (.s v T sz n cs)) (hx : cs = (l.map f).flatten) (hn : l.length = n) (hsz : ∀ x, (f x).length = sz) (sl' : List OwnS) (hsl : sl.eraseIdx i = sl')
    (hk : ∀ G, (∀ Fin, Bd w0 S0 Fin G) → Sl G sz v (l.map f) → Cov nt w0 S0 df ρ (G :: Fs) bl sl' K) : Cov nt w0 S0 df ρ Fs bl sl K :=
  Cov.freezeS i (l.map f) hs hx (by simpa using hn) (fun x hx => by obtain ⟨y, _, rfl⟩ := List.mem_map.1 hx; exact hsz y) sl' hsl hk
end
end Go.Proofs.Ytbhmhindommaeaa
