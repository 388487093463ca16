/-
  Slices of one's own whose elements are slices of one's own: the inner ones lie in a pack.
-/
import Derived.Test.YtbhmhindommaeaaL14
namespace Go.Proofs.Ytbhmhindommaeaa
open Go.RowKit

/-- An inner slice. -/
structure NE where
  a : Option Addr
  n : Nat
  k : Nat
  cs : List Value
def NE.nil : NE := ⟨none, 0, 0, []⟩
def NE.h (e : NE) : Option Addr × Nat × Nat := (e.a, e.n, e.k)
def NE.s (T : TypeId) (m : Nat) (e : NE) : OwnS := .s (.slice e.a e.n e.k) T m e.n e.cs
def nblks (T : TypeId) (m : Nat) (es : List NE) : List Nat := es.flatMap fun e => (e.s T m).blocks

/-- The inner slices, together. -/
def packG (T : TypeId) (m : Nat) (es : List NE) : Guest where
  blks := if (nblks T m es).Nodup then nblks T m es else []
  nodup := by split; assumption; simp
  holds w := (nblks T m es).Nodup ∧ ∀ e ∈ es, (e.s T m).holds w
  lt w h b hb := by
    rw [if_pos h.1] at hb
    obtain ⟨e, he, hb⟩ := List.mem_flatMap.1 hb
    exact OwnS.lt (h.2 e he) b hb
  same w w' h hs := ⟨h.1, fun e he => OwnS.same (h.2 e he) fun b hb => hs b (by rw [if_pos h.1]; exact List.mem_flatMap.2 ⟨e, he, hb⟩)⟩

/-- A header in a cell. -/
def Rep.hdr : Rep (Option Addr × Nat × Nat) where
  sz := 1
  r _ c x := c = [.slice x.1 x.2.1 x.2.2]
  len h := by rw [h]; rfl
  mono _ h := h
  one h := by rw [h]; rfl

/-- cs: the headers of es, which read as x. -/
def NL {α : Type} (Q : Rep α) (G : Hp) (es : List NE) (cs : List Value) (x : List (List α)) : Prop :=
  OL Rep.hdr G cs (es.map NE.h) ∧ es.length = x.length ∧ ∀ (i : Nat) (e : NE) (y : List α), es[i]? = some e → x[i]? = some y → e.n = y.length ∧ OL Q G e.cs y

theorem NL.mono {α : Type} {Q : Rep α} {G G' : Hp} {es : List NE} {cs : List Value} {x : List (List α)} (hg : HpLe G G') (h : NL Q G es cs x) : NL Q G' es cs x :=
  ⟨h.1.mono hg, h.2.1, fun i e y h1 h2 => ⟨(h.2.2 i e y h1 h2).1, (h.2.2 i e y h1 h2).2.mono hg⟩⟩
theorem Rep.flat_hdr : Rep.hdr.flat := fun _ _ _ _ h => h
theorem NL.flat {α : Type} {Q : Rep α} (hf : Q.flat) {G G' : Hp} {es : List NE} {cs : List Value} {x : List (List α)} (h : NL Q G' es cs x) : NL Q G es cs x :=
  ⟨OL.flat Rep.flat_hdr h.1, h.2.1, fun i e y h1 h2 => ⟨(h.2.2 i e y h1 h2).1, OL.flat hf (h.2.2 i e y h1 h2).2⟩⟩
theorem NL.len' {α : Type} {Q : Rep α} {G : Hp} {es : List NE} {cs : List Value} {x : List (List α)} (h : NL Q G es cs x) : x.length ≤ 9223372036854775807 := by
  have := h.1.len'; rw [List.length_map, h.2.1] at this; exact this

theorem NL.get {α : Type} {Q : Rep α} {G : Hp} {es : List NE} {cs : List Value} {x : List (List α)} (h : NL Q G es cs x) {i : Int} {y : List α} (hx : lidx x i = some y) :
    ∃ e, es[i.toNat]? = some e ∧ e.n = y.length ∧ OL Q G e.cs y ∧ Elem 1 cs i.toNat [.slice e.a y.length e.k] := by
  obtain ⟨h3, h4, h5⟩ := lidx_some hx
  have hlt : i.toNat < es.length := by rw [h.2.1]; omega
  have he : es[i.toNat]? = some es[i.toNat] := List.getElem?_eq_getElem hlt
  obtain ⟨hn, ho⟩ := h.2.2 _ _ _ he h5
  refine ⟨es[i.toNat], he, hn, ho, ?_⟩
  obtain ⟨c, hc1, hc2⟩ := h.1.get (i := i) (x := es[i.toNat].h) (by
    unfold lidx
    rw [if_pos h3, List.getElem?_map, he]; rfl)
  have : c = [.slice es[i.toNat].a es[i.toNat].n es[i.toNat].k] := hc2
  rw [this, hn] at hc1
  exact hc1

section
variable {P : Program} {c : Cx} {R : Value → World → Prop} {nt : Nat} {w0 : World} {S0 : List Nat} {df : List Deferred} {ρ ρ' : Env} {Fs Fs' Fin B : List Hp} {bl bl' : Blks} {sl sl' : List OwnS}
  {K K' : Act → World → Prop} {k : List Item} {ty : TypeId} {α : Type} {G : Hp}

/-- What an inner slice alone shows. -/
theorem QOp.inN (q : Nat) {T : TypeId} {m : Nat} {es : List NE} {i : Nat} {e : NE} {n : Nat} {op : Op} {v : Value} (hs : sl[q]? = some (.g (packG T m es))) (he : es[i]? = some e) (hn : e.n = n)
    (h : QOp P ρ Fs bl [.s (.slice e.a n e.k) T m n e.cs] op ty v) : QOp P ρ Fs bl sl op ty v := fun nt df a w hf hm => by
  subst hn
  refine h nt df a w hf ⟨hm.fs, hm.own, fun s hs' => ?_⟩
  rw [List.mem_singleton.1 hs']
  exact (hm.slh _ (List.mem_of_getElem? hs)).2 e (List.mem_of_getElem? he)

theorem nil_s (T : TypeId) (m : Nat) : (NE.nil.s T m).blocks = [] := rfl
theorem nil_holds (w : World) (T : TypeId) (m : Nat) : (NE.nil.s T m).holds w := World.ownsRow_nil w 0 T m

theorem nblks_set (T : TypeId) (m : Nat) : ∀ (es : List NE) (i : Nat) (e e' : NE), es[i]? = some e → ((nblks T m (es.set i e')) ++ (e.s T m).blocks).Perm ((e'.s T m).blocks ++ nblks T m es)
  | [], i, e, e', h => by simp at h
  | x :: es, 0, e, e', h => by
    simp at h; subst h
    simp only [List.set_cons_zero, nblks, List.flatMap_cons]
    rw [List.append_assoc]
    exact List.Perm.append_left _ List.perm_append_comm
  | x :: es, i + 1, e, e', h => by
    have ih := nblks_set T m es i e e' (by simpa using h)
    simp only [List.set_cons_succ, nblks, List.flatMap_cons] at ih ⊢
    rw [List.append_assoc]
    exact (ih.append_left _).trans (List.perm_append_comm_assoc _ _ _)

/-- One inner slice, taken out. -/
theorem Cov.takeN (q : Nat) {T : TypeId} {m : Nat} {es : List NE} {i : Nat} {e : NE} {n : Nat} (hs : sl[q]? = some (.g (packG T m es))) (he : es[i]? = some e) (hn : e.n = n)
    (h : Cov nt w0 S0 df ρ Fs bl (.s (.slice e.a n e.k) T m n e.cs :: sl.set q (.g (packG T m (es.set i NE.nil)))) K) : Cov nt w0 S0 df ρ Fs bl sl K := fun aa w hf hi => by
  subst hn
  have hh : (packG T m es).holds w := hi.mem.slh _ (List.mem_of_getElem? hs)
  have hp := nblks_set T m es i e NE.nil he
  rw [nil_s, List.nil_append] at hp
  have hnd := hp.nodup_iff.2 hh.1
  have hnd2 := List.nodup_append.1 hnd
  have hb1 : (packG T m es).blks = nblks T m es := if_pos hh.1
  have hb2 : (packG T m (es.set i NE.nil)).blks = nblks T m (es.set i NE.nil) := if_pos hnd2.1
  have hp1 : (blks bl sl).Perm ((packG T m es).blks ++ blks bl (sl.eraseIdx q)) := by
    have h1 := ((perm_erase sl q _ hs).flatMap_right OwnS.blocks).append_left (bl.map (·.1))
    refine h1.trans ?_
    simp only [List.flatMap_cons, blks]
    exact List.perm_append_comm_assoc _ _ _
  have hp2 : (blks bl (.s (.slice e.a e.n e.k) T m e.n e.cs :: sl.set q (.g (packG T m (es.set i NE.nil))))).Perm (blks bl sl) := by
    refine List.Perm.trans ?_ hp1.symm
    simp only [blks, List.flatMap_cons]
    have h1 := (set_perm_flat OwnS.blocks sl q _ (.g (packG T m (es.set i NE.nil))) hs).append_left ((e.s T m).blocks)
    have h2 : ((e.s T m).blocks ++ (OwnS.blocks (.g (packG T m (es.set i NE.nil))) ++ (sl.eraseIdx q).flatMap OwnS.blocks)).Perm ((packG T m es).blks ++ (sl.eraseIdx q).flatMap OwnS.blocks) := by
      rw [← List.append_assoc]
      refine List.Perm.append_right _ ?_
      show ((e.s T m).blocks ++ (packG T m (es.set i NE.nil)).blks).Perm _
      rw [hb1, hb2]
      exact List.perm_append_comm.trans hp
    exact ((h1.trans h2).append_left _).trans (List.perm_append_comm_assoc _ _ _)
  refine h aa w hf (hi.change [] (by simp) (Keep.refl w []) (fun G hG => .inl hG) hi.mem.own (fun s hs' => ?_) (hp2.nodup_iff.2 hi.nodup) (fun b hb => .inl (hp2.mem_iff.1 hb)))
  rcases List.mem_cons.1 hs' with rfl | hs'
  · exact hh.2 e (List.mem_of_getElem? he)
  · obtain ⟨j, hj, rfl⟩ := List.getElem_of_mem hs'
    rw [List.getElem_set]
    split
    · refine ⟨hnd2.1, fun x hx => ?_⟩
      rcases List.mem_or_eq_of_mem_set hx with hx | rfl
      · exact hh.2 x hx
      · exact nil_holds w T m
    · exact hi.mem.slh _ (List.getElem_mem (by simpa using hj))

/-- An inner slice, put back, or in. -/
theorem Cov.putN (q : Nat) {T : TypeId} {m : Nat} {es : List NE} {i : Nat} {a : Option Addr} {n kk : Nat} {cs : List Value} {s2 : List OwnS} (hsl : sl = .s (.slice a n kk) T m n cs :: s2) (hs : s2[q]? = some (.g (packG T m es))) (he : es[i]? = some NE.nil)
    (h : Cov nt w0 S0 df ρ Fs bl (s2.set q (.g (packG T m (es.set i ⟨a, n, kk, cs⟩)))) K) : Cov nt w0 S0 df ρ Fs bl sl K := fun aa w hf hi => by
  subst hsl
  have hh : (packG T m es).holds w := hi.mem.slh _ (List.mem_cons_of_mem _ (List.mem_of_getElem? hs))
  have ho : (OwnS.s (.slice a n kk) T m n cs).holds w := hi.mem.slh _ List.mem_cons_self
  have hp := nblks_set T m es i NE.nil ⟨a, n, kk, cs⟩ he
  rw [nil_s, List.append_nil] at hp
  have hb1 : (packG T m es).blks = nblks T m es := if_pos hh.1
  have hq : (blks bl (.s (.slice a n kk) T m n cs :: s2)).Perm (nblks T m (es.set i ⟨a, n, kk, cs⟩) ++ blks bl (s2.eraseIdx q)) := by
    simp only [blks, List.flatMap_cons]
    have h1 := ((perm_erase s2 q _ hs).flatMap_right OwnS.blocks).append_left ((OwnS.s (.slice a n kk) T m n cs).blocks)
    simp only [List.flatMap_cons] at h1
    rw [← List.append_assoc (OwnS.blocks _) (OwnS.blocks (.g (packG T m es)))] at h1
    have h2 : ((OwnS.s (.slice a n kk) T m n cs).blocks ++ OwnS.blocks (.g (packG T m es))).Perm (nblks T m (es.set i ⟨a, n, kk, cs⟩)) := by
      show (_ ++ (packG T m es).blks).Perm _
      rw [hb1]; exact hp.symm
    exact ((h1.trans (h2.append_right _)).append_left _).trans (List.perm_append_comm_assoc _ _ _)
  have hnd := hq.nodup_iff.1 hi.nodup
  have hnd1 := (List.nodup_append.1 hnd).1
  have hb2 : (packG T m (es.set i ⟨a, n, kk, cs⟩)).blks = nblks T m (es.set i ⟨a, n, kk, cs⟩) := if_pos hnd1
  have hp2 : (blks bl (s2.set q (.g (packG T m (es.set i ⟨a, n, kk, cs⟩))))).Perm (blks bl (.s (.slice a n kk) T m n cs :: s2)) := by
    refine List.Perm.trans ?_ hq.symm
    simp only [blks]
    have h1 := (set_perm_flat OwnS.blocks s2 q _ (.g (packG T m (es.set i ⟨a, n, kk, cs⟩))) hs)
    have h2 : OwnS.blocks (.g (packG T m (es.set i ⟨a, n, kk, cs⟩))) = nblks T m (es.set i ⟨a, n, kk, cs⟩) := hb2
    rw [h2] at h1
    exact (h1.append_left _).trans (List.perm_append_comm_assoc _ _ _)
  refine h aa w hf (hi.change [] (by simp) (Keep.refl w []) (fun G hG => .inl hG) hi.mem.own (fun s hs' => ?_) (hp2.nodup_iff.2 hi.nodup) (fun b hb => .inl (hp2.mem_iff.1 hb)))
  obtain ⟨j, hj, rfl⟩ := List.getElem_of_mem hs'
  rw [List.getElem_set]
  split
  · refine ⟨hnd1, fun x hx => ?_⟩
    rcases List.mem_or_eq_of_mem_set hx with hx | rfl
    · exact hh.2 x hx
    · exact ho
  · exact hi.mem.slh _ (List.mem_cons_of_mem _ (List.getElem_mem (by simpa using hj)))

theorem nblks_nil (T : TypeId) (m : Nat) : ∀ n, nblks T m (List.replicate n NE.nil) = []
  | 0 => rfl
  | n + 1 => by
    have := nblks_nil T m n
    unfold nblks at this ⊢
    rw [List.replicate_succ, List.flatMap_cons, nil_s, List.nil_append]; exact this

/-- An empty pack. -/
theorem Cov.pack0 (T : TypeId) (m n : Nat) (h : Cov nt w0 S0 df ρ Fs bl (.g (packG T m (List.replicate n NE.nil)) :: sl) K) : Cov nt w0 S0 df ρ Fs bl sl K := fun aa w hf hi => by
  have hb0 := nblks_nil T m n
  have hb : blks bl (.g (packG T m (List.replicate n NE.nil)) :: sl) = blks bl sl := by
    have : (packG T m (List.replicate n NE.nil)).blks = [] := by show (if _ then _ else _) = _; rw [hb0]; simp
    simp only [blks, List.flatMap_cons, OwnS.blocks, this, List.nil_append]
  refine h aa w hf (hi.change [] (by simp) (Keep.refl w []) (fun G hG => .inl hG) hi.mem.own (fun s hs => ?_) (by rw [hb]; exact hi.nodup) (fun b hx => .inl (by rwa [hb] at hx)))
  rcases List.mem_cons.1 hs with rfl | hs
  · refine ⟨by rw [hb0]; simp, fun e he => ?_⟩
    rw [(List.mem_replicate.1 he).2]; exact nil_holds w T m
  · exact hi.mem.slh s hs

/-- make of a slice of slices. -/
theorem Cov.makeN {Q : Rep α} (T : TypeId) (m : Nat) {d : Nat} {t el : TypeId} {x y : Operand} {n : Int} {agg : Bool} {bytes : Nat} {l : List (List α)} (hs : Stp P K' ⟨some d, .makeSlice t x y, ty, none⟩ K) (ht : slOf P t = some el) (hel : TyI P el agg 1 bytes [.slice none 0 0])
    (hx : ev ρ x = some (.int .i64 n)) (hy : ev ρ y = some (.int .i64 n)) (hl : lmk n ([] : List α) = some l) (hby : Nat.ble bytes 8388608 = true) (hd : Nat.blt d nt = true)
    (hk : ∀ b es cs, w0.heap.size ≤ b → NL Q G es cs l → Cov nt w0 S0 df ((d, .slice (some ⟨b, 0, none⟩) l.length l.length) :: ρ) Fs bl (.s (.slice (some ⟨b, 0, none⟩) l.length l.length) el 1 l.length cs :: .g (packG T m es) :: sl) K) : Cov nt w0 S0 df ρ Fs bl sl K' := by
  obtain ⟨h0, h1, rfl⟩ := lmk_some hl
  refine Cov.pack0 T m n.toNat ?_
  refine Cov.makeR (G := G) (Q := Rep.hdr) (zx := (none, 0, 0)) (l := List.replicate n.toNat (none, 0, 0)) hs ht hel rfl rfl rfl rfl hx hy ?_ hby hd fun b cs hb ho => ?_
  · unfold lmk at hl ⊢
    split at hl
    · rename_i hh; rw [if_pos hh]
    · cases hl
  · have hk' := hk b (List.replicate n.toNat NE.nil) cs hb ⟨by rw [List.map_replicate]; exact ho, by simp, fun i e z h1 h2 => by
      rw [List.getElem?_replicate] at h1 h2
      split at h1
      · rename_i hh; rw [if_pos hh] at h2; cases h1; cases h2; exact ⟨rfl, OL.nil⟩
      · cases h1⟩
    simpa using hk'

theorem NL.set {Q : Rep α} {es : List NE} {cs cs' : List Value} {x x' : List (List α)} {i : Int} {y : List α} {e : NE} (h : NL Q G es cs x) (hl : lupd x i y = some x') (hn : e.n = y.length) (ho : OL Q G e.cs y) (hc : OL Rep.hdr G cs' ((es.map NE.h).set i.toNat e.h)) : NL Q G (es.set i.toNat e) cs' x' := by
  obtain ⟨hi0, hil, rfl⟩ := lupd_some hl
  refine ⟨by rw [List.map_set]; exact hc, by simp [h.2.1], fun j e' y' h1 h2 => ?_⟩
  rw [List.getElem?_set] at h1 h2
  by_cases hij : i.toNat = j
  · subst hij
    have := h.2.1
    rw [if_pos rfl, if_pos (by omega)] at h1
    rw [if_pos rfl, if_pos (by omega)] at h2
    cases h1; cases h2
    exact ⟨hn, ho⟩
  · rw [if_neg hij] at h1 h2
    exact h.2.2 j e' y' h1 h2

/-- While one is out. -/
theorem NL.hole {es : List NE} {i : Nat} {e : NE} (he : es[i]? = some e) : (es.set i NE.nil)[i]? = some NE.nil := by
  rw [List.getElem?_set, if_pos rfl, if_pos (List.getElem?_eq_some_iff.1 he).1]

/-- The header of a slice of one's own, which lies first, stored where one was taken out. -/
theorem Cov.storeN (q1 q2 : Nat) {Q : Rep α} {oa : Option Addr} {om T0 T m : Nat} {x x' : List (List α)} {es : List NE} {cs ics : List Value} {i : Int} {y : List α} {a : Option Addr} {kk : Nat} {t : TypeId} {px u : Operand} {p : Value} {agg : Bool} {bytes : Nat} {z : List Value} {s2 : List OwnS} {e : NE} (hs : Stp P K' ⟨none, .store t px u, ty, none⟩ K)
    (hsl : sl = .s (.slice a y.length kk) T m y.length ics :: s2) (h1 : s2[q1]? = some (.s (.slice oa x.length om) T0 1 x.length cs)) (h2 : s2[q2]? = some (.g (packG T m (es.set i.toNat NE.nil)))) (hN : NL Q G es cs x) (he : es[i.toNat]? = some e) (ho : OL Q G ics y) (hl : lupd x i y = some x')
    (hx : ev ρ px = some p) (hp : PtrO p oa x.length om i.toNat 1 0) (hu : ev ρ u = some (.slice a y.length kk)) (ht : TyI P t agg 1 bytes z) (hq : (q1 == q2) = false)
    (hk : ∀ es' cs', x'.length = x.length → NL Q G es' cs' x' → Cov nt w0 S0 df ρ Fs bl ((s2.set q1 (.s (.slice oa x'.length om) T0 1 x'.length cs')).set q2 (.g (packG T m es'))) K) : Cov nt w0 S0 df ρ Fs bl sl K' := by
  refine Cov.putN q2 hsl h2 (NL.hole he) ?_
  have hq' : q1 ≠ q2 := by simpa using hq
  have e1 : x.length = (es.map NE.h).length := by rw [List.length_map, hN.2.1]
  have hlen : x'.length = x.length := by obtain ⟨_, _, rfl⟩ := lupd_some hl; simp
  obtain ⟨hi0, hil, _⟩ := lupd_some hl
  have hilt : i.toNat < es.length := by have := hN.2.1; omega
  have hel : Elem 1 cs i.toNat [.slice e.a e.n e.k] := by
    obtain ⟨c, hc1, hc2⟩ := hN.1.get (i := i) (x := e.h) (by
      unfold lidx
      rw [if_pos hi0, List.getElem?_map, he]; rfl)
    have : c = [.slice e.a e.n e.k] := hc2
    rwa [this] at hc1
  refine Cov.storeR q1 0 (Q := Rep.hdr) (y := (a, y.length, kk)) (l := es.map NE.h) (l' := (es.map NE.h).set i.toNat (a, y.length, kk)) (sz := 1) hs (by rw [List.getElem?_set_ne (Ne.symm hq'), h1, e1]) rfl hN.1 ?_ hx (by rw [← e1]; exact hp) hu ht hel ?_ rfl rfl fun cs' hll ho' => ?_
  · unfold lupd
    rw [if_pos ⟨hi0, by rw [← e1]; exact hil⟩]
  · show _ = [_]
    simp [cellsL, Value.cells]
  · have hN' : NL Q G (es.set i.toNat ⟨a, y.length, kk, ics⟩) cs' x' := hN.set hl rfl ho (by simpa [NE.h] using ho')
    have hk' := hk _ cs' hlen hN'
    have e2 : ((es.map NE.h).set i.toNat (a, y.length, kk)).length = x'.length := by rw [List.length_set, ← e1, hlen]
    rw [e2]
    rw [List.set_set] at *
    rw [List.set_comm _ _ hq']  at hk'
    exact hk'

/-- An inner slice put back, its header as it was. -/
theorem Cov.backN (q1 q : Nat) {Q : Rep α} {oa : Option Addr} {om T0 T m : Nat} {x x' : List (List α)} {es : List NE} {cs ics : List Value} {i : Int} {y : List α} {s2 : List OwnS} {e : NE} (hsl : sl = .s (.slice e.a y.length e.k) T m y.length ics :: s2) (h1 : s2[q1]? = some (.s (.slice oa x.length om) T0 1 x.length cs)) (h2 : s2[q]? = some (.g (packG T m (es.set i.toNat NE.nil)))) (hN : NL Q G es cs x) (he : es[i.toNat]? = some e) (hn : y.length = e.n) (ho : OL Q G ics y) (hl : lupd x i y = some x')
    (hk : ∀ es', x'.length = x.length → NL Q G es' cs x' → Cov nt w0 S0 df ρ Fs bl ((s2.set q1 (.s (.slice oa x'.length om) T0 1 x'.length cs)).set q (.g (packG T m es'))) K) : Cov nt w0 S0 df ρ Fs bl sl K := by
  refine Cov.putN q hsl h2 (NL.hole he) ?_
  have hlen : x'.length = x.length := by obtain ⟨_, _, rfl⟩ := lupd_some hl; simp
  have hN' : NL Q G (es.set i.toNat ⟨e.a, y.length, e.k, ics⟩) cs x' := hN.set hl rfl ho (by
    have : (es.map NE.h).set i.toNat (NE.h ⟨e.a, y.length, e.k, ics⟩) = es.map NE.h := by
      have h3 : (es.map NE.h)[i.toNat]? = some (NE.h ⟨e.a, y.length, e.k, ics⟩) := by rw [List.getElem?_map, he]; simp [NE.h, hn]
      obtain ⟨hlt, h4⟩ := List.getElem?_eq_some_iff.1 h3
      rw [← h4]; exact List.set_getElem_self hlt
    rw [this]; exact hN.1)
  have hk' := hk _ hlen hN'
  have hs : s2.set q1 (.s (.slice oa x'.length om) T0 1 x'.length cs) = s2 := by
    obtain ⟨hlt, h4⟩ := List.getElem?_eq_some_iff.1 h1
    rw [hlen, ← h4]; exact List.set_getElem_self hlt
  rw [hs] at hk'
  rw [List.set_set]
  exact hk'

theorem Rd.entry {T m : Nat} {es : List NE} {G' : Hp} (h : Rd (.g (packG T m es)) G') {e : NE} (he : e ∈ es) : Rd (e.s T m) G' := by
  obtain ⟨w, hh, hb⟩ := h
  exact ⟨w, hh.2 e he, fun b hbe => hb b (by
    show b ∈ (if _ then _ else _)
    rw [if_pos hh.1]; exact List.mem_flatMap.2 ⟨e, he, hbe⟩)⟩

theorem SlR.rdN {Q : Rep α} {G' : Hp} {a : Option Addr} {kk T0 T m : Nat} {x : List (List α)} {es : List NE} {cs : List Value} (hN : NL Q G es cs x) (hm : m = Q.sz) (hle : HpLe G G') (h1 : Rd (.s (.slice a x.length kk) T0 1 x.length cs) G') (h2 : Rd (.g (packG T m es)) G') : SlR (Rep.sl Q) G' a kk x := by
  refine SlR.rd (G := G') (T := T0) ?_ rfl (HpLe.refl _) h1
  obtain ⟨⟨hb, xs, rfl, h3, h4⟩, h5, h6⟩ := hN
  rw [List.length_map] at hb
  refine ⟨by omega, xs, rfl, h3, by rw [h4.1, List.length_map, h5], fun i c y hc hy => ?_⟩
  have hlt : i < es.length := by rw [h5]; exact (List.getElem?_eq_some_iff.1 hy).1
  have he : es[i]? = some es[i] := List.getElem?_eq_getElem hlt
  obtain ⟨hn, ho⟩ := h6 i _ y he hy
  have hc' : c = [.slice es[i].a es[i].n es[i].k] := h4.2 i c es[i].h hc (by rw [List.getElem?_map, he]; rfl)
  refine ⟨es[i].a, es[i].k, by rw [hc', hn], ?_⟩
  have hr := h2.entry (List.getElem_mem hlt)
  unfold NE.s at hr
  rw [hn] at hr
  exact SlR.rd ho hm hle hr

/-- A slice of slices of one's own that is only read from now on (it and its pack lie first). -/
theorem Cov.freezeN {Q : Rep α} {a : Option Addr} {kk T0 T m : Nat} {x : List (List α)} {es : List NE} {cs : List Value} {s2 : List OwnS} (hsl : sl = .s (.slice a x.length kk) T0 1 x.length cs :: .g (packG T m es) :: s2) (hN : NL Q G es cs x) (hm : m = Q.sz) (hB : Bd w0 S0 B G)
    (hk : ∀ G', HpLe G G' → Bd w0 S0 B G' → SlR (Rep.sl Q) G' a kk x → Cov nt w0 S0 df ρ (G' :: B) bl s2 K) : Cov nt w0 S0 df ρ (G :: B) bl sl K := fun aa w hf hi => by
  subst hsl
  have hi' : Inv w0 S0 (G :: B) bl ([] ++ ([.s (.slice a x.length kk) T0 1 x.length cs, .g (packG T m es)] ++ s2)) w := hi
  obtain ⟨G', hle, hrd, hi2, hbd, _⟩ := hi'.lendB
  refine Cov.less (Fs' := G' :: B) ?_ (hk G' hle (hbd B hB) (SlR.rdN hN hm hle (hrd _ List.mem_cons_self) (hrd _ (List.mem_cons_of_mem _ List.mem_cons_self)))) aa w hf hi2
  intro F hF
  rcases List.mem_cons.1 hF with rfl | hF
  · exact List.mem_cons_self
  · exact List.mem_cons_of_mem _ (List.mem_cons_of_mem _ hF)
end
end Go.Proofs.Ytbhmhindommaeaa
