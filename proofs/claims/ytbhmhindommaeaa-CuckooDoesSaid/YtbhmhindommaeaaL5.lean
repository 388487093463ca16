/-
  Bytes and texts; copies of slices.
-/
import Derived.Test.YtbhmhindommaeaaL4
import Derived.Laws.IdiomStrings
import Derived.Laws.Cover3
namespace Go.Proofs.Ytbhmhindommaeaa
open Go.RowKit

theorem Cov.drew {nt : Nat} {w0 : World} {S0 : List Nat} {df : List Deferred} {ρ : Env} {Fs : List Hp} {bl : Blks} {sl : List OwnS} {w : World} (h : Inv w0 S0 Fs bl sl w) : Inv w0 S0 Fs bl sl w.drew := h.drawn

theorem foldl_ofB : ∀ (l : List Int) (r : ByteArray), l.foldl (fun r n => r.push (UInt8.ofNat n.toNat)) r = ⟨r.data ++ (l.map fun n => UInt8.ofNat n.toNat).toArray⟩
  | [], r => by simp
  | b :: l, r => by
    simp only [List.foldl_cons]
    rw [foldl_ofB l]
    simp [ByteArray.push]

section
variable {P : Program} {c : Cx} {R : Value → World → Prop} {nt : Nat} {w0 : World} {S0 : List Nat} {df : List Deferred} {ρ ρ' : Env} {Fs Fs' Fin B : List Hp} {bl bl' : Blks} {sl sl' : List OwnS}
  {K K' : Act → World → Prop} {k : List Item} {ty : TypeId} {G : Hp} {α : Type}

/-- string(b). -/
theorem QOp.b2s {a : Option Addr} {m : Nat} {l : List Int} {s t e : TypeId} {x : Operand} (hs : SlR (Rep.int .u8) G a m l) (hG : G ∈ Fs) (hx : ev ρ x = some (.slice a l.length m)) (h1 : P.underlying s = some (.slice e)) (h2 : P.underlying e = some (.int .u8)) (h3 : P.underlying t = some .string) :
    QOp P ρ Fs bl sl (.convert s t x) ty (.string (ofB l)) := .of fun ev' he w hm => by
  refine run_v (s := convert s t (ev' x)) ?_
  rw [he x _ hx, run_convert_bytes_string w s t e _ _ _ h1 h2 h3]
  obtain ⟨_, xs, ⟨a', cap, hv, hle, hsz, hc⟩, hl, hr⟩ := hs
  simp only [Value.slice.injEq] at hv
  obtain ⟨rfl, hlen, rfl⟩ := hv
  cases l with
  | nil =>
    have hx0 : xs = [] := List.eq_nil_of_length_eq_zero (by simpa using hl)
    subst hx0
    cases a with
    | none => simp [Conv.bytesToString, ofB]; rfl
    | some ad =>
      rw [run_bytesToString w ad _ m [] (by simp [loadCells, loadCellsFrom])]
      rfl
  | cons y l =>
    have hne : xs ≠ [] := by intro h; rw [h] at hl; simp at hl
    obtain ⟨b, o, rfl, hcell⟩ := hc hne
    have hload : (loadCells ⟨b, o, none⟩ (y :: l).length).run P w = .ok ((y :: l).map (Value.int .u8)).toArray w := by
      have := run_loadCells (P := P) (w := w) (b := b) (o := o) ((y :: l).map (Value.int .u8)) 0 #[] (fun j v hj => ?_)
      · simpa [loadCells] using this
      · rw [List.getElem?_map] at hj
        cases hy : (y :: l)[j]? with
        | none => rw [hy] at hj; cases hj
        | some u =>
          rw [hy] at hj
          simp only [Option.map_some, Option.some.injEq] at hj
          subst hj
          have hjl : j < xs.length := by rw [hl]; exact (List.getElem?_eq_some_iff.1 hy).1
          have hrr := hr j _ u (List.getElem?_eq_getElem hjl) hy
          have hrr' : xs[j] = [Value.int .u8 u] := hrr
          have := hcell j _ (List.getElem?_eq_getElem hjl) 0 (.int .u8 u) (by rw [hrr']; rfl)
          have h5 := (hm.fs G hG).cell this
          simpa [Rep.int] using h5
    rw [run_bytesToString w _ _ m (y :: l) hload, foldl_ofB]
    simp [ofB, ByteArray.empty, ByteArray.emptyWithCapacity]
    rfl

/-- []byte(s). -/
theorem Cov.s2b {d : Nat} {s t e : TypeId} {x : Operand} {u : ByteArray} (hs : Stp P K' ⟨some d, .convert s t x, ty, none⟩ K) (hx : ev ρ x = some (.string u)) (h1 : P.underlying s = some .string) (h2 : P.underlying t = some (.slice e)) (h3 : P.underlying e = some (.int .u8)) (hlen : u.size ≤ 9223372036854775807) (hd : Nat.blt d nt = true) (hB : Bd w0 S0 B G)
    (hk : ∀ a m G', HpLe G G' → Bd w0 S0 B G' → SlR (Rep.int .u8) G' a m (toB u) → Cov nt w0 S0 df ((d, .slice a (toB u).length m) :: ρ) (G' :: B) bl sl K) : Cov nt w0 S0 df ρ (G :: B) bl sl K' := fun a w hf hi => by
  refine hs a w ?_
  unfold Oper.wp
  have hrun : (execOp a.eval (⟨some d, .convert s t x, ty, none⟩ : OpX).oper).run P w = .ok (.value _) _ := run_v (s := convert s t (a.eval x)) (by rw [ev_sound hf hx]; exact run_bytes_of_string w s t e u h1 h2 h3)
  rw [hrun]
  have hi2 := (Inv.drawn hi).alloc (.cells (bytesRow u (grownCap w u.size 0 e)) e ((bytesRow u (grownCap w u.size 0 e)).size, (bytesRow u (grownCap w u.size 0 e)).size + 1))
  have hsz : w.drew.heap.size = w.heap.size := rfl
  have hl2 : (toB u).length = u.size := by unfold toB; rw [List.length_map, Array.length_toList]; rfl
  generalize hob : Obj.cells (bytesRow u (grownCap w u.size 0 e)) e ((bytesRow u (grownCap w u.size 0 e)).size, (bytesRow u (grownCap w u.size 0 e)).size + 1) = ob at hi2 ⊢
  have key : Cov nt w0 S0 df ((d, .slice (some ⟨w.heap.size, 0, none⟩) (toB u).length (grownCap w u.size 0 e)) :: ρ) (G :: B) ((w.heap.size, ob) :: bl) sl K := by
    refine Cov.freeze 0 rfl bl rfl ?_
    have hfr : Bd w0 S0 B (single w.heap.size ob) := fun b o hb => by
      unfold single at hb
      split at hb
      · rename_i hh; subst hh; exact .inl hi.keep.size
      · cases hb
    refine Cov.union (Fin := B) (bd_cons hfr (bd_cons hB bd_fin)) fun G' he hb' => ?_
    refine Cov.less (G' :: B) (fun F hF => by rcases List.mem_cons.1 hF with rfl | hF; exact List.mem_cons_self; exact List.mem_cons_of_mem _ (List.mem_cons_of_mem _ (List.mem_cons_of_mem _ hF))) ?_
    refine hk (some ⟨w.heap.size, 0, none⟩) (grownCap w u.size 0 e) G' (ext_le he (List.mem_cons_of_mem _ List.mem_cons_self)) hb' ⟨by rw [hl2]; exact hlen, (toB u).map fun n => [Value.int .u8 n], ⟨some ⟨w.heap.size, 0, none⟩, grownCap w u.size 0 e, by rw [List.length_map], ?_, fun c hc => by obtain ⟨n, _, rfl⟩ := List.mem_map.1 hc; rfl, fun _ => ⟨w.heap.size, 0, rfl, fun j c hj q v hq => ?_⟩⟩, by simp, fun j c n hj hn => ?_⟩
    · rw [List.length_map, hl2]; exact grownCap_ge w u.size 0 e
    · have h0 : G' w.heap.size = some ob := he _ List.mem_cons_self _ _ (by simp [single])
      unfold rcell
      rw [h0, ← hob]
      rw [List.getElem?_map] at hj
      cases hy : (toB u)[j]? with
      | none => rw [hy] at hj; cases hj
      | some n =>
        rw [hy] at hj
        simp only [Option.map_some, Option.some.injEq] at hj
        subst hj
        have hq0 : q = 0 := by cases q with | zero => rfl | succ q => simp at hq
        subst hq0
        simp only [List.getElem?_cons_zero, Option.some.injEq] at hq
        subst hq
        have hjl : j < u.data.size := by
          have := (List.getElem?_eq_some_iff.1 hy).1
          rw [hl2] at this; exact this
        have hb := bytesRow_at u (grownCap w u.size 0 e) j hjl
        simp only [Rep.int, Nat.mul_one, Nat.zero_add, Nat.add_zero]
        rw [hb]
        have : (toB u)[j]? = some (u.data[j].toNat : Int) := by
          simp only [toB, List.getElem?_map]
          rw [Array.getElem?_toList, Array.getElem?_eq_getElem hjl]; rfl
        rw [this] at hy
        cases hy; rfl
    · rw [List.getElem?_map, hn] at hj
      simp only [Option.map_some, Option.some.injEq] at hj
      exact hj.symm
  have := key (a.put (some d) (.slice (some ⟨w.heap.size, 0, none⟩) (toB u).length (grownCap w u.size 0 e))) _ (hf.put hd _) hi2
  rw [hl2] at this
  exact this

theorem Cov.s2bR {d : Nat} {s t e : TypeId} {x : Operand} {u : ByteArray} {l : List Int} (hs : Stp P K' ⟨some d, .convert s t x, ty, none⟩ K) (hx : ev ρ x = some (.string u)) (h1 : P.underlying s = some .string) (h2 : P.underlying t = some (.slice e)) (h3 : P.underlying e = some (.int .u8)) (hl : tobs u = some l) (hd : Nat.blt d nt = true) (hB : Bd w0 S0 B G)
    (hk : ∀ a m G', HpLe G G' → Bd w0 S0 B G' → SlR (Rep.int .u8) G' a m l → Cov nt w0 S0 df ((d, .slice a l.length m) :: ρ) (G' :: B) bl sl K) : Cov nt w0 S0 df ρ (G :: B) bl sl K' := by
  obtain ⟨hlen, rfl⟩ := tobs_some hl
  exact Cov.s2b hs hx h1 h2 h3 hlen hd hB hk
theorem SlR.isnil {Q : Rep α} {a : Option Addr} {m : Nat} {l : List α} (h : SlR Q G a m l) (hc : a.isNone = true) : l = [] := by
  obtain ⟨_, xs, ⟨a', cap, hv, _, _, hcc⟩, hl, _⟩ := h
  simp only [Value.slice.injEq] at hv
  obtain ⟨rfl, _, _⟩ := hv
  by_cases h0 : xs = []
  · subst h0; exact List.eq_nil_of_length_eq_zero (by simpa using hl.symm)
  · obtain ⟨b, o, h1, _⟩ := hcc h0; rw [h1] at hc; cases hc
theorem SlR.sub3 {Q : Rep α} {a : Option Addr} {k : Nat} {l : List α} (h : SlR Q G a k l) {i j mx : Int} {m : List α} (hm : lsub3 l i j mx = some m) : ∃ a' k', subV3 (.slice a l.length k) i.toNat j.toNat mx.toNat Q.sz = .slice a' m.length k' ∧ SlR Q G a' k' m := by
  obtain ⟨hjm, hml, hm⟩ := lsub3_some hm
  obtain ⟨hb, xs, h1, h2, h3⟩ := h
  obtain ⟨i0, ij, jl, rfl⟩ := lsub_some hm
  have hs := h1.sub3 (l := i.toNat) (r := j.toNat) (m := mx.toNat) (by omega) (by omega) (by rw [h2]; omega)
  have hn : j.toNat - i.toNat = (j - i).toNat := by omega
  obtain ⟨a', k', hv, rest⟩ := hs
  have hl : ((xs.drop i.toNat).take (j.toNat - i.toNat)).length = ((l.drop i.toNat).take (j - i).toNat).length := by simp only [List.length_take, List.length_drop]; omega
  rw [hl] at hv rest
  refine ⟨a', k', hv, by simp only [List.length_take, List.length_drop]; omega, _, ⟨a', k', by rw [hl], by rw [hl]; exact rest.1, rest.2⟩, hl, fun q c x hc hx => ?_⟩
  rw [hn] at hc
  have hq : q < (j - i).toNat := by
    rcases Nat.lt_or_ge q (j - i).toNat with h | h
    · exact h
    · rw [List.getElem?_take_eq_none h] at hx; cases hx
  rw [List.getElem?_take_of_lt hq, List.getElem?_drop] at hc hx
  exact h3 _ _ _ hc hx
theorem QOp.sliceR3 {Q : Rep α} {a a' : Option Addr} {m m' : Nat} {l l' : List α} {i j mx : Int} {t el : TypeId} {x lo hi xm : Operand} {k1 k2 k3 : IntKind} (hs : SlR Q G a m l) (hx : ev ρ x = some (.slice a l.length m)) (hl : lsub3 l i j mx = some l')
    (ht : slOf P t = some el) (hz : szOf P el = some Q.sz) (hlo : ev ρ lo = some (.int k1 i)) (hhi : ev ρ hi = some (.int k2 j)) (hmx : ev ρ xm = some (.int k3 mx)) (hv : subV3 (.slice a l.length m) i.toNat j.toNat mx.toNat Q.sz = .slice a' l'.length m') :
    QOp P ρ Fs bl sl (.slice t x (some lo) (some hi) (some xm)) ty (.slice a' l'.length m') := by
  obtain ⟨h1, h2, h3⟩ := lsub3_some hl
  obtain ⟨h4, h5, h6, _⟩ := lsub_some h3
  obtain ⟨_, xs, ⟨_, cap, hvv, hle, _⟩, hlen, _⟩ := hs
  simp only [Value.slice.injEq] at hvv
  obtain ⟨rfl, _, rfl⟩ := hvv
  refine .cast hv (.slice3 hx hlo hhi hmx ht hz h4 h5 h1 (by omega))
theorem nil_clone {l r : List α} (hl : l = []) (h : ((lapp ([] : List α) l).bind fun u => some u) = some r) : r = [] := by
  subst hl; simp [lapp] at h; exact h
theorem QOp.eqnil {t u e : TypeId} {x y : Operand} {a : Option Addr} {n m : Nat} (ht : P.underlying t = some (.slice e)) (hx : ev ρ x = some (.slice a n m)) (hy : ev ρ y = some (.slice none 0 0)) : QOp P ρ Fs bl sl (.binOp .eql t x y u) ty (.bool a.isNone) :=
  .bin hx hy fun w => by
    have h1 : (eqGuard .eql t x y (.slice a n m) (.slice none 0 0)).run P w = .ok () w := rfl
    rw [Sem.run_bind, h1]
    simp only [Result.andThen_ok]
    have h2 := run_equal_slice_nil (P := P) w t e a n m ht
    simp [binOp, h2]
end
end Go.Proofs.Ytbhmhindommaeaa
