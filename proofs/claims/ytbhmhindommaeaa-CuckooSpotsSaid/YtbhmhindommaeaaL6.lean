/-
  copy within a slice of one's own.
-/
import Derived.Test.YtbhmhindommaeaaL5
import Derived.Laws.CopyOwn
namespace Go.Proofs.Ytbhmhindommaeaa
open Go.RowKit

theorem flat1 : ∀ {xs : List (List Value)}, (∀ x ∈ xs, x.length = 1) → ∀ (i : Nat) (v : Value), xs.flatten[i]? = some v ↔ xs[i]? = some [v]
  | [], _, i, v => by simp
  | x :: xs, h, i, v => by
    have hx := h x List.mem_cons_self
    match x, hx with
    | [u], _ =>
      cases i with
      | zero => simp
      | succ i => simpa using flat1 (xs := xs) (fun y hy => h y (List.mem_cons_of_mem _ hy)) i v
theorem flat1_len : ∀ {xs : List (List Value)}, (∀ x ∈ xs, x.length = 1) → xs.flatten.length = xs.length
  | [], _ => rfl
  | x :: xs, h => by
    simp only [List.flatten_cons, List.length_append, List.length_cons, h x List.mem_cons_self, flat1_len (xs := xs) (fun y hy => h y (List.mem_cons_of_mem _ hy))]; omega

theorem flat_single : ∀ cs : List Value, cs = (cs.map fun v => [v]).flatten
  | [] => rfl
  | v :: cs => by rw [List.map_cons, List.flatten_cons, ← flat_single cs]; rfl
theorem OL.one_iff {α : Type} {Q : Rep α} {G : Hp} {cs : List Value} {l : List α} (hQ : Q.sz = 1) : OL Q G cs l ↔ l.length ≤ 16777216 ∧ cs.length = l.length ∧ ∀ (i : Nat) (v : Value) (x : α), cs[i]? = some v → l[i]? = some x → Q.r G [v] x := by
  constructor
  · rintro ⟨hb, xs, rfl, h3, h4, h5⟩
    rw [hQ] at h3
    exact ⟨hb, by rw [flat1_len h3, h4], fun i v x hv hx => h5 i [v] x ((flat1 h3 i v).1 hv) hx⟩
  · rintro ⟨hb, hl, h⟩
    refine ⟨hb, cs.map fun v => [v], flat_single cs, fun x hx => by obtain ⟨v, _, rfl⟩ := List.mem_map.1 hx; rw [hQ]; rfl, by simpa using hl, fun i c x hc hx => ?_⟩
    rw [List.getElem?_map] at hc
    cases hv : cs[i]? with
    | none => rw [hv] at hc; cases hc
    | some v => rw [hv] at hc; simp only [Option.map_some, Option.some.injEq] at hc; subst hc; exact h i v x hv hx

theorem lcpy_length {α : Type} {l src : List α} {i : Int} {n : Nat} (h : i.toNat + min src.length n ≤ l.length) : (lcpy l i n src).length = l.length := by
  unfold lcpy; simp only [List.length_append, List.length_take, List.length_drop]; omega
theorem lcpy_nothing {α : Type} {l src : List α} {i : Int} {n : Nat} (h : min src.length n = 0) : lcpy l i n src = l := by
  unfold lcpy
  have : src.take n = [] := by apply List.eq_nil_of_length_eq_zero; rw [List.length_take]; omega
  rw [this, h]; simp

theorem get_splice {α : Type} (l s : List α) (i : Nat) (j : Nat) : (l.take i ++ s ++ l.drop (i + s.length))[j]? = if i ≤ l.length then (if j < i then l[j]? else if j < i + s.length then s[j - i]? else l[j]?) else (l.take i ++ s ++ l.drop (i + s.length))[j]? := by
  split
  · rename_i hi
    by_cases h1 : j < i
    · rw [if_pos h1, List.append_assoc, List.getElem?_append_left (by simp; omega), List.getElem?_take_of_lt h1]
    · rw [if_neg h1]
      by_cases h2 : j < i + s.length
      · rw [if_pos h2, List.getElem?_append_left (by simp; omega), List.getElem?_append_right (by simp; omega)]
        congr 1; simp; omega
      · rw [if_neg h2, List.getElem?_append_right (by simp; omega), List.getElem?_drop]
        congr 1; simp; omega
  · rfl

section
variable {P : Program} {c : Cx} {R : Value → World → Prop} {nt : Nat} {w0 : World} {S0 : List Nat} {df : List Deferred} {ρ ρ' : Env} {Fs Fs' Fin B : List Hp} {bl bl' : Blks} {sl sl' : List OwnS}
  {K K' : Act → World → Prop} {k : List Item} {ty : TypeId} {G : Hp} {α : Type}

/-- What the room of a slice of one's own is. -/
theorem Cov.owncap (q : Nat) {a : Option Addr} {n m T sz : Nat} {cs : List Value} (hi : sl[q]? = some (.s (.slice a n m) T sz n cs)) (hk : n ≤ m → Cov nt w0 S0 df ρ Fs bl sl K) : Cov nt w0 S0 df ρ Fs bl sl K := fun a' w hf hinv => by
  have hown : w.ownsRow 0 T sz _ _ _ := hinv.mem.slh _ (List.mem_of_getElem? hi)
  refine hk ?_ a' w hf hinv
  rcases hown.2 with ⟨hv, h0⟩ | ⟨g, cap', cur, h1, _, _, h3, _⟩
  · omega
  · cases h1; exact h3

/-- A part of a slice of one's own. -/
theorem QOp.sliceO {a : Option Addr} {n m sz : Nat} {i j : Int} {t el : TypeId} {x : Operand} {lo hi : Option Operand} {l l' : List α} (hn : n = l.length) (hx : ev ρ x = some (.slice a n m)) (hl : lsub l i j = some l') (hc : n ≤ m)
    (ht : slOf P t = some el) (hz : szOf P el = some sz) (hlo : 0 ≤ i → Bnd ρ 0 lo i.toNat) (hhi : 0 ≤ j → Bnd ρ n hi j.toNat) : QOp P ρ Fs bl sl (.slice t x lo hi none) ty (subV (.slice a n m) i.toNat j.toNat sz) := by
  subst hn
  obtain ⟨h3, h4, h5, _⟩ := lsub_some hl
  exact .slice_sl hx rfl ht hz (hlo h3) (hhi (by omega)) (by omega) (by omega)

theorem Cov.copySelf (q : Nat) {Q : Rep α} {d : Nat} {t t2 e : TypeId} {x y : Operand} {a : Option Addr} {m T sz : Nat} {l ld ls : List α} {i j i2 j2 : Int} {cs : List Value} (hs : Stp P K' ⟨some d, .call ⟨.builtin .copy, #[x, y], #[t, t2]⟩, ty, none⟩ K) (ht : slOf P t = some e) (hz : szOf P e = some 1) (hQ : Q.sz = 1) (hsz : sz = 1)
    (hi : sl[q]? = some (.s (.slice a l.length m) T sz l.length cs)) (ho : OL Q G cs l) (hd1 : lsub l i j = some ld) (hd2 : lsub l i2 j2 = some ls) (hx : ev ρ x = some (subV (.slice a l.length m) i.toNat j.toNat sz)) (hy : ev ρ y = some (subV (.slice a l.length m) i2.toNat j2.toNat sz)) (hd : Nat.blt d nt = true)
    (hk : ∀ cs', (lcpy l i ld.length ls).length = l.length → OL Q G cs' (lcpy l i ld.length ls) → Cov nt w0 S0 df ((d, .int .i64 ((min ls.length ld.length : Nat) : Int)) :: ρ) Fs bl (sl.set q (.s (.slice a (lcpy l i ld.length ls).length m) T sz (lcpy l i ld.length ls).length cs')) K) : Cov nt w0 S0 df ρ Fs bl sl K' := fun a' w hf hinv => by
  subst hsz
  refine hs a' w ?_
  obtain ⟨a1, a2, a3, rfl⟩ := lsub_some hd1
  obtain ⟨b1, b2, b3, rfl⟩ := lsub_some hd2
  have hld : ((l.drop i.toNat).take (j - i).toNat).length = j.toNat - i.toNat := by simp only [List.length_take, List.length_drop]; omega
  have hls : ((l.drop i2.toNat).take (j2 - i2).toNat).length = j2.toNat - i2.toNat := by simp only [List.length_take, List.length_drop]; omega
  rw [hld, hls] at hk
  have hown : w.ownsRow 0 T 1 (.slice a l.length m) l.length cs := hinv.mem.slh _ (List.mem_of_getElem? hi)
  have hrunv : ∀ {v : Value} {w' : World}, (Builtin.copy_ #[t, t2] ty #[subV (.slice a l.length m) i.toNat j.toNat 1, subV (.slice a l.length m) i2.toNat j2.toNat 1]).run P w = .ok v w' →
      (execOp a'.eval (⟨some d, .call ⟨.builtin .copy, #[x, y], #[t, t2]⟩, ty, none⟩ : OpX).oper).run P w = .ok (.value v) w' := fun {v w'} h => by
    refine run_builtin (run_v (s := Builtin.copy_ #[t, t2] ty (#[x, y].map a'.eval)) ?_)
    rw [show #[x, y].map a'.eval = #[a'.eval x, a'.eval y] from by simp, ev_sound hf hx, ev_sound hf hy]
    exact h
  have hz' : (P.info? e).map (·.size) = some 1 := hz
  unfold Oper.wp
  by_cases h0 : Nat.min (j2.toNat - i2.toNat) (j.toNat - i.toNat) = 0
  · have hrun := run_copy_none (P := P) w t t2 ty e (if m = i.toNat then a else a.map (·.add (i.toNat * 1))) (if m = i2.toNat then a else a.map (·.add (i2.toNat * 1))) (j.toNat - i.toNat) (m - i.toNat) (j2.toNat - i2.toNat) (m - i2.toNat) (slOf_spec ht) hz' h0
    rw [hrunv hrun]
    have hmin : min ((l.drop i2.toNat).take (j2 - i2).toNat).length (j.toNat - i.toNat) = 0 := by rw [hls]; exact h0
    have e1 := lcpy_nothing (l := l) (i := i) hmin
    have hk' := hk cs (by rw [e1]) (by rw [e1]; exact ho)
    rw [e1] at hk'
    have e2 : min (j2.toNat - i2.toNat) (j.toNat - i.toNat) = 0 := h0
    rw [e2] at hk'
    have e3 : sl.set q (.s (.slice a l.length m) T 1 l.length cs) = sl := by
      apply List.ext_getElem?
      intro z
      rw [List.getElem?_set]
      split
      · rename_i hh; subst hh
        split
        · exact hi.symm
        · rename_i hlt; rw [List.getElem?_eq_none (by omega)]
      · rfl
    rw [e3] at hk'
    exact hk' _ _ (hf.put hd _) hinv
  · have hmin : min (j2.toNat - i2.toNat) (j.toNat - i.toNat) ≠ 0 := h0
    rcases hown.2 with ⟨_, hl0⟩ | ⟨g, cap', cur, hv, hbase, hg, hnc, hm2, hcs, htake⟩
    · omega
    · cases hv
      rw [OL.one_iff hQ] at ho
      obtain ⟨hb, hcl, hr⟩ := ho
      simp only [Nat.mul_one] at htake hcs
      have hcur : cur.toList = cs ++ cur.toList.drop l.length := by rw [← htake, List.take_append_drop]
      have hcel : ∀ (z : Nat) (v : Value), cs[z]? = some v → w.cell? ⟨g, z, none⟩ = some v := fun z v hz => by
        have hlt : z < l.length := by rw [← hcl]; exact (List.getElem?_eq_some_iff.1 hz).1
        rw [← htake, List.getElem?_take_of_lt hlt] at hz
        rw [cell_of_row w g _ cur T (0, 0) hg]
        simpa using hz
      have hn : ((cs.drop i2.toNat).take (min (j2.toNat - i2.toNat) (j.toNat - i.toNat))).length = min (j2.toNat - i2.toNat) (j.toNat - i.toNat) := by simp only [List.length_take, List.length_drop, hcl]; omega
      have hone : ∀ v ∈ cs, v.oneCell' = true := fun v hv => by
        obtain ⟨z, hz, rfl⟩ := List.getElem_of_mem hv
        have := Q.one (hr z _ _ (List.getElem?_eq_getElem hz) (List.getElem?_eq_getElem (by omega)))
        simpa using this
      have hrun := run_copy_row (P := P) w t t2 ty e g i.toNat (j.toNat - i.toNat) (m - i.toNat) ⟨g, i2.toNat, none⟩ (j2.toNat - i2.toNat) (m - i2.toNat) cur T ((cs.drop i2.toNat).take (min (j2.toNat - i2.toNat) (j.toNat - i.toNat))) (slOf_spec ht) hz' hg hn
        (fun z v hv => by
          have hzl : z < min (j2.toNat - i2.toNat) (j.toNat - i.toNat) := by rw [← hn]; exact (List.getElem?_eq_some_iff.1 hv).1
          rw [List.getElem?_take_of_lt hzl, List.getElem?_drop] at hv
          rw [addr_add]; exact hcel _ _ hv)
        (by rw [hn]; have : cur.size = m := hcs; omega) (fun v hv => hone v (List.mem_of_mem_drop (List.mem_of_mem_take hv)))
      have ed : subV (.slice (some ⟨g, 0, none⟩) l.length m) i.toNat j.toNat 1 = .slice (some ⟨g, i.toNat, none⟩) (j.toNat - i.toNat) (m - i.toNat) := by
        simp only [subV, Nat.mul_one]
        rw [if_neg (by omega)]
        simp [addr_add]
      have es : subV (.slice (some ⟨g, 0, none⟩) l.length m) i2.toNat j2.toNat 1 = .slice (some ⟨g, i2.toNat, none⟩) (j2.toNat - i2.toNat) (m - i2.toNat) := by
        simp only [subV, Nat.mul_one]
        rw [if_neg (by omega)]
        simp [addr_add]
      rw [← ed, ← es] at hrun
      rw [hrunv hrun]
      generalize hnn : min (j2.toNat - i2.toNat) (j.toNat - i.toNat) = n at hn hrun hmin hk ⊢
      have hmin2 : min ((l.drop i2.toNat).take (j2 - i2).toNat).length (j.toNat - i.toNat) = n := by rw [hls]; exact hnn
      have hll : (lcpy l i (j.toNat - i.toNat) ((l.drop i2.toNat).take (j2 - i2).toNat)).length = l.length := lcpy_length (by rw [hmin2]; omega)
      have hsrc : ((l.drop i2.toNat).take (j2 - i2).toNat).take (j.toNat - i.toNat) = (l.drop i2.toNat).take n := by
        rw [List.take_take]; congr 1; omega
      have hlc : lcpy l i (j.toNat - i.toNat) ((l.drop i2.toNat).take (j2 - i2).toNat) = l.take i.toNat ++ (l.drop i2.toNat).take n ++ l.drop (i.toNat + n) := by
        unfold lcpy; rw [hmin2, hsrc]
      have hk' := hk (cs.take i.toNat ++ (cs.drop i2.toNat).take n ++ cs.drop (i.toNat + n)) hll ((OL.one_iff hQ).2 ⟨by rw [hll]; exact hb, by rw [hll]; simp only [List.length_append, List.length_take, List.length_drop, hcl]; omega, fun z v u hv hu => by
        rw [hlc] at hu
        have hls2 : ((l.drop i2.toNat).take n).length = n := by simp only [List.length_take, List.length_drop]; omega
        have g1 := get_splice cs ((cs.drop i2.toNat).take n) i.toNat z
        have g2 := get_splice l ((l.drop i2.toNat).take n) i.toNat z
        rw [hn, if_pos (by omega)] at g1
        rw [hls2, if_pos (by omega)] at g2
        rw [g1] at hv; rw [g2] at hu
        by_cases h1 : z < i.toNat
        · rw [if_pos h1] at hv hu; exact hr z v u hv hu
        · rw [if_neg h1] at hv hu
          by_cases h2 : z < i.toNat + n
          · rw [if_pos h2] at hv hu
            rw [List.getElem?_take_of_lt (by omega), List.getElem?_drop] at hv hu
            exact hr _ v u hv hu
          · rw [if_neg h2] at hv hu; exact hr z v u hv hu⟩)
      rw [hll] at hk'
      refine hk' _ _ ?_ (hinv.set_s q hi (s' := .s (.slice (some ⟨g, 0, none⟩) l.length m) T 1 l.length _) ?_ ?_ (by simp [OwnS.blocks, Value.ownBlock]) (fun b hb => .inl (by simpa [OwnS.blocks, Value.ownBlock] using hb)))
      · have := hf.put hd (goInt ((cs.drop i2.toNat).take n).length)
        rw [show ((n : Nat) : Int) = (((cs.drop i2.toNat).take n).length : Int) from by rw [hn]]
        exact this
      · refine ⟨rfl, rfl, rfl, by simp [World.setRow], fun x _ hD => setRow_other w g x _ (by simpa [OwnS.blocks, Value.ownBlock] using hD)⟩
      · refine ⟨by simp only [List.length_append, List.length_take, List.length_drop, hcl]; omega, .inr ⟨g, m, _, rfl, Nat.zero_le _, setRow_heap w g _ _ T (0, 0) hg, by simpa using hnc, hm2, ?_, ?_⟩⟩
        · simp only [List.size_toArray, List.length_append, List.length_take, List.length_drop, Array.length_toList]
          have : cur.size = m := hcs
          omega
        · simp only [Nat.mul_one]
          rw [hn]
          rw [hcur]
          have e1 : List.take i.toNat (cs ++ List.drop l.length cur.toList) = List.take i.toNat cs := List.take_append_of_le_length (by omega)
          have e2 : List.drop (i.toNat + n) (cs ++ List.drop l.length cur.toList) = List.drop (i.toNat + n) cs ++ List.drop l.length cur.toList := List.drop_append_of_le_length (by omega)
          rw [e1, e2, ← List.append_assoc]
          exact List.take_left' (by simp only [List.length_append, List.length_take, List.length_drop, hcl]; omega)
end
end Go.Proofs.Ytbhmhindommaeaa
