/-
  make with a room: an empty slice of one's own; or a row whose cells behind the slice stay zero, up to its room.
-/
import Derived.Test.YtbhmhindommaeaaL11
namespace Go.Proofs.Ytbhmhindommaeaa
open Go.RowKit

theorem lcap_some {n : Int} {u : Unit} (h : lcap n = some u) : 0 ≤ n ∧ n ≤ 16777216 := by
  unfold lcap at h
  split at h
  · assumption
  · cases h
theorem lapz_some {α : Type} {N : Nat} {l m r : List α} (h : lapz N l m = some r) : l.length + m.length ≤ N ∧ r = l ++ m := by
  unfold lapz at h
  split at h
  · cases h; exact ⟨by assumption, rfl⟩
  · cases h
theorem lfull_some {α : Type} {N : Nat} {z : α} {l r : List α} (h : lfull N z l = some r) : l.length ≤ N ∧ r = padz N z l := by
  unfold lfull at h
  split at h
  · cases h; exact ⟨by assumption, rfl⟩
  · cases h
theorem padz_len {α : Type} {N : Nat} {z : α} {l : List α} (h : l.length ≤ N) : (padz N z l).length = N := by simp [padz]; omega
theorem lfull_len {α : Type} {N : Nat} {z : α} {l r : List α} (h : lfull N z l = some r) : r.length = N := by
  obtain ⟨h1, rfl⟩ := lfull_some h; exact padz_len h1
theorem lfull_ol {α : Type} {Q : Rep α} {G : Hp} {cs : List Value} {N : Nat} {z : α} {l r : List α} (h : lfull N z l = some r) (ho : OL Q G cs (padz N z l)) : OL Q G cs r := by
  obtain ⟨_, rfl⟩ := lfull_some h; exact ho

section
variable {P : Program} {c : Cx} {R : Value → World → Prop} {nt : Nat} {w0 : World} {S0 : List Nat} {df : List Deferred} {ρ ρ' : Env} {Fs Fs' Fin B : List Hp} {bl bl' : Blks} {sl sl' : List OwnS}
  {K K' : Act → World → Prop} {k : List Item} {ty : TypeId} {G : Hp} {α : Type}

theorem Cov.makeC {Q : Rep α} {d : Nat} {t el : TypeId} {x y : Operand} {n : Int} {agg : Bool} {sz bytes : Nat} {z : List Value} {u : Unit} (hs : Stp P K' ⟨some d, .makeSlice t x y, ty, none⟩ K) (ht : slOf P t = some el) (hel : TyI P el agg sz bytes z)
    (hx : ev ρ x = some (.int .i64 0)) (hy : ev ρ y = some (.int .i64 n)) (hl : lcap n = some u) (hby : Nat.ble bytes 8388608 = true) (hd : Nat.blt d nt = true)
    (hk : ∀ b cs, w0.heap.size ≤ b → OL Q G cs ([] : List α) → Cov nt w0 S0 df ((d, .slice (some ⟨b, 0, none⟩) ([] : List α).length n.toNat) :: ρ) Fs bl (.s (.slice (some ⟨b, 0, none⟩) ([] : List α).length n.toNat) el sz ([] : List α).length cs :: sl) K) : Cov nt w0 S0 df ρ Fs bl sl K' := fun a w hf hi => by
  obtain ⟨i, zv, h1, h2, h3, h4, h5⟩ := hel.info
  obtain ⟨h6, h7⟩ := lcap_some hl
  have hby' : bytes ≤ 8388608 := by simpa [Nat.ble_eq] using hby
  have hn : n.toNat ≤ 16777216 := by omega
  have hbytes : i.bytes * n.toNat ≤ 281474976710656 := by rw [h4]; exact Nat.le_trans (Nat.mul_le_mul hby' hn) (by decide)
  have hb' : (i.bytes : Int) * n ≤ 281474976710656 := by
    have h : ((i.bytes * n.toNat : Nat) : Int) ≤ 281474976710656 := by omega
    rwa [Int.natCast_mul, Int.toNat_of_nonneg h6] at h
  have hr := run_make (P := P) w t el i zv (slOf_spec ht) h1 h2 .i64 .i64 0 n (by omega) h6 hb' (by omega)
  refine hs a w ?_
  unfold Oper.wp
  have hrun : (execOp a.eval (⟨some d, .makeSlice t x y, ty, none⟩ : OpX).oper).run P w = .ok (.value (.slice (some ⟨w.heap.size, 0, none⟩) 0 n.toNat)) (w.alloc (.cells (madeCells zv.cells (n.toNat * i.size)) el)) := by
    refine run_v (s := Instr.makeSlice t (a.eval x) (a.eval y)) ?_
    rw [ev_sound hf hx, ev_sound hf hy]
    exact hr
  rw [hrun]
  refine hk w.heap.size [] hi.keep.size OL.nil _ _ (hf.put hd _) (hi.alloc_s _ _ (by simp [OwnS.blocks, Value.ownBlock]) ?_)
  exact World.ownsRow_made (base := 0) (e := el) (size := sz) w (madeCells zv.cells (n.toNat * i.size)) n.toNat (Nat.zero_le _) (by simp only [maxLen]; omega) (by rw [size_madeCells, h3])

/-- make with a room, of which the cells behind the slice are known. -/
theorem Cov.makeZ {Q : Rep α} {d : Nat} {t el : TypeId} {x y : Operand} {n : Int} {agg : Bool} {sz bytes : Nat} {z : List Value} {zx : α} {u : Unit} (hs : Stp P K' ⟨some d, .makeSlice t x y, ty, none⟩ K) (ht : slOf P t = some el) (hel : TyI P el agg sz bytes z) (hn : sz = Q.sz) (hzl : z.length = sz) (hz1 : Nat.blt 0 sz = true) (hzf : Q.r G z zx)
    (hx : ev ρ x = some (.int .i64 0)) (hy : ev ρ y = some (.int .i64 n)) (hl : lcap n = some u) (hby : Nat.ble bytes 8388608 = true) (hd : Nat.blt d nt = true)
    (hk : ∀ b cs, w0.heap.size ≤ b → OL Q G cs (padz n.toNat zx []) → Cov nt w0 S0 df ((d, .slice (some ⟨b, 0, none⟩) ([] : List α).length n.toNat) :: ρ) Fs bl (.s (.slice (some ⟨b, 0, none⟩) n.toNat n.toNat) el sz n.toNat cs :: sl) K) : Cov nt w0 S0 df ρ Fs bl sl K' := fun a w hf hi => by
  obtain ⟨i, zv, h1, h2, h3, h4, h5⟩ := hel.info
  obtain ⟨h6, h7⟩ := lcap_some hl
  have hby' : bytes ≤ 8388608 := by simpa [Nat.ble_eq] using hby
  have hnn : n.toNat ≤ 16777216 := by omega
  have hbytes : i.bytes * n.toNat ≤ 281474976710656 := by rw [h4]; exact Nat.le_trans (Nat.mul_le_mul hby' hnn) (by decide)
  have hb' : (i.bytes : Int) * n ≤ 281474976710656 := by
    have h : ((i.bytes * n.toNat : Nat) : Int) ≤ 281474976710656 := by omega
    rwa [Int.natCast_mul, Int.toNat_of_nonneg h6] at h
  have hr := run_make (P := P) w t el i zv (slOf_spec ht) h1 h2 .i64 .i64 0 n (by omega) h6 hb' (by omega)
  have hz1' : 0 < sz := by simpa [Nat.blt_eq] using hz1
  generalize hN : n.toNat = N at *
  have hcells : (madeCells zv.cells (N * i.size)).toList = ((List.replicate N zx).map fun _ => z).flatten := by
    rw [h3, h5]
    apply List.ext_getElem?
    intro j
    have hfl : ((List.replicate N zx).map fun _ => z).flatten.length = N * sz := by simp [hzl]
    by_cases hj : j < N * sz
    · have hq : j / sz < N := Nat.div_lt_of_lt_mul (by rw [Nat.mul_comm]; exact hj)
      have hm : j % sz < sz := Nat.mod_lt _ hz1'
      have hg := get_flatten (sz := sz) ((List.replicate N zx).map fun _ => z) (j / sz) z (j % sz) (z[j % sz]'(by omega)) (fun x hx => by simp only [List.map_replicate, List.mem_replicate] at hx; rw [hx.2, hzl]) (by simp [hq]) (List.getElem?_eq_getElem _)
      rw [show j / sz * sz + j % sz = j from by rw [Nat.mul_comm]; exact Nat.div_add_mod j sz] at hg
      rw [hg]
      simp [madeCells, hj, hzl, hm]
    · rw [List.getElem?_eq_none (by simp [madeCells]; omega), List.getElem?_eq_none (by rw [hfl]; omega)]
  refine hs a w ?_
  unfold Oper.wp
  have hrun : (execOp a.eval (⟨some d, .makeSlice t x y, ty, none⟩ : OpX).oper).run P w = .ok (.value (.slice (some ⟨w.heap.size, 0, none⟩) 0 N)) (w.alloc (.cells (madeCells zv.cells (N * i.size)) el)) := by
    refine run_v (s := Instr.makeSlice t (a.eval x) (a.eval y)) ?_
    rw [ev_sound hf hx, ev_sound hf hy]
    exact hr
  rw [hrun]
  refine hk w.heap.size _ hi.keep.size ⟨by simp [padz]; omega, List.replicate N z, rfl, fun c hc => by rw [(List.mem_replicate.1 hc).2, hzl, hn], by simp [padz], fun i c x h2 h3 => by
    simp only [padz, List.length_nil, Nat.sub_zero, List.nil_append] at h3
    rw [List.getElem?_replicate] at h2 h3
    split at h2
    · rename_i hh; simp [hh] at h2 h3; subst h2 h3; exact hzf
    · cases h2⟩ _ _ (hf.put hd _) (hi.alloc_s _ _ (by simp [OwnS.blocks, Value.ownBlock]) ?_)
  have := World.ownsRow_lit (base := 0) (e := el) (size := sz) w (madeCells zv.cells (N * i.size)) N (Nat.zero_le _) (by simp only [maxLen]; omega) (by rw [size_madeCells, h3])
  rw [hcells] at this
  simpa [OwnS.holds] using this

theorem QOp.cap {t el : TypeId} {x : Operand} {a : Option Addr} {n m : Nat} (hx : ev ρ x = some (.slice a n m)) (ht : slOf P t = some el) : QOp P ρ Fs bl sl (.call ⟨.builtin .cap, #[x], #[t]⟩) ty (.int .i64 m) := .of fun e he w _ => by
  refine run_builtin (run_v ?_)
  have hu := slOf_spec ht
  simp [Builtin.cap_, he x _ hx, run_underlying hu, goInt]

/-- append within the room. -/
theorem Cov.appZ (q : Nat) {Q : Rep α} {d : Nat} {t e : TypeId} {s x : Operand} {a a2 : Option Addr} {N m2 n : Nat} {zx : α} {l l2 l' : List α} {cs : List Value} {agg : Bool} {sz bytes : Nat} {z : List Value}
    (hs : Stp P K' ⟨some d, .call ⟨.builtin .append, #[s, x], #[t, t]⟩, ty, none⟩ K) (ht : slOf P t = some e) (hel : TyI P e agg sz bytes z) (hsz : Nat.blt 0 sz = true)
    (hi : sl[q]? = some (.s (.slice a N N) e sz N cs)) (hn : sz = Q.sz) (ho : OL Q G cs (padz N zx l)) (he : ev ρ s = some (.slice a l.length N)) (hx : ev ρ x = some (.slice a2 n m2)) (h2 : SlR Q G a2 m2 l2) (hln : n = l2.length) (hG : G ∈ Fs) (hl : lapz N l l2 = some l') (hd : Nat.blt d nt = true)
    (hk : ∀ cs', OL Q G cs' (padz N zx l') → Cov nt w0 S0 df ((d, .slice a l'.length N) :: ρ) Fs bl (sl.set q (.s (.slice a N N) e sz N cs')) K) : Cov nt w0 S0 df ρ Fs bl sl K' := fun ac w hfi hinv => by
  subst hn hln
  obtain ⟨hb, rfl⟩ := lapz_some hl
  have hpos : 0 < Q.sz := by simpa [Nat.blt_eq] using hsz
  have hu := slOf_spec ht
  obtain ⟨i, zv, hi1, hzi, hs1, hs2, hzc⟩ := hel.info
  have hown : w.ownsRow 0 e Q.sz (.slice a N N) N cs := hinv.mem.slh _ (List.mem_of_getElem? hi)
  obtain ⟨hb1, xs, rfl, h3, h4⟩ := ho
  obtain ⟨_, ys, h5, h6⟩ := h2
  obtain ⟨a3, c3, hv, hlc, hls, hc⟩ := h5
  have e1 : xs.length = N := by rw [h4.1]; exact padz_len (by omega)
  have e2 : ys.length = l2.length := h6.1
  simp only [Value.slice.injEq] at hv
  obtain ⟨rfl, _, rfl⟩ := hv
  have hyl : ∀ ys : List (List Value), (∀ x ∈ ys, x.length = Q.sz) → ys.flatten.length = ys.length * Q.sz := by
    intro ys h
    induction ys with
    | nil => simp
    | cons y ys ih => simp only [List.flatten_cons, List.length_append, List.length_cons, Nat.add_mul, Nat.one_mul]; rw [ih (fun z hz => h z (List.mem_cons_of_mem _ hz)), h y List.mem_cons_self]; omega
  have hfl : ys.flatten.length = l2.length * Q.sz := by rw [hyl ys hls, e2]
  have hone : ∀ u ∈ ys.flatten, u.oneCell' = true := fun u hu => by
    obtain ⟨y, hy, huy⟩ := List.mem_flatten.1 hu
    obtain ⟨j, hj, rfl⟩ := List.getElem_of_mem hy
    exact List.all_eq_true.1 (Q.one (h6.2 j _ _ (List.getElem?_eq_getElem hj) (List.getElem?_eq_getElem (by omega)))) u huy
  -- the new row
  have hnew : OL Q G (xs.take l.length ++ ys ++ xs.drop (l.length + l2.length)).flatten (padz N zx (l ++ l2)) := by
    have hpl : (padz N zx (l ++ l2)).length = N := padz_len (by simp; omega)
    refine ⟨by rw [hpl]; rw [padz_len (by omega)] at hb1; exact hb1, _, rfl, fun c hc => ?_, ?_, fun j c u hj hu => ?_⟩
    · rcases List.mem_append.1 hc with hc | hc
      · rcases List.mem_append.1 hc with hc | hc
        · exact h3 c (List.mem_of_mem_take hc)
        · exact hls c hc
      · exact h3 c (List.mem_of_mem_drop hc)
    · rw [hpl]; simp only [List.length_append, List.length_take, List.length_drop]; omega
    · have g1 := get_splice xs ys l.length j
      rw [e2, if_pos (by omega)] at g1
      rw [g1] at hj
      have hu' : (padz N zx (l ++ l2))[j]? = if j < l.length then l[j]? else if j < l.length + l2.length then l2[j - l.length]? else (padz N zx l)[j]? := by
        unfold padz
        by_cases h1 : j < l.length
        · rw [if_pos h1, List.append_assoc, List.getElem?_append_left h1]
        · rw [if_neg h1]
          by_cases h2 : j < l.length + l2.length
          · rw [if_pos h2, List.getElem?_append_left (by simp; omega), List.getElem?_append_right (by omega)]
          · rw [if_neg h2, List.getElem?_append_right (by simp; omega), List.getElem?_append_right (by omega), List.getElem?_replicate, List.getElem?_replicate]
            simp only [List.length_append]
            by_cases h3 : j < N
            · rw [if_pos (by omega), if_pos (by omega)]
            · rw [if_neg (by omega), if_neg (by omega)]
      rw [hu'] at hu
      by_cases h1 : j < l.length
      · rw [if_pos h1] at hj hu
        exact h4.2 j c u hj (by unfold padz; rw [List.getElem?_append_left h1]; exact hu)
      · rw [if_neg h1] at hj hu
        by_cases h2 : j < l.length + l2.length
        · rw [if_pos h2] at hj hu; exact h6.2 _ c u hj hu
        · rw [if_neg h2] at hj hu; exact h4.2 j c u hj hu
  refine hs ac w ?_
  unfold Oper.wp
  have hrun : ∀ {v : Value} {w' : World}, (Builtin.append_ #[t, t] ty #[.slice a l.length N, .slice a2 l2.length m2]).run P w = .ok v w' → (execOp ac.eval (⟨some d, .call ⟨.builtin .append, #[s, x], #[t, t]⟩, ty, none⟩ : OpX).oper).run P w = .ok (.value v) w' := fun {v w'} h => by
    refine run_builtin (run_v (s := Builtin.append_ #[t, t] ty (#[s, x].map ac.eval)) ?_)
    rw [show #[s, x].map ac.eval = #[ac.eval s, ac.eval x] from by simp, ev_sound hfi he, ev_sound hfi hx]
    exact h
  have hlen : ∀ j : List α, (l ++ l2).length = l.length + l2.length := fun _ => by simp
  rcases hown.2 with ⟨hv0, hn0⟩ | ⟨g, cap, cur, hv0, _, hg, hnc, hcm, hcs, htake⟩
  · -- no room at all
    simp only [Value.slice.injEq] at hv0
    obtain ⟨rfl, _, _⟩ := hv0
    subst hn0
    have hl0 : l = [] := List.eq_nil_of_length_eq_zero (by omega)
    have hl20 : l2 = [] := List.eq_nil_of_length_eq_zero (by omega)
    subst hl0 hl20
    have hys : ys = [] := List.eq_nil_of_length_eq_zero (by simpa using e2)
    subst hys
    have hr : (Builtin.append_ #[t, t] ty #[.slice none ([] : List α).length 0, .slice a2 ([] : List α).length m2]).run P w = .ok (.slice none 0 0) w := by
      cases a2 <;> simp [Builtin.append_, run_underlying hu, sizeOf, typeInfo, hi1, Builtin.lenOf, Builtin.firstCells, loadCells, loadCellsFrom]
    rw [hrun hr]
    have hk' := hk _ hnew
    have hxs : xs = [] := List.eq_nil_of_length_eq_zero e1
    subst hxs
    have e3 : sl.set q (.s (.slice none 0 0) e Q.sz 0 ([] : List Value)) = sl := by
      apply List.ext_getElem?
      intro z
      rw [List.getElem?_set]
      split
      · rename_i hh; subst hh
        split
        · exact hi.symm
        · rename_i hlt; rw [List.getElem?_eq_none (by omega)]
      · rfl
    have hk2 : Cov nt w0 S0 df ((d, .slice none 0 0) :: ρ) Fs bl (sl.set q (.s (.slice none 0 0) e Q.sz 0 ([] : List Value))) K := by simpa using hk'
    rw [e3] at hk2
    exact hk2 _ _ (hfi.put hd _) hinv
  · cases hv0
    have hcur : cur.toList = xs.flatten := by
      rw [← htake, List.take_of_length_le (by simp [hcs])]
    cases a2 with
    | none =>
      have hy0 : ys = [] := by
        by_cases h0 : ys = []
        · exact h0
        · obtain ⟨b, o, hbo, _⟩ := hc h0; cases hbo
      subst hy0
      have hl20 : l2 = [] := List.eq_nil_of_length_eq_zero (by simpa using e2.symm)
      subst hl20
      have hr : (Builtin.append_ #[t, t] ty #[.slice (some ⟨g, 0, none⟩) l.length N, .slice none ([] : List α).length m2]).run P w = .ok (.slice (some ⟨g, 0, none⟩) (l.length) N) w := by
        have : l.length ≤ N := by omega
        simp [Builtin.append_, run_underlying hu, sizeOf, typeInfo, hi1, Builtin.lenOf, Builtin.firstCells, this, storeCells]
      rw [hrun hr]
      have hk' := hk _ hnew
      have hx2 : (xs.take l.length ++ ([] : List (List Value)) ++ xs.drop (l.length + ([] : List α).length)) = xs := by simp
      rw [hx2] at hk'
      have e3 : sl.set q (.s (.slice (some ⟨g, 0, none⟩) N N) e Q.sz N xs.flatten) = sl := by
        apply List.ext_getElem?
        intro z
        rw [List.getElem?_set]
        split
        · rename_i hh; subst hh
          split
          · exact hi.symm
          · rename_i hlt; rw [List.getElem?_eq_none (by omega)]
        · rfl
      rw [e3] at hk'
      have hk2 : Cov nt w0 S0 df ((d, .slice (some ⟨g, 0, none⟩) l.length N) :: ρ) Fs bl sl K := by simpa using hk'
      exact hk2 _ _ (hfi.put hd _) hinv
    | some ad =>
      have hnews : ∀ (j : Nat) u, ys.flatten[j]? = some u → w.cell? (ad.add j) = some u := fun j u hj => by
        cases hys : ys with
        | nil => subst hys; simp at hj
        | cons y ys' =>
          obtain ⟨b, o, hbo, hcc⟩ := hc (by rw [hys]; simp)
          obtain rfl := Option.some.inj hbo
          rw [addr_add]
          have hlt : j < ys.length * Q.sz := by
            rw [← hyl ys hls]
            rcases Nat.lt_or_ge j ys.flatten.length with h | h
            · exact h
            · rw [List.getElem?_eq_none h] at hj; cases hj
          have hq : j / Q.sz < ys.length := Nat.div_lt_of_lt_mul (by rw [Nat.mul_comm]; exact hlt)
          have hm : j % Q.sz < Q.sz := Nat.mod_lt _ hpos
          have hlen : (ys[j / Q.sz]).length = Q.sz := hls _ (List.getElem_mem hq)
          have hgf := get_flatten ys (j / Q.sz) _ (j % Q.sz) ((ys[j / Q.sz])[j % Q.sz]'(by omega)) hls (List.getElem?_eq_getElem hq) (List.getElem?_eq_getElem _)
          rw [show j / Q.sz * Q.sz + j % Q.sz = j from by rw [Nat.mul_comm]; exact Nat.div_add_mod j Q.sz] at hgf
          rw [hgf] at hj
          have := hcc (j / Q.sz) _ (List.getElem?_eq_getElem hq) (j % Q.sz) u (by rw [List.getElem?_eq_getElem (by omega)]; exact hj)
          rw [Nat.add_assoc, show j / Q.sz * Q.sz + j % Q.sz = j from by rw [Nat.mul_comm]; exact Nat.div_add_mod j Q.sz] at this
          exact (hinv.mem.fs G hG).cell this
      have hfit : l.length * Q.sz + ys.flatten.length ≤ cur.size := by rw [hfl, hcs, ← Nat.add_mul]; exact Nat.mul_le_mul_right _ hb
      have hr := run_append_room (P := P) w t ty e i hu hi1 g l.length N cur hg ad l2.length m2 ys.flatten (by rw [hs1]; exact hfl) hnews hone hb (by rw [hs1]; exact hfit)
      rw [hrun hr]
      have hk' := hk _ hnew
      rw [List.length_append] at hk'
      refine hk' _ _ (hfi.put hd _) (hinv.set_s q hi (s' := .s (.slice (some ⟨g, 0, none⟩) N N) e Q.sz N _) ?_ ?_ (by simp [OwnS.blocks, Value.ownBlock]) (fun b hb => .inl (by simpa [OwnS.blocks, Value.ownBlock] using hb)))
      · refine ⟨rfl, rfl, rfl, by simp [World.setRow], fun x _ hD => setRow_other w g x _ (by simpa [OwnS.blocks, Value.ownBlock] using hD)⟩
      · have hxl : ∀ c ∈ (xs.take l.length ++ ys ++ xs.drop (l.length + l2.length)), c.length = Q.sz := fun c hc => by
          rcases List.mem_append.1 hc with hc | hc
          · rcases List.mem_append.1 hc with hc | hc
            · exact h3 c (List.mem_of_mem_take hc)
            · exact hls c hc
          · exact h3 c (List.mem_of_mem_drop hc)
        have hnl : (xs.take l.length ++ ys ++ xs.drop (l.length + l2.length)).flatten.length = N * Q.sz := by
          rw [hyl _ hxl]; congr 1; simp only [List.length_append, List.length_take, List.length_drop]; omega
        have tk : xs.flatten.take (l.length * Q.sz) = (xs.take l.length).flatten := by
          have e := List.take_append_drop l.length xs
          conv => lhs; rw [← e, List.flatten_append]
          exact List.take_left' (by rw [hyl _ (fun c hc => h3 c (List.mem_of_mem_take hc))]; congr 1; rw [List.length_take]; omega)
        have dk : xs.flatten.drop (l.length * Q.sz + ys.flatten.length) = (xs.drop (l.length + l2.length)).flatten := by
          have e := List.take_append_drop (l.length + l2.length) xs
          conv => lhs; rw [← e, List.flatten_append]
          refine List.drop_left' ?_
          rw [hyl _ (fun c hc => h3 c (List.mem_of_mem_take hc)), hfl, ← Nat.add_mul]; congr 1; rw [List.length_take]; omega
        refine ⟨hnl, .inr ⟨g, N, _, rfl, Nat.zero_le _, setRow_heap w g _ _ e (0, 0) hg, Nat.le_refl _, hcm, ?_, ?_⟩⟩
        · simp only [List.size_toArray, List.length_append, List.length_take, List.length_drop, Array.length_toList, hs1]
          omega
        · simp only [hs1]
          rw [hcur, tk, dk]
          rw [List.take_of_length_le]
          · simp [List.flatten_append]
          · have := hnl
            simp only [List.flatten_append] at this ⊢
            omega

/-- The slice up to its room. -/
theorem QOp.full {a : Option Addr} {n N sz : Nat} {t el : TypeId} {x hi : Operand} {kk : IntKind} (hx : ev ρ x = some (.slice a n N)) (hh : ev ρ hi = some (.int kk (N : Int))) (hN : N ≠ 0 ∨ a = a) (ht : slOf P t = some el) (hz : szOf P el = some sz) :
    QOp P ρ Fs bl sl (.slice t x none (some hi) none) ty (.slice (if N = 0 then a else a.map (·.add (0 * sz))) N N) := by
  have h := QOp.slice_sl (P := P) (ρ := ρ) (Fs := Fs) (bl := bl) (sl := sl) (ty := ty) (lo := none) (hi := some hi) (l := 0) (h := N) hx rfl ht hz .no (.yes hh (by omega) (by omega)) (by omega) (Nat.le_refl _)
  simpa [subV] using h
theorem add_zero_opt (a : Option Addr) (N sz : Nat) : (if N = 0 then a else a.map (·.add (0 * sz))) = a := by
  split
  · rfl
  · cases a with
    | none => rfl
    | some a => simp [Addr.add]
/-- What was a row is a slice of one's own. -/
theorem Cov.unpad (q t : Nat) {a : Option Addr} {N T sz : Nat} {F : List α} {cs : List Value} (hF : F.length = N) (hi : sl[q]? = some (.s (.slice a N N) T sz N cs)) (ht : ρ.lookup t = some (.slice a N N))
    (h : Cov nt w0 S0 df ((t, .slice a F.length N) :: ρ) Fs bl (sl.set q (.s (.slice a F.length N) T sz F.length cs)) K) : Cov nt w0 S0 df ρ Fs bl sl K := by
  subst hF
  have e3 : sl.set q (.s (.slice a F.length F.length) T sz F.length cs) = sl := by
    apply List.ext_getElem?
    intro z
    rw [List.getElem?_set]
    split
    · rename_i hh; subst hh
      split
      · exact hi.symm
      · rename_i hlt; rw [List.getElem?_eq_none (by omega)]
    · rfl
  rw [e3] at h
  exact Cov.reval t rfl ht h
end
end Go.Proofs.Ytbhmhindommaeaa
