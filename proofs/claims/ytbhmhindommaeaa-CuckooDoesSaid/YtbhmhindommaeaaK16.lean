/-
  Slices of one's own: they grow, are read, are written.
-/
import Derived.Test.YtbhmhindommaeaaK15
import Derived.ArgAppend
namespace Go.Proofs.Ytbhmhindommaeaa
open Go.RowKit

theorem ownsRow_zero {w : World} {base T sz n : Nat} {v : Value} {cs : List Value} (h : w.ownsRow base T sz v n cs) : w.ownsRow 0 T sz v n cs := by
  refine ⟨h.1, ?_⟩
  rcases h.2 with h | ⟨g, cap, cur, h1, _, h2⟩
  · exact .inl h
  · exact .inr ⟨g, cap, cur, h1, Nat.zero_le _, h2⟩

theorem TyI.info {P : Program} {t : TypeId} {agg : Bool} {sz bytes : Nat} {z : List Value} (h : TyI P t agg sz bytes z) : ∃ i zv, P.info? t = some i ∧ i.zero = some zv ∧ i.size = sz ∧ i.bytes = bytes ∧ zv.cells = z.toArray := by
  have h1 := h.sz; have h2 := h.by_; have h3 := h.z
  unfold szOf at h1; unfold byOf at h2; unfold zOf at h3
  cases hi : P.info? t with
  | none => simp [hi] at h1
  | some i =>
    simp only [hi, Option.map_some, Option.some.injEq] at h1 h2
    cases hz : i.zero with
    | none => simp [hi, hz] at h3
    | some zv =>
      simp only [hi, hz, Option.bind_some, Option.map_some, Option.some.injEq] at h3
      exact ⟨i, zv, rfl, hz, h1, h2, by rw [← h3]⟩

section
variable {P : Program} {c : Cx} {R : Value → World → Prop} {nt : Nat} {w0 : World} {S0 : List Nat} {df : List Deferred} {ρ ρ' : Env} {Fs Fs' Fin : List Hp} {bl bl' : Blks} {sl sl' : List OwnS}
  {K K' : Act → World → Prop} {k : List Item} {ty : TypeId}

theorem Keep.of_grown {w w' : World} {r : Option Nat} (h : w.grownBy w' r) : Keep w r.toList w' :=
  ⟨h.os, h.tape, h.output, h.size, fun b hb hn => h.block b hb (fun e => hn (by simp [← e]))⟩

/-- What append does to a slice of one's own. -/
theorem run_append_mine {w : World} {t e : TypeId} {agg : Bool} {sz bytes : Nat} {z : List Value} (ht : slOf P t = some e) (hel : TyI P e agg sz bytes z) (hz : z.length = sz) (hsz : 0 < sz) {v : Value} {n : Nat} {xs : List Value} (hown : w.ownsRow 0 e sz v n xs)
    {a : Option Addr} {m c : Nat} {news : List Value} (ha : a = none → m = 0) (hl : news.length = m * sz) (hnews : ∀ ad, a = some ad → ∀ (j : Nat) u, news[j]? = some u → w.cell? (ad.add j) = some u) (h1 : ∀ u ∈ news, u.oneCell' = true)
    (hb : n + m ≤ 16777216) (hby : bytes ≤ 8388608) :
    ∃ a' cap' w', (Builtin.append_ #[t, t] ty #[v, .slice a m c]).run P w = .ok (.slice a' (n + m) cap') w' ∧ w'.ownsRow 0 e sz (.slice a' (n + m) cap') (n + m) (xs ++ news) ∧ Keep w v.ownBlock.toList w' ∧
      (∀ b, (Value.slice a' (n + m) cap').ownBlock = some b → v.ownBlock = some b ∨ w.heap.size ≤ b) := by
  have hu := slOf_spec ht
  obtain ⟨i, zv, hi, hzi, hs1, hs2, hzc⟩ := hel.info
  have h63 : n + m ≤ maxLen := by simp only [maxLen]; omega
  have hbytes : (n + m) * bytes ≤ 140737488355328 := Nat.le_trans (Nat.mul_le_mul hb hby) (by decide)
  have hzs : zv.cells.size = sz := by rw [hzc]; simpa using hz
  have form : ∀ {v' : Value} {w' : World} {base : Nat} {cs : List Value}, w'.ownsRow base e sz v' (n + m) cs → ∃ a' cap', v' = .slice a' (n + m) cap' := fun h => by
    rcases h.2 with ⟨rfl, h0⟩ | ⟨g, cap, cur, rfl, _⟩
    · exact ⟨none, 0, by rw [h0]⟩
    · exact ⟨_, _, rfl⟩
  have fresh : ∀ {v' : Value} {w' : World} {cs : List Value}, w'.ownsRow w.heap.size e sz v' (n + m) cs → ∀ b, v'.ownBlock = some b → w.heap.size ≤ b := fun h b hb => (h.lt b hb).1
  cases a with
  | none =>
    have hm := ha rfl
    subst hm
    have hn0 : news = [] := List.eq_nil_of_length_eq_zero (by simpa using hl)
    subst hn0
    simp only [Nat.add_zero, List.append_nil]
    rcases hown.2 with ⟨rfl, hn⟩ | ⟨g, cap, cur, rfl, _, _, hnc, _⟩
    · subst hn
      refine ⟨none, 0, w, ?_, hown, Keep.refl _ _, fun b hb => .inl hb⟩
      simp [Builtin.append_, run_underlying hu, sizeOf, typeInfo, hi, Builtin.lenOf, Builtin.firstCells]
    · refine ⟨_, cap, w, ?_, hown, Keep.refl _ _, fun b hb => .inl hb⟩
      simp [Builtin.append_, run_underlying hu, sizeOf, typeInfo, hi, Builtin.lenOf, Builtin.firstCells, hnc, storeCells]
  | some ad =>
    have hnews' := hnews ad rfl
    rcases hown.2 with ⟨rfl, hn⟩ | ⟨g, cap, cur, rfl, _, hg, hnc, hcm, hcs, htake⟩
    · subst hn
      have hx : xs = [] := List.eq_nil_of_length_eq_zero (by simpa using hown.1)
      subst hx
      obtain ⟨v', w', hr, ho, hgr, _⟩ := run_append_own (P := P) w w.heap.size t ty e i zv sz bytes hu hi hzi hs1 hs2 hzs hsz (.slice none 0 0) 0 [] (World.ownsRow_nil w _ e sz) ad m c news hl hnews' h1 h63 hbytes (Nat.le_refl _)
      obtain ⟨a', cap', rfl⟩ := form ho
      exact ⟨a', cap', w', hr, ownsRow_zero ho, Keep.of_grown hgr, fun b hb => .inr (fresh ho b hb)⟩
    · by_cases hroom : n + m ≤ cap
      · have hfit : n * sz + news.length ≤ cur.size := by rw [hl, hcs, ← Nat.add_mul]; exact Nat.mul_le_mul_right _ hroom
        subst hs1
        have hr := run_append_room (P := P) w t ty e i hu hi g n cap cur hg ad m c news hl hnews' h1 hroom hfit
        have hlen : (xs ++ news).length = (n + m) * i.size := by rw [List.length_append, hown.1, hl, Nat.add_mul]
        refine ⟨_, cap, _, hr, ⟨hlen, .inr ⟨g, cap, _, rfl, Nat.zero_le _, setRow_heap w g cur _ e _ hg, hroom, hcm, ?_, ?_⟩⟩, ⟨rfl, rfl, rfl, by simp [World.setRow], fun b _ hD => setRow_other w g b _ (by simpa [Value.ownBlock] using hD)⟩, fun b hb => .inl hb⟩
        · simp only [List.size_toArray, List.length_append, List.length_take, List.length_drop, Array.length_toList]
          omega
        · rw [htake, ← hlen]
          exact List.take_left
      · have holds : ∀ (j : Nat) u, xs[j]? = some u → w.cell? ((⟨g, 0, none⟩ : Addr).add j) = some u := hown.cells (g := g) rfl
        obtain ⟨v', w', hr, ho, hgr⟩ := run_append_arg_grows (P := P) w t ty e i zv sz bytes hu hi hzi hs1 hs2 hzs hsz ⟨g, 0, none⟩ n cap xs hown.1 holds ad m c news hl hnews' (by omega) h63 hbytes
        obtain ⟨a', cap', rfl⟩ := form ho
        refine ⟨a', cap', w', hr, ownsRow_zero ho, ?_, fun b hb => .inr (fresh ho b hb)⟩
        have := Keep.of_grown hgr
        exact ⟨this.os, this.tape, this.output, this.size, fun b hb _ => this.block b hb (by simp)⟩

theorem set_perm_flat (f : OwnS → List Nat) : ∀ (l : List OwnS) (i : Nat) (x y : OwnS), l[i]? = some x → ((l.set i y).flatMap f).Perm (f y ++ (l.eraseIdx i).flatMap f)
  | [], i, x, y, h => by simp at h
  | z :: l, 0, x, y, h => by simp
  | z :: l, i + 1, x, y, h => by
    simp only [List.getElem?_cons_succ] at h
    simp only [List.set_cons_succ, List.eraseIdx_cons_succ, List.flatMap_cons]
    refine ((set_perm_flat f l i x y h).append_left (f z)).trans ?_
    rw [← List.append_assoc, ← List.append_assoc]
    exact List.perm_append_comm.append_right _

/-- Something of one's own has turned. -/
theorem Inv.set_s {w w' : World} (h : Inv w0 S0 Fs bl sl w) (i : Nat) {s s' : OwnS} (hi : sl[i]? = some s) (kw : Keep w s.blocks w') (hs : s'.holds w') (hnd : s'.blocks.Nodup) (hb : ∀ b ∈ s'.blocks, b ∈ s.blocks ∨ w.heap.size ≤ b) : Inv w0 S0 Fs bl (sl.set i s') w' := by
  have hsm : s ∈ sl := List.mem_of_getElem? hi
  have hp1 : (blks bl sl).Perm (s.blocks ++ blks bl (sl.eraseIdx i)) := by
    have h1 := ((perm_erase sl i s hi).flatMap_right OwnS.blocks).append_left (bl.map (·.1))
    refine h1.trans ?_
    simp only [List.flatMap_cons, blks]
    rw [← List.append_assoc, ← List.append_assoc]
    exact List.perm_append_comm.append_right _
  have hp2 : (blks bl (sl.set i s')).Perm (s'.blocks ++ blks bl (sl.eraseIdx i)) := by
    have h1 := (set_perm_flat OwnS.blocks sl i s s' hi).append_left (bl.map (·.1))
    refine h1.trans ?_
    simp only [blks]
    rw [← List.append_assoc, ← List.append_assoc]
    exact List.perm_append_comm.append_right _
  have hnd1 := List.nodup_append.1 (hp1.nodup_iff.1 h.nodup)
  have hsub : ∀ b ∈ s.blocks, b ∈ blks bl sl := fun b hb => hp1.mem_iff.2 (List.mem_append_left _ hb)
  have hrest : ∀ b ∈ blks bl (sl.eraseIdx i), b ∈ blks bl sl ∧ b ∉ s.blocks := fun b hb => ⟨hp1.mem_iff.2 (List.mem_append_right _ hb), fun h => hnd1.2.2 b h b hb rfl⟩
  have hkeep : ∀ b ∈ blks bl (sl.eraseIdx i), w'.heap[b]? = w.heap[b]? := fun b hb => kw.block b (blks_lt h.mem (hrest b hb).1) (hrest b hb).2
  refine h.change s.blocks hsub kw (fun G hG => .inl hG) (fun p hp => ?_) (fun t ht => ?_) (hp2.nodup_iff.2 (List.nodup_append.2 ⟨hnd, hnd1.2.1, fun a ha b hb2 e => ?_⟩)) (fun b hbm => ?_)
  · rw [hkeep p.1 (List.mem_append_left _ (List.mem_map.2 ⟨p, hp, rfl⟩))]; exact h.mem.own p hp
  · obtain ⟨j, hj, rfl⟩ := List.getElem_of_mem ht
    rw [List.getElem_set]
    split
    · exact hs
    · rename_i hne
      have hj' : j < sl.length := by simpa using hj
      refine OwnS.same (h.mem.slh _ (List.getElem_mem hj')) fun b hb => hkeep b (List.mem_append_right _ (List.mem_flatMap.2 ⟨sl[j], ?_, hb⟩))
      exact List.mem_eraseIdx_iff_getElem?.2 ⟨j, fun e => hne e.symm, List.getElem?_eq_getElem hj'⟩
  · subst e
    rcases hb a ha with h1 | h1
    · exact (hrest a hb2).2 h1
    · have := blks_lt h.mem (hrest a hb2).1; omega
  · rcases List.mem_append.1 (hp2.mem_iff.1 hbm) with h1 | h1
    · rcases hb b h1 with h2 | h2
      · exact .inl (hsub b h2)
      · exact .inr h2
    · exact .inl (hrest b h1).1

theorem ownBlock_nodup (v : Value) : v.ownBlock.toList.Nodup := by cases v.ownBlock <;> simp

theorem flatten_len {α : Type} {f : α → List Value} {sz : Nat} (hf : ∀ x, (f x).length = sz) : ∀ l : List α, (l.map f).flatten.length = l.length * sz
  | [] => by simp
  | x :: l => by simp only [List.map_cons, List.flatten_cons, List.length_append, hf, flatten_len hf l, List.length_cons, Nat.add_mul]; omega

/-- append: a slice of one's own grows by what reads. -/
theorem Cov.append {α : Type} (i : Nat) (l l2 : List α) (f : α → List Value) {d : Nat} {t e : TypeId} {s x : Operand} {a a2 : Option Addr} {cap m c2 : Nat} {G : Hp} {agg : Bool} {sz bytes : Nat} {z : List Value}
    (hs : Stp P K' ⟨some d, .call ⟨.builtin .append, #[s, x], #[t, t]⟩, ty, none⟩ K) (ht : slOf P t = some e) (hel : TyI P e agg sz bytes z) (hz : z.length = sz) (hsz : Nat.blt 0 sz = true) (hby : Nat.ble bytes 8388608 = true)
    (hi : sl[i]? = some (.s (.slice a l.length cap) e sz l.length (l.map f).flatten)) (he : ev ρ s = some (.slice a l.length cap)) (hx : ev ρ x = some (.slice a2 m c2)) (hsl : Sl G sz (.slice a2 m c2) (l2.map f)) (hG : G ∈ Fs)
    (hone : ∀ x ∈ l2, (f x).all (·.oneCell') = true) (hb : l.length + l2.length ≤ 16777216) (hd : Nat.blt d nt = true)
    (hk : ∀ a' cap', Cov nt w0 S0 df ((d, .slice a' (l ++ l2).length cap') :: ρ) Fs bl (sl.set i (.s (.slice a' (l ++ l2).length cap') e sz (l ++ l2).length ((l ++ l2).map f).flatten)) K) : Cov nt w0 S0 df ρ Fs bl sl K' := fun a w hfi hinv => by
  refine hs a w ?_
  have hown : w.ownsRow 0 e sz _ _ _ := hinv.mem.slh _ (List.mem_of_getElem? hi)
  obtain ⟨a3, c3, hv, hlc, hls, hc⟩ := hsl
  simp only [List.length_map, Value.slice.injEq] at hv hlc
  obtain ⟨rfl, rfl, rfl⟩ := hv
  have hfl : (l2.map f).flatten.length = l2.length * sz := by
    have : ∀ l2 : List α, (∀ x ∈ l2.map f, x.length = sz) → (l2.map f).flatten.length = l2.length * sz := by
      intro l2
      induction l2 with
      | nil => simp
      | cons x l2 ih =>
        intro h
        simp only [List.map_cons, List.flatten_cons, List.length_append, List.length_cons, Nat.add_mul, Nat.one_mul]
        rw [ih (fun y hy => h y (by simp [hy])), h (f x) (by simp)]; omega
    exact this l2 hls
  obtain ⟨a', cap', w', hr, ho, kw, hfr⟩ := run_append_mine (P := P) (ty := ty) (w := w) ht hel hz (by simpa [Nat.blt_eq] using hsz) hown (a := a2) (m := l2.length) (c := c2) (news := (l2.map f).flatten)
    (fun hn => by
      cases l2 with
      | nil => rfl
      | cons y l2 => obtain ⟨b, o, hbo, _⟩ := hc (by simp); rw [hn] at hbo; cases hbo)
    hfl
    (fun ad had j u hj => by
      cases l2 with
      | nil => simp at hj
      | cons y l2 =>
        obtain ⟨b, o, hbo, hcc⟩ := hc (by simp)
        rw [had] at hbo
        obtain rfl := Option.some.inj hbo
        rw [addr_add]
        have hpos : 0 < sz := by simpa [Nat.blt_eq] using hsz
        have hlt : j < (y :: l2).length * sz := by
          rw [← hfl]
          rcases Nat.lt_or_ge j (((y :: l2).map f).flatten.length) with h | h
          · exact h
          · rw [List.getElem?_eq_none h] at hj; cases hj
        have hq : j / sz < (y :: l2).length := Nat.div_lt_of_lt_mul (by rw [Nat.mul_comm]; exact hlt)
        have hm : j % sz < sz := Nat.mod_lt _ hpos
        have hxq : ((y :: l2).map f)[j / sz]? = some (f ((y :: l2)[j / sz])) := by rw [List.getElem?_map, List.getElem?_eq_getElem hq]; rfl
        have hlen : (f ((y :: l2)[j / sz])).length = sz := hls _ (List.mem_map.2 ⟨_, List.getElem_mem hq, rfl⟩)
        have hg := get_flatten ((y :: l2).map f) (j / sz) _ (j % sz) ((f ((y :: l2)[j / sz]))[j % sz]'(by omega)) hls hxq (List.getElem?_eq_getElem _)
        rw [show j / sz * sz + j % sz = j from by rw [Nat.mul_comm]; exact Nat.div_add_mod j sz] at hg
        rw [hg] at hj
        have := hcc (j / sz) _ hxq (j % sz) u (by rw [List.getElem?_eq_getElem (by omega)]; exact hj)
        rw [Nat.add_assoc, show j / sz * sz + j % sz = j from by rw [Nat.mul_comm]; exact Nat.div_add_mod j sz] at this
        exact (hinv.mem.fs G hG).cell this)
    (fun u hu => by
      obtain ⟨y, hy, huy⟩ := List.mem_flatten.1 hu
      obtain ⟨x, hxm, rfl⟩ := List.mem_map.1 hy
      exact List.all_eq_true.1 (hone x hxm) u huy) hb (by simpa [Nat.ble_eq] using hby)
  have hrun : (execOp a.eval (⟨some d, .call ⟨.builtin .append, #[s, x], #[t, t]⟩, ty, none⟩ : OpX).oper).run P w = .ok (.value (.slice a' (l.length + l2.length) cap')) w' := by
    refine run_builtin (run_v (s := Builtin.append_ #[t, t] ty (#[s, x].map a.eval)) ?_)
    rw [show #[s, x].map a.eval = #[a.eval s, a.eval x] from by simp, ev_sound hfi he, ev_sound hfi hx]
    exact hr
  unfold Oper.wp
  rw [hrun]
  have hk' := hk a' cap'
  simp only [List.length_append, List.map_append, List.flatten_append] at hk'
  refine hk' _ _ (hfi.put hd _) (hinv.set_s i hi kw ho (ownBlock_nodup _) fun b hb => ?_)
  simp only [OwnS.blocks, Option.mem_toList] at hb ⊢
  exact hfr b hb

/-- nil, as a slice of one's own, said by a list. -/
theorem Cov.own_nil_m {α : Type} (f : α → List Value) (T : TypeId) (sz : Nat) (h : Cov nt w0 S0 df ρ Fs bl (.s (.slice none ([] : List α).length 0) T sz ([] : List α).length (([] : List α).map f).flatten :: sl) K) : Cov nt w0 S0 df ρ Fs bl sl K :=
  Cov.own_nil T sz h

/-- A list, written otherwise. -/
theorem Cov.reown {α : Type} (i : Nat) (l l' : List α) (he : l = l') (f : α → List Value) {v : Value} {T : TypeId} {sz : Nat} (hi : sl[i]? = some (.s v T sz l.length (l.map f).flatten)) (sl' : List OwnS) (hsl : sl.set i (.s v T sz l'.length (l'.map f).flatten) = sl')
    (h : Cov nt w0 S0 df ρ Fs bl sl' K) : Cov nt w0 S0 df ρ Fs bl sl K := by
  subst he
  have : sl.set i (.s v T sz l.length (l.map f).flatten) = sl := by
    have hlt : i < sl.length := by rcases Nat.lt_or_ge i sl.length with h | h; exact h; rw [List.getElem?_eq_none h] at hi; cases hi
    rw [List.getElem?_eq_getElem hlt] at hi
    rw [← Option.some.inj hi]
    exact List.set_getElem_self _
  rw [this] at hsl
  subst hsl
  exact h

theorem own_form {α : Type} {w : World} {T sz : Nat} {l : List α} {f : α → List Value} {a : Option Addr} {cap : Nat} (h : w.ownsRow 0 T sz (.slice a l.length cap) l.length (l.map f).flatten) (hl : 0 < l.length) : ∃ g cur, a = some ⟨g, 0, none⟩ ∧ w.heap[g]? = some (.cells cur T (0, 0)) ∧ cur.toList.take (l.length * sz) = (l.map f).flatten ∧ cur.size = cap * sz ∧ l.length ≤ cap := by
  rcases h.2 with ⟨_, h0⟩ | ⟨g, cap', cur, h1, _, h2, h3, _, h4, h5⟩
  · omega
  · cases h1
    exact ⟨g, cur, rfl, h2, h5, h4, h3⟩

/-- The address of an element of a slice of one's own. -/
theorem QOp.indexAddr_o {α : Type} (i : Nat) {l : List α} {f : α → List Value} {a : Option Addr} {cap T sz : Nat} {t el : TypeId} {x j : Operand} {k : IntKind} {n : Int} (hs : sl[i]? = some (.s (.slice a l.length cap) T sz l.length (l.map f).flatten)) (hx : ev ρ x = some (.slice a l.length cap))
    (hj : ev ρ j = some (.int k n)) (ht : slOf P t = some el) (hz : szOf P el = some sz) (h0 : 0 ≤ n) (h1 : n < (l.length : Int)) : QOp P ρ Fs bl sl (.indexAddr t x j) ty (elemPtr (.slice a l.length cap) n.toNat sz) := .of fun e he w hm => by
  obtain ⟨g, cur, rfl, _⟩ := own_form (hm.slh _ (List.mem_of_getElem? hs)) (by omega)
  refine run_v (s := Instr.indexAt t (e x) (e j)) ?_
  rw [he x _ hx, he j _ hj]
  exact run_indexAt ht hz h0 h1

theorem own_cell {α : Type} {w : World} {T sz : Nat} {l : List α} {f : α → List Value} {a : Option Addr} {cap : Nat} (h : w.ownsRow 0 T sz (.slice a l.length cap) l.length (l.map f).flatten) (hf : ∀ x, (f x).length = sz) (d : α) {k : Nat} (hk : k < l.length) :
    ∃ g, a = some ⟨g, 0, none⟩ ∧ ∀ (o : Nat) (v : Value), (f (l.getD k d))[o]? = some v → w.cell? ⟨g, k * sz + o, none⟩ = some v := by
  obtain ⟨g, cur, rfl, h1, h2, _, _⟩ := own_form h (by omega)
  refine ⟨g, rfl, fun o v hv => ?_⟩
  have hg := get_flatten (l.map f) k (f (l.getD k d)) o v (fun x hx => by obtain ⟨y, _, rfl⟩ := List.mem_map.1 hx; exact hf y) (by rw [List.getElem?_map, List.getD_eq_getElem?_getD, List.getElem?_eq_getElem hk]; rfl) hv
  have hol : o < (f (l.getD k d)).length := by rcases Nat.lt_or_ge o (f (l.getD k d)).length with h | h; exact h; rw [List.getElem?_eq_none h] at hv; cases hv
  rw [hf] at hol
  have hlt : k * sz + o < l.length * sz := by
    have : (k + 1) * sz ≤ l.length * sz := Nat.mul_le_mul_right _ hk
    rw [Nat.add_mul] at this
    omega
  rw [← h2, List.getElem?_take_of_lt hlt] at hg
  rw [cell_of_row w g _ cur T (0, 0) h1]
  simpa using hg

/-- An element of a slice of one's own (one cell). -/
theorem QOp.load_o {α : Type} (i : Nat) (d : α) {l : List α} {f : α → List Value} {a : Option Addr} {cap T sz k : Nat} {t : TypeId} {x : Operand} {s bytes : Nat} {z : List Value} {v : Value} (hs : sl[i]? = some (.s (.slice a l.length cap) T sz l.length (l.map f).flatten)) (hx : ev ρ x = some (elemPtr (.slice a l.length cap) k sz))
    (hf : ∀ x, (f x).length = sz) (hk : k < l.length) (ht : TyI P t false s bytes z) (hv : (f (l.getD k d))[0]? = some v) : QOp P ρ Fs bl sl (.load t x) ty v := .of fun e he w hm => by
  obtain ⟨g, rfl, hc⟩ := own_cell (hm.slh _ (List.mem_of_getElem? hs)) hf d hk
  refine run_v (s := Instr.loadAt t (e x)) ?_
  rw [he x _ hx]
  simp only [elemPtr, addr_add, Nat.zero_add]
  exact run_loadVar_s (run_isAgg ht.agg) (by simpa using hc 0 v hv)
/-- An element of a slice of one's own (a struct). -/
theorem QOp.load_o_a {α : Type} (i : Nat) (d : α) (r : List Value) {l : List α} {f : α → List Value} {a : Option Addr} {cap T sz k : Nat} {t : TypeId} {x : Operand} {bytes : Nat} {z : List Value} (hs : sl[i]? = some (.s (.slice a l.length cap) T sz l.length (l.map f).flatten)) (hx : ev ρ x = some (elemPtr (.slice a l.length cap) k sz))
    (hf : ∀ x, (f x).length = sz) (hk : k < l.length) (ht : TyI P t true r.length bytes z) (hv : (f (l.getD k d)).take r.length = r) : QOp P ρ Fs bl sl (.load t x) ty (.agg r.toArray) := .of fun e he w hm => by
  obtain ⟨g, rfl, hc⟩ := own_cell (hm.slh _ (List.mem_of_getElem? hs)) hf d hk
  refine run_v (s := Instr.loadAt t (e x)) ?_
  rw [he x _ hx]
  simp only [elemPtr, addr_add, Nat.zero_add]
  refine run_loadVar_a (run_isAgg ht.agg) (run_sizeOf ht.sz) fun j v hj => hc j v ?_
  have hl : j < r.length := by rcases Nat.lt_or_ge j r.length with h | h; exact h; rw [List.getElem?_eq_none h] at hj; cases hj
  rw [← hv, List.getElem?_take_of_lt hl] at hj
  exact hj
end
end Go.Proofs.Ytbhmhindommaeaa
