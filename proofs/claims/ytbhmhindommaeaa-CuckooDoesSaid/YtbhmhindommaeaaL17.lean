/-
  What is one's own, read for a while; a slice that is appended to and cut back.
-/
import Derived.Test.YtbhmhindommaeaaL16
namespace Go.Proofs.Ytbhmhindommaeaa
open Go.RowKit
set_option linter.unusedVariables false

theorem sub3_full {a a' : Option Addr} {n k i j sz n' k' : Nat} (h : subV3 (.slice a n k) i j j sz = .slice a' n' k') : k' = n' := by
  simp only [subV3, Value.slice.injEq] at h
  omega

/-- What append does to a slice of one's own: in place, or elsewhere. -/
theorem run_append_two {P : Program} {ty : TypeId} {w : World} {t e : TypeId} {agg : Bool} {sz bytes : Nat} {z : List Value} (ht : slOf P t = some e) (hel : TyI P e agg sz bytes z) (hz : z.length = sz) (hsz : 0 < sz) {v : Value} {n : Nat} {xs : List Value} (hown : w.ownsRow 0 e sz v n xs)
    {a : Option Addr} {m c : Nat} {news : List Value} (ha : a = none → m = 0) (hl : news.length = m * sz) (hnews : ∀ ad, a = some ad → ∀ (j : Nat) u, news[j]? = some u → w.cell? (ad.add j) = some u) (h1 : ∀ u ∈ news, u.oneCell' = true)
    (hb : n + m ≤ 16777216) (hby : bytes ≤ 8388608) :
    ∃ a' cap' w', (Builtin.append_ #[t, t] ty #[v, .slice a m c]).run P w = .ok (.slice a' (n + m) cap') w' ∧ w'.ownsRow 0 e sz (.slice a' (n + m) cap') (n + m) (xs ++ news) ∧
      ((v = .slice a' n cap' ∧ Keep w v.ownBlock.toList w') ∨ (Keep w [] w' ∧ ∃ b, (Value.slice a' (n + m) cap').ownBlock = some b ∧ w.heap.size ≤ b)) := by
  have hu := slOf_spec ht
  obtain ⟨i, zv, hi, hzi, hs1, hs2, hzc⟩ := hel.info
  have h63 : n + m ≤ maxLen := by simp only [maxLen]; omega
  have hbytes : (n + m) * bytes ≤ 140737488355328 := Nat.le_trans (Nat.mul_le_mul hb hby) (by decide)
  have hzs : zv.cells.size = sz := by rw [hzc]; simpa using hz
  have form : ∀ {v' : Value} {w' : World} {base : Nat} {cs : List Value}, w'.ownsRow base e sz v' (n + m) cs → ∃ a' cap', v' = .slice a' (n + m) cap' := fun h => by
    rcases h.2 with ⟨rfl, h0⟩ | ⟨g, cap, cur, rfl, _⟩
    · exact ⟨none, 0, by rw [h0]⟩
    · exact ⟨_, _, rfl⟩
  have fresh : ∀ {v' : Value} {w' : World} {cs : List Value}, w'.ownsRow w.heap.size e sz v' (n + m) cs → 0 < n + m → ∃ b, v'.ownBlock = some b ∧ w.heap.size ≤ b := fun h hpos => by
    rcases h.2 with ⟨rfl, h0⟩ | ⟨g, cap, cur, rfl, hge, _⟩
    · omega
    · exact ⟨g, rfl, hge⟩
  cases a with
  | none =>
    have hm := ha rfl
    subst hm
    have hn0 : news = [] := List.eq_nil_of_length_eq_zero (by simpa using hl)
    subst hn0
    simp only [Nat.add_zero, List.append_nil]
    rcases hown.2 with ⟨rfl, hn⟩ | ⟨g, cap, cur, rfl, _, _, hnc, _⟩
    · subst hn
      refine ⟨none, 0, w, ?_, hown, .inl ⟨rfl, Keep.refl _ _⟩⟩
      simp [Builtin.append_, run_underlying hu, sizeOf, typeInfo, hi, Builtin.lenOf, Builtin.firstCells]
    · refine ⟨_, cap, w, ?_, hown, .inl ⟨rfl, Keep.refl _ _⟩⟩
      simp [Builtin.append_, run_underlying hu, sizeOf, typeInfo, hi, Builtin.lenOf, Builtin.firstCells, hnc, storeCells]
  | some ad =>
    have hnews' := hnews ad rfl
    rcases hown.2 with ⟨rfl, hn⟩ | ⟨g, cap, cur, rfl, _, hg, hnc, hcm, hcs, htake⟩
    · subst hn
      have hx : xs = [] := List.eq_nil_of_length_eq_zero (by simpa using hown.1)
      subst hx
      by_cases hm0 : m = 0
      · subst hm0
        have hn0 : news = [] := List.eq_nil_of_length_eq_zero (by simpa using hl)
        subst hn0
        refine ⟨none, 0, w, ?_, by simpa using hown, .inl ⟨rfl, Keep.refl _ _⟩⟩
        simp [Builtin.append_, run_underlying hu, sizeOf, typeInfo, hi, Builtin.lenOf, Builtin.firstCells, loadCells, loadCellsFrom]
      · obtain ⟨v', w', hr, ho, hgr, _⟩ := run_append_own (P := P) w w.heap.size t ty e i zv sz bytes hu hi hzi hs1 hs2 hzs hsz (.slice none 0 0) 0 [] (World.ownsRow_nil w _ e sz) ad m c news hl hnews' h1 h63 hbytes (Nat.le_refl _)
        obtain ⟨a', cap', rfl⟩ := form ho
        exact ⟨a', cap', w', hr, ownsRow_zero ho, .inr ⟨Keep.of_grown hgr, fresh ho (by omega)⟩⟩
    · by_cases hroom : n + m ≤ cap
      · have hfit : n * sz + news.length ≤ cur.size := by rw [hl, hcs, ← Nat.add_mul]; exact Nat.mul_le_mul_right _ hroom
        subst hs1
        have hr := run_append_room (P := P) w t ty e i hu hi g n cap cur hg ad m c news hl hnews' h1 hroom hfit
        have hlen : (xs ++ news).length = (n + m) * i.size := by rw [List.length_append, hown.1, hl, Nat.add_mul]
        refine ⟨_, cap, _, hr, ⟨hlen, .inr ⟨g, cap, _, rfl, Nat.zero_le _, setRow_heap w g cur _ e _ hg, hroom, hcm, ?_, ?_⟩⟩, .inl ⟨rfl, ⟨rfl, rfl, rfl, by simp [World.setRow], fun b _ hD => setRow_other w g b _ (by simpa [Value.ownBlock] using hD)⟩⟩⟩
        · simp only [List.size_toArray, List.length_append, List.length_take, List.length_drop, Array.length_toList]
          omega
        · rw [htake, ← hlen]
          exact List.take_left
      · have holds : ∀ (j : Nat) u, xs[j]? = some u → w.cell? ((⟨g, 0, none⟩ : Addr).add j) = some u := hown.cells (g := g) rfl
        obtain ⟨v', w', hr, ho, hgr⟩ := run_append_arg_grows (P := P) w t ty e i zv sz bytes hu hi hzi hs1 hs2 hzs hsz ⟨g, 0, none⟩ n cap xs hown.1 holds ad m c news hl hnews' (by omega) h63 hbytes
        obtain ⟨a', cap', rfl⟩ := form ho
        exact ⟨a', cap', w', hr, ownsRow_zero ho, .inr ⟨Keep.of_grown hgr, fresh ho (by omega)⟩⟩

/-- What is left of a slice to which was appended. -/
def restG (old new : OwnS) : Guest where
  blks := if old.blocks = new.blocks then [] else (if old.blocks.Nodup then old.blocks else [])
  nodup := by
    split
    · exact List.nodup_nil
    · split
      · assumption
      · exact List.nodup_nil
  holds w := old.blocks.Nodup ∧ (old.blocks = new.blocks ∨ old.holds w)
  lt w h b hb := by
    split at hb
    · simp at hb
    · rename_i hne
      rw [if_pos h.1] at hb
      rcases h.2 with h2 | h2
      · exact absurd h2 hne
      · exact OwnS.lt h2 b hb
  same w w' h e := by
    refine ⟨h.1, ?_⟩
    rcases h.2 with h2 | h2
    · exact .inl h2
    · by_cases hq : old.blocks = new.blocks
      · exact .inl hq
      · exact .inr (OwnS.same h2 fun b hb => e b (by rw [if_neg hq, if_pos h.1]; exact hb))

section
variable {P : Program} {c : Cx} {R : Value → World → Prop} {nt : Nat} {w0 : World} {S0 : List Nat} {df : List Deferred} {ρ ρ' : Env} {Fs Fs' Fin B : List Hp} {bl bl' : Blks} {sl sl' : List OwnS}
  {K K' : Act → World → Prop} {k : List Item} {ty : TypeId} {α : Type} {G : Hp}

/-- From here on sB, which lies first, reads; until it is given back. -/
theorem Cov.openB {sB s2 : List OwnS} (hsl : sl = sB ++ s2) (hB : Bd w0 S0 B G)
    (hk : ∀ G', HpLe G G' → Bd w0 S0 B G' → (∀ s ∈ sB, Rd s G') → (∀ (G2 : Hp) (ρ' : Env) (df' : List Deferred) (bo : Blks) (so : List OwnS) (K' : Act → World → Prop), HpLe G' G2 → Cov nt w0 S0 df' ρ' (G :: B) bo (sB ++ so) K' → Cov nt w0 S0 df' ρ' (G2 :: B) bo so K') →
      Cov nt w0 S0 df ρ (G' :: B) bl s2 K) : Cov nt w0 S0 df ρ (G :: B) bl sl K := fun a w hf hi => by
  subst hsl
  have hi' : Inv w0 S0 (G :: B) bl ([] ++ (sB ++ s2)) w := hi
  obtain ⟨G', hle, hrd, hi2, hbd, _⟩ := hi'.lendB
  have hnd0 : (sB.flatMap OwnS.blocks).Nodup := by
    have h1 := hi.nodup
    simp only [blks, List.flatMap_append] at h1
    exact (List.nodup_append.1 (List.nodup_append.1 h1).2.1).1
  have hmine : ∀ b ∈ sB.flatMap OwnS.blocks, b ∈ blks bl (sB ++ s2) := fun b hb => by
    simp only [blks, List.flatMap_append, List.mem_append]; exact .inr (.inl hb)
  have hsome : ∀ b ∈ sB.flatMap OwnS.blocks, ∃ o, G' b = some o := fun b hb => by
    obtain ⟨s, hs, hb⟩ := List.mem_flatMap.1 hb
    obtain ⟨w', h1, h2⟩ := hrd s hs
    rw [h2 b hb]
    exact ⟨_, Array.getElem?_eq_getElem (OwnS.lt h1 b hb)⟩
  refine Cov.less (Fs' := G' :: B) (fun F hF => by rcases List.mem_cons.1 hF with rfl | hF; exact List.mem_cons_self; exact List.mem_cons_of_mem _ (List.mem_cons_of_mem _ hF)) (hk G' hle (hbd B hB) hrd fun G2 ρ' df' bo so K' hle2 hc a' w' hf' hinv' => ?_) a w hf hi2
  refine hc a' w' hf' ?_
  have hG2 := hinv'.mem.fs G2 List.mem_cons_self
  have hin : HpIn G' w' := fun b o hb => hG2 b o (hle2 b o hb)
  have hblk : ∀ b, b ∈ blks bo (sB ++ so) ↔ b ∈ sB.flatMap OwnS.blocks ∨ b ∈ blks bo so := fun b => by
    simp only [blks, List.flatMap_append, List.mem_append]
    constructor
    · rintro (h | h | h) <;> simp [h]
    · rintro (h | h | h) <;> simp [h]
  have hperm : (blks bo (sB ++ so)).Perm (sB.flatMap OwnS.blocks ++ blks bo so) := by
    simp only [blks, List.flatMap_append]
    exact List.perm_append_comm_assoc _ _ _
  refine ⟨⟨fun F hF => ?_, hinv'.mem.own, fun s hs => ?_⟩, hinv'.keep, ?_, fun b hb => ?_, fun b hb F hF => ?_⟩
  · rcases List.mem_cons.1 hF with rfl | hF
    · exact fun b o hb => hin b o (hle b o hb)
    · exact hinv'.mem.fs F (List.mem_cons_of_mem _ hF)
  · rcases List.mem_append.1 hs with h | h
    · obtain ⟨w1, h1, h2⟩ := hrd s h
      refine OwnS.same h1 fun b hb => ?_
      obtain ⟨o, ho⟩ := hsome b (List.mem_flatMap.2 ⟨s, h, hb⟩)
      rw [hin b o ho, ← ho, h2 b hb]
    · exact hinv'.mem.slh s h
  · rw [hperm.nodup_iff, List.nodup_append]
    refine ⟨hnd0, hinv'.nodup, fun x hx y hy e => ?_⟩
    subst e
    obtain ⟨o, ho⟩ := hsome x hx
    have := hinv'.apart x hy G2 List.mem_cons_self
    rw [hle2 x o ho] at this
    cases this
  · rcases (hblk b).1 hb with h | h
    · exact hi.mine b (hmine b h)
    · exact hinv'.mine b h
  · rcases (hblk b).1 hb with h | h
    · exact hi.apart b (hmine b h) F hF
    · rcases List.mem_cons.1 hF with rfl | hF
      · cases hg : F b with
        | none => rfl
        | some o =>
          have := hinv'.apart b h G2 List.mem_cons_self
          rw [hle2 b o (hle b o hg)] at this
          cases this
      · exact hinv'.apart b h F (List.mem_cons_of_mem _ hF)

/-- append to a slice of one's own that is needed again as it is (it lies first). -/
theorem Cov.appA {Q : Rep α} {d : Nat} {t e : TypeId} {s x : Operand} {a a2 : Option Addr} {m m2 n : Nat} {l l2 l' : List α} {cs : List Value} {agg : Bool} {sz bytes : Nat} {z : List Value} {s2 : List OwnS}
    (hs : Stp P K' ⟨some d, .call ⟨.builtin .append, #[s, x], #[t, t]⟩, ty, none⟩ K) (ht : slOf P t = some e) (hel : TyI P e agg sz bytes z) (hz : z.length = sz) (hsz : Nat.blt 0 sz = true) (hby : Nat.ble bytes 8388608 = true)
    (hsl : sl = .s (.slice a l.length m) e sz l.length cs :: s2) (hn : sz = Q.sz) (ho : OL Q G cs l) (he : ev ρ s = some (.slice a l.length m)) (hx : ev ρ x = some (.slice a2 n m2)) (h2 : SlR Q G a2 m2 l2) (hln : n = l2.length) (hG : G ∈ Fs) (hl : lapp l l2 = some l') (hd : Nat.blt d nt = true)
    (hk : ∀ a' m' cs', OL Q G cs' l' → (∀ (ρ' : Env) (bl' : Blks) (so : List OwnS) (Fs' : List Hp) (K2 : Act → World → Prop), Cov nt w0 S0 df ρ' Fs' bl' (.s (.slice a l.length m) e sz l.length cs :: so) K2 →
        Cov nt w0 S0 df ρ' Fs' bl' (.s (.slice a' l'.length m') e sz l'.length cs' :: .g (restG (.s (.slice a l.length m) e sz l.length cs) (.s (.slice a' l'.length m') e sz l'.length cs')) :: so) K2) →
      Cov nt w0 S0 df ((d, .slice a' l'.length m') :: ρ) Fs bl (.s (.slice a' l'.length m') e sz l'.length cs' :: .g (restG (.s (.slice a l.length m) e sz l.length cs) (.s (.slice a' l'.length m') e sz l'.length cs')) :: s2) K) : Cov nt w0 S0 df ρ Fs bl sl K' := fun aa w hfi hinv => by
  subst hn hln hsl
  obtain ⟨hb, rfl⟩ := lapp_some hl
  obtain ⟨ys, hy1, hy2, hyn, hyc⟩ := h2.cells
  have hown : w.ownsRow 0 e Q.sz (.slice a l.length m) l.length cs := hinv.mem.slh _ List.mem_cons_self
  have hcl := ho.clen
  have e2 : ys.flatten.length = l2.length * Q.sz := by rw [flat_len hy1, hy2.1]
  have hpos : 0 < Q.sz := by simpa [Nat.blt_eq] using hsz
  have hone : ∀ u ∈ ys.flatten, u.oneCell' = true := fun u hu' => by
    obtain ⟨y, hy, huy⟩ := List.mem_flatten.1 hu'
    obtain ⟨j, hj, rfl⟩ := List.getElem_of_mem hy
    exact List.all_eq_true.1 (Q.one (hy2.2 j _ _ (List.getElem?_eq_getElem hj) (List.getElem?_eq_getElem (by rw [← hy2.1]; exact hj)))) u huy
  have hG' := hinv.mem.fs G hG
  obtain ⟨a', cap', w', hr, hw, htwo⟩ := run_append_two (P := P) (ty := ty) (w := w) ht hel hz hpos hown (a := a2) (m := l2.length) (c := m2) (news := ys.flatten) (fun h => by rw [hyn h]; rfl) e2 (fun ad had j u hj => hyc w hG' ad had j u hj) hone hb (by simpa [Nat.ble_eq] using hby)
  have hrun : (execOp aa.eval (⟨some d, .call ⟨.builtin .append, #[s, x], #[t, t]⟩, ty, none⟩ : OpX).oper).run P w = .ok (.value (.slice a' (l.length + l2.length) cap')) w' := by
    refine run_builtin (run_v (s := Builtin.append_ #[t, t] ty (#[s, x].map aa.eval)) ?_)
    rw [show #[s, x].map aa.eval = #[aa.eval s, aa.eval x] from by simp, ev_sound hfi he, ev_sound hfi hx]
    exact hr
  have hOL : OL Q G (cs ++ ys.flatten) (l ++ l2) := by
    obtain ⟨_, xs, rfl, hx1, hx2⟩ := ho
    exact ⟨by simp; omega, xs ++ ys, by simp, fun c hc => by rcases List.mem_append.1 hc with h | h; exact hx1 c h; exact hy1 c h, by simp [hx2.1, hy2.1], fun i c y hc hy => by
      rcases Nat.lt_or_ge i xs.length with h | h
      · rw [List.getElem?_append_left h] at hc
        rw [List.getElem?_append_left (by rw [← hx2.1]; exact h)] at hy
        exact hx2.2 i c y hc hy
      · rw [List.getElem?_append_right h] at hc
        rw [List.getElem?_append_right (by rw [← hx2.1]; exact h), ← hx2.1] at hy
        exact hy2.2 _ c y hc hy⟩
  have e3 : l.length + l2.length = (l ++ l2).length := by simp
  rw [e3] at hrun hw htwo
  have hndo : (OwnS.s (.slice a l.length m) e Q.sz l.length cs).blocks.Nodup := ownBlock_nodup _
  have hlto := OwnS.lt (s := .s (.slice a l.length m) e Q.sz l.length cs) hown
  generalize hov : OwnS.s (.slice a l.length m) e Q.sz l.length cs = old at *
  generalize hnv : OwnS.s (.slice a' (l ++ l2).length cap') e Q.sz (l ++ l2).length (cs ++ ys.flatten) = new at *
  have hnew : new.holds w' := by rw [← hnv]; exact hw
  -- the two ways
  have hq : (old.blocks = new.blocks ∧ a = a' ∧ m = cap' ∧ Keep w old.blocks w') ∨ (old.blocks ≠ new.blocks ∧ Keep w [] w' ∧ ∃ b, new.blocks = [b] ∧ w.heap.size ≤ b) := by
    rcases htwo with ⟨hv, kw⟩ | ⟨kw, b, hb1, hb2⟩
    · simp only [Value.slice.injEq] at hv
      obtain ⟨rfl, _, rfl⟩ := hv
      refine .inl ⟨?_, rfl, rfl, ?_⟩
      · rw [← hov, ← hnv]; cases a <;> rfl
      · rw [← hov]; exact kw
    · have hbn : new.blocks = [b] := by rw [← hnv]; show (Value.ownBlock _).toList = _; rw [hb1]; rfl
      refine .inr ⟨fun h => ?_, kw, b, hbn, hb2⟩
      have := hlto b (by rw [h, hbn]; simp)
      omega
  have hwand : ∀ (ρ' : Env) (bl' : Blks) (so : List OwnS) (Fs' : List Hp) (K2 : Act → World → Prop), Cov nt w0 S0 df ρ' Fs' bl' (old :: so) K2 → Cov nt w0 S0 df ρ' Fs' bl' (new :: .g (restG old new) :: so) K2 := by
    intro ρ' bl' so Fs' K2 hc a2 w2 hf2 hi2
    rcases hq with ⟨hbq, rfl, rfl, _⟩ | ⟨hbq, _⟩
    · have hb : blks bl' (old :: so) = blks bl' (new :: .g (restG old new) :: so) := by
        have : (restG old new).blks = [] := if_pos hbq
        show bl'.map (·.1) ++ (old.blocks ++ so.flatMap OwnS.blocks) = bl'.map (·.1) ++ (new.blocks ++ ((restG old new).blks ++ so.flatMap OwnS.blocks))
        rw [this, hbq]; rfl
      have hh : new.holds w2 := hi2.mem.slh _ List.mem_cons_self
      refine hc a2 w2 hf2 (hi2.change [] (by simp) (Keep.refl _ _) (fun F hF => .inl hF) hi2.mem.own (fun s hs => ?_) (by rw [hb]; exact hi2.nodup) (fun b hb' => .inl (by rwa [hb] at hb')))
      rcases List.mem_cons.1 hs with rfl | hs
      · rw [← hov]; rw [← hnv] at hh
        have hh' : w2.ownsRow 0 e Q.sz (.slice a (l ++ l2).length m) (l ++ l2).length (cs ++ ys.flatten) := hh
        rcases hh'.2 with ⟨hv, h0⟩ | ⟨g, cap, cur, hv, hge, hg, hnc, hcm, hcs, htk⟩
        · simp only [Value.slice.injEq] at hv
          obtain ⟨rfl, h1, rfl⟩ := hv
          have hl0 : l.length = 0 := by simp at h1; simp [h1]
          have hc0 : cs = [] := List.eq_nil_of_length_eq_zero (by rw [hcl, hl0]; simp)
          show w2.ownsRow 0 e Q.sz _ _ _
          rw [hl0, hc0]; exact World.ownsRow_nil w2 0 e Q.sz
        · simp only [Value.slice.injEq] at hv
          obtain ⟨rfl, _, rfl⟩ := hv
          refine ⟨hcl, .inr ⟨g, m, cur, rfl, hge, hg, by simp at hnc; omega, hcm, hcs, ?_⟩⟩
          have h5 : cs = ((cur.toList.take ((l ++ l2).length * Q.sz))).take (l.length * Q.sz) := by rw [htk]; exact (List.take_left' hcl).symm
          rw [List.take_take] at h5
          have h6 : min (l.length * Q.sz) ((l ++ l2).length * Q.sz) = l.length * Q.sz := Nat.min_eq_left (Nat.mul_le_mul_right _ (by simp))
          rw [h6] at h5
          exact h5.symm
      · exact hi2.mem.slh s (List.mem_cons_of_mem _ (List.mem_cons_of_mem _ hs))
    · have hh : (restG old new).holds w2 := hi2.mem.slh _ (List.mem_cons_of_mem _ List.mem_cons_self)
      have hb : (restG old new).blks = old.blocks := by show (if _ then _ else _) = _; rw [if_neg hbq, if_pos hndo]
      have hsub : (blks bl' (old :: so)).Sublist (blks bl' (new :: .g (restG old new) :: so)) := by
        simp only [blks, List.flatMap_cons]
        refine List.Sublist.append (List.Sublist.refl _) ?_
        show (old.blocks ++ _).Sublist (new.blocks ++ ((restG old new).blks ++ _))
        rw [hb]
        exact List.sublist_append_right _ _
      refine hc a2 w2 hf2 (hi2.change [] (by simp) (Keep.refl _ _) (fun F hF => .inl hF) hi2.mem.own (fun s hs => ?_) (hi2.nodup.sublist hsub) (fun b hb' => .inl (hsub.subset hb')))
      rcases List.mem_cons.1 hs with rfl | hs
      · rcases hh.2 with h | h
        · exact absurd h hbq
        · exact h
      · exact hi2.mem.slh s (List.mem_cons_of_mem _ (List.mem_cons_of_mem _ hs))
  refine hs aa w ?_
  unfold Oper.wp
  rw [hrun]
  refine hk a' cap' (cs ++ ys.flatten) hOL (by rw [hnv]; exact hwand) _ _ (hfi.put hd _) ?_
  rw [hnv]
  rcases hq with ⟨hbq, _, _, kw⟩ | ⟨hbq, kw, b, hbn, hbge⟩
  · have h1 := hinv.set_s 0 rfl (s' := new) kw hnew (by rw [← hbq]; exact hndo) (fun b hb => .inl (by rw [hbq]; exact hb))
    have hb : blks bl (new :: .g (restG old new) :: s2) = blks bl ((old :: s2).set 0 new) := by
      have : (restG old new).blks = [] := if_pos hbq
      show bl.map (·.1) ++ (new.blocks ++ ((restG old new).blks ++ s2.flatMap OwnS.blocks)) = bl.map (·.1) ++ (new.blocks ++ s2.flatMap OwnS.blocks)
      rw [this]; rfl
    refine h1.change [] (by simp) (Keep.refl _ _) (fun F hF => .inl hF) h1.mem.own (fun s hs => ?_) (by rw [hb]; exact h1.nodup) (fun b hb' => .inl (by rwa [hb] at hb'))
    rcases List.mem_cons.1 hs with rfl | hs
    · exact hnew
    · rcases List.mem_cons.1 hs with rfl | hs
      · exact ⟨hndo, .inl hbq⟩
      · exact h1.mem.slh s (by simp [hs])
  · have hold : old.holds w := by rw [← hov]; exact hown
    have hb : (restG old new).blks = old.blocks := by show (if _ then _ else _) = _; rw [if_neg hbq, if_pos hndo]
    have hlt : ∀ b ∈ blks bl (old :: s2), b < w.heap.size := fun b hb => blks_lt hinv.mem hb
    have hbl : blks bl (new :: .g (restG old new) :: s2) = bl.map (·.1) ++ ([b] ++ (old.blocks ++ s2.flatMap OwnS.blocks)) := by
      simp only [blks, List.flatMap_cons]
      show _ ++ (new.blocks ++ ((restG old new).blks ++ _)) = _
      rw [hb, hbn]
    have hperm : (blks bl (new :: .g (restG old new) :: s2)).Perm (b :: blks bl (old :: s2)) := by
      rw [hbl]; exact List.perm_append_comm_assoc _ _ _
    refine hinv.change [] (by simp) kw (fun F hF => .inl hF) (fun p hp => ?_) (fun s hs => ?_) ?_ (fun x hx => ?_)
    · rw [kw.block p.1 (own_lt (hinv.mem.own p hp)) (by simp)]; exact hinv.mem.own p hp
    · have hk2 : ∀ {s : OwnS}, s.holds w → s.holds w' := fun {s} h => OwnS.same h fun b hb => kw.block b (OwnS.lt h b hb) (by simp)
      rcases List.mem_cons.1 hs with rfl | hs
      · exact hnew
      · rcases List.mem_cons.1 hs with rfl | hs
        · exact ⟨hndo, .inr (hk2 hold)⟩
        · exact hk2 (hinv.mem.slh s (List.mem_cons_of_mem _ hs))
    · rw [hperm.nodup_iff, List.nodup_cons]
      exact ⟨fun h => by have := hlt b h; omega, hinv.nodup⟩
    · rcases List.mem_cons.1 (hperm.mem_iff.1 hx) with rfl | h
      · exact .inr hbge
      · exact .inl h
end
end Go.Proofs.Ytbhmhindommaeaa
