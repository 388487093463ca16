/-
  s[:h:m]; append to a full slice that reads; shifts and masks.
-/
import Derived.Test.YtbhmhindommaeaaL15
namespace Go.Proofs.Ytbhmhindommaeaa
open Go.RowKit
set_option linter.unusedVariables false

theorem sub3_cap {a a' : Option Addr} {n k i j mx sz n' k' : Nat} (h : subV3 (.slice a n k) i j mx sz = .slice a' n' k') : k' = mx - i := by
  simp only [subV3, Value.slice.injEq] at h
  exact h.2.2.symm

theorem SlR.cells {α : Type} {Q : Rep α} {G : Hp} {a : Option Addr} {k : Nat} {l : List α} (h : SlR Q G a k l) : ∃ xs : List (List Value), (∀ x ∈ xs, x.length = Q.sz) ∧ RL Q G xs l ∧ (a = none → l = []) ∧
    ∀ w, HpIn G w → ∀ ad, a = some ad → ∀ (j : Nat) u, xs.flatten[j]? = some u → w.cell? (ad.add j) = some u := by
  have hnil : a = none → l = [] := fun e => h.isnil (by simp [e])
  obtain ⟨_, xs, ⟨a', cap, hv, hc, hsz, hcc⟩, hrl⟩ := h
  simp only [Value.slice.injEq] at hv
  obtain ⟨rfl, hlen, rfl⟩ := hv
  refine ⟨xs, hsz, hrl, hnil, fun w hw ad had j u hj => ?_⟩
  have hne : xs ≠ [] := by rintro rfl; simp at hj
  obtain ⟨b, o, hb, hcell⟩ := hcc hne
  rw [had] at hb
  cases hb
  have hfl := flat_len hsz
  have hlt : j < xs.length * Q.sz := by rw [← hfl]; exact (List.getElem?_eq_some_iff.1 hj).1
  have hpos : 0 < Q.sz := by
    rcases Nat.eq_zero_or_pos Q.sz with h | h
    · rw [h] at hlt; omega
    · exact h
  have hq : j / Q.sz < xs.length := Nat.div_lt_of_lt_mul (by rw [Nat.mul_comm]; exact hlt)
  have hm : j % Q.sz < Q.sz := Nat.mod_lt _ hpos
  have hxq : xs[j / Q.sz]? = some xs[j / Q.sz] := List.getElem?_eq_getElem hq
  have hl2 := hsz _ (List.getElem_mem hq)
  have hg := get_flatten xs (j / Q.sz) _ (j % Q.sz) ((xs[j / Q.sz])[j % Q.sz]'(by omega)) hsz hxq (List.getElem?_eq_getElem _)
  have hdm : j / Q.sz * Q.sz + j % Q.sz = j := by rw [Nat.mul_comm]; exact Nat.div_add_mod j Q.sz
  rw [hdm] at hg
  rw [hg] at hj
  have := hcell (j / Q.sz) _ hxq (j % Q.sz) u (by rw [List.getElem?_eq_getElem (by omega)]; exact hj)
  rw [Nat.add_assoc, hdm] at this
  rw [addr_add]
  exact hw.cell this

section
variable {P : Program} {c : Cx} {R : Value → World → Prop} {nt : Nat} {w0 : World} {S0 : List Nat} {df : List Deferred} {ρ ρ' : Env} {Fs Fs' Fin B : List Hp} {bl bl' : Blks} {sl sl' : List OwnS}
  {K K' : Act → World → Prop} {k : List Item} {ty : TypeId} {α : Type} {G : Hp}

theorem QOp.slice3n {sz : Nat} {len cap : Nat} {a : Option Addr} {t el : TypeId} {x hi mx : Operand} {k2 k3 : IntKind} {h m : Int} (hx : ev ρ x = some (.slice a len cap)) (hh : ev ρ hi = some (.int k2 h)) (hm : ev ρ mx = some (.int k3 m)) (ht : slOf P t = some el) (hz : szOf P el = some sz)
    (h1 : 0 ≤ h) (h2 : h ≤ m) (h3 : m ≤ (cap : Int)) : QOp P ρ Fs bl sl (.slice t x none (some hi) (some mx)) ty (subV3 (.slice a len cap) 0 h.toNat m.toNat sz) := .of fun e he w _ => by
  have hu := slOf_spec ht
  refine run_v (s := Instr.sliceAt t (e x) none (some (e hi)) (some (e mx))) ?_
  rw [he x _ hx, he hi _ hh, he mx _ hm]
  unfold Instr.sliceAt
  rw [Sem.run_bind, run_underlying hu]
  simp only [Result.andThen_ok]
  unfold Instr.slice
  rw [Sem.run_bind, run_underlying hu]
  simp only [Result.andThen_ok]
  have hb : (Instr.sliceBounds true len cap none (some (.int k2 h)) (some (.int k3 m))).run P w = .ok (0, h.toNat, m.toNat) w := by
    unfold Instr.sliceBounds
    have e1 : 0 ≤ m := by omega
    have e3 : h ≤ ((m.toNat : Nat) : Int) := by omega
    have e5 : h ≤ max m 0 := by omega
    simp [Instr.sliceBound, asIntOf, h1, h3, e1, e5]
  rw [Sem.run_bind, hb]
  simp only [Result.andThen_ok]
  rw [Sem.run_bind, run_sizeOf hz]
  rfl
theorem QOp.sliceR3n {Q : Rep α} {a a' : Option Addr} {m m' : Nat} {l l' : List α} {j mx : Int} {t el : TypeId} {x hi xm : Operand} {k2 k3 : IntKind} (hs : SlR Q G a m l) (hx : ev ρ x = some (.slice a l.length m)) (hl : lsub3 l 0 j mx = some l')
    (ht : slOf P t = some el) (hz : szOf P el = some Q.sz) (hhi : ev ρ hi = some (.int k2 j)) (hmx : ev ρ xm = some (.int k3 mx)) (hv : subV3 (.slice a l.length m) (0 : Int).toNat j.toNat mx.toNat Q.sz = .slice a' l'.length m') :
    QOp P ρ Fs bl sl (.slice t x none (some hi) (some xm)) ty (.slice a' l'.length m') := by
  obtain ⟨h1, h2, h3⟩ := lsub3_some hl
  obtain ⟨h4, h5, h6, _⟩ := lsub_some h3
  obtain ⟨_, xs, ⟨_, cap, hvv, hle, _⟩, hlen, _⟩ := hs
  simp only [Value.slice.injEq] at hvv
  obtain ⟨rfl, _, rfl⟩ := hvv
  exact .cast hv (.slice3n hx hhi hmx ht hz h5 h1 (by omega))

/-- append to a slice that reads and is full. -/
theorem Cov.appF {Q : Rep α} {d : Nat} {t e : TypeId} {s x : Operand} {a a2 : Option Addr} {m m2 n : Nat} {l l2 l' : List α} {agg : Bool} {sz bytes : Nat} {z : List Value}
    (hs : Stp P K' ⟨some d, .call ⟨.builtin .append, #[s, x], #[t, t]⟩, ty, none⟩ K) (ht : slOf P t = some e) (hel : TyI P e agg sz bytes z) (hz : z.length = sz) (hsz : Nat.blt 0 sz = true) (hby : Nat.ble bytes 8388608 = true)
    (hn : sz = Q.sz) (he : ev ρ s = some (.slice a l.length m)) (h1 : SlR Q G a m l) (hm : m = l.length) (hx : ev ρ x = some (.slice a2 n m2)) (h2 : SlR Q G a2 m2 l2) (hln : n = l2.length) (hl : lapp l l2 = some l') (hd : Nat.blt d nt = true) (hB : Bd w0 S0 B G)
    (hk : ∀ a' m' G', HpLe G G' → Bd w0 S0 B G' → SlR Q G' a' m' l' → Cov nt w0 S0 df ((d, .slice a' l'.length m') :: ρ) (G' :: B) bl sl K) : Cov nt w0 S0 df ρ (G :: B) bl sl K' := by
  subst hn hln hm
  obtain ⟨hb, rfl⟩ := lapp_some hl
  have hu := slOf_spec ht
  obtain ⟨ii, zv, hi, hzi, hs1, hs2, hzc⟩ := hel.info
  have hbytes : (l.length + l2.length) * bytes ≤ 140737488355328 := Nat.le_trans (Nat.mul_le_mul hb (by simpa [Nat.ble_eq] using hby)) (by decide)
  have h63 : l.length + l2.length ≤ maxLen := by simp only [maxLen]; omega
  have hzs : zv.cells.size = Q.sz := by rw [hzc]; simpa using hz
  have hpos : 0 < Q.sz := by simpa [Nat.blt_eq] using hsz
  by_cases h0 : l2 = []
  · subst h0
    intro aa w hfi hinv
    refine hs aa w ?_
    have hrun : (execOp aa.eval (⟨some d, .call ⟨.builtin .append, #[s, x], #[t, t]⟩, ty, none⟩ : OpX).oper).run P w = .ok (.value (.slice a l.length l.length)) w := by
      refine run_builtin (run_v (s := Builtin.append_ #[t, t] ty (#[s, x].map aa.eval)) ?_)
      rw [show #[s, x].map aa.eval = #[aa.eval s, aa.eval x] from by simp, ev_sound hfi he, ev_sound hfi hx]
      have hfc : (Builtin.firstCells ii.size 0 (.slice a2 0 m2)).run P w = .ok #[] w := by
        cases a2 with
        | none => rfl
        | some ad => simp [Builtin.firstCells, loadCells, loadCellsFrom]
      have hsto : (match a with | some ad => storeCells (ad.add (l.length * ii.size)) (#[] : Array Value).toList | none => pure ()).run P w = .ok () w := by
        cases a <;> simp [storeCells]
      cases a with
      | none => simp [Builtin.append_, run_underlying hu, sizeOf, typeInfo, hi, Builtin.lenOf, hfc]
      | some ad => simp [Builtin.append_, run_underlying hu, sizeOf, typeInfo, hi, Builtin.lenOf, hfc, storeCells]
    unfold Oper.wp
    rw [hrun]
    have hk' := hk a l.length G (HpLe.refl _) hB (by simpa using h1)
    simp only [List.append_nil] at hk'
    exact hk' _ _ (hfi.put hd _) hinv
  · obtain ⟨xs, hx1, hx2, hxn, hxc⟩ := h1.cells
    obtain ⟨ys, hy1, hy2, hyn, hyc⟩ := h2.cells
    have hl2 : 0 < l2.length := List.length_pos_iff.2 h0
    have e1 : xs.flatten.length = l.length * Q.sz := by rw [flat_len hx1, hx2.1]
    have e2 : ys.flatten.length = l2.length * Q.sz := by rw [flat_len hy1, hy2.1]
    have hOL : OL Q G (xs.flatten ++ ys.flatten) (l ++ l2) := ⟨by simp; omega, xs ++ ys, by simp, fun c hc => by rcases List.mem_append.1 hc with h | h; exact hx1 c h; exact hy1 c h, by simp [hx2.1, hy2.1], fun i c y hc hy => by
      rcases Nat.lt_or_ge i xs.length with h | h
      · rw [List.getElem?_append_left h] at hc
        rw [List.getElem?_append_left (by rw [← hx2.1]; exact h)] at hy
        exact hx2.2 i c y hc hy
      · rw [List.getElem?_append_right h] at hc
        rw [List.getElem?_append_right (by rw [← hx2.1]; exact h), ← hx2.1] at hy
        exact hy2.2 _ c y hc hy⟩
    refine Cov.own_nil e Q.sz fun aa w hfi hinv => ?_
    refine hs aa w ?_
    have hG := hinv.mem.fs G List.mem_cons_self
    have hrun : ∃ a' cap' w', (Builtin.append_ #[t, t] ty #[.slice a l.length l.length, .slice a2 l2.length m2]).run P w = .ok (.slice a' (l.length + l2.length) cap') w' ∧ w'.ownsRow 0 e Q.sz (.slice a' (l.length + l2.length) cap') (l.length + l2.length) (xs.flatten ++ ys.flatten) ∧ Keep w [] w' ∧
        (∀ b, (Value.slice a' (l.length + l2.length) cap').ownBlock = some b → w.heap.size ≤ b) := by
      obtain ⟨ad2, hod2⟩ : ∃ ad2, a2 = some ad2 := by
        cases a2 with
        | none => exact absurd (hyn rfl) h0
        | some ad => exact ⟨ad, rfl⟩
      subst hod2
      have hone : ∀ u ∈ ys.flatten, u.oneCell' = true := fun u hu' => by
        obtain ⟨y, hy, huy⟩ := List.mem_flatten.1 hu'
        obtain ⟨j, hj, rfl⟩ := List.getElem_of_mem hy
        exact List.all_eq_true.1 (Q.one (hy2.2 j _ _ (List.getElem?_eq_getElem hj) (List.getElem?_eq_getElem (by rw [← hy2.1]; exact hj)))) u huy
      cases a with
      | none =>
        have hl0 := hxn rfl
        subst hl0
        have hx0 : xs = [] := List.eq_nil_of_length_eq_zero (by simpa using hx2.1)
        subst hx0
        obtain ⟨a', cap', w', hr, ho, kw, hfr⟩ := run_append_mine (P := P) (ty := ty) (w := w) ht hel hz hpos (v := .slice none 0 0) (n := 0) (xs := []) (World.ownsRow_nil w 0 e Q.sz) (a := some ad2) (m := l2.length) (c := m2) (news := ys.flatten) (fun h => by cases h) e2 (fun ad had j u hj => by cases had; exact hyc w hG _ rfl j u hj) hone (by omega) (by simpa [Nat.ble_eq] using hby)
        refine ⟨a', cap', w', by simpa using hr, by simpa using ho, by simpa [Value.ownBlock] using kw, fun b hb => ?_⟩
        rcases hfr b (by simpa using hb) with h | h
        · cases h
        · exact h
      | some ad =>
        obtain ⟨v', w', hr, ho, hgr⟩ := run_append_arg_grows (P := P) w t ty e ii zv Q.sz bytes hu hi hzi hs1 hs2 hzs hpos ad l.length l.length xs.flatten e1 (hxc w hG ad rfl) ad2 l2.length m2 ys.flatten e2 (hyc w hG ad2 rfl) (by omega) h63 hbytes
        obtain ⟨a', cap', rfl⟩ : ∃ a' cap', v' = .slice a' (l.length + l2.length) cap' := by
          rcases ho.2 with ⟨rfl, h⟩ | ⟨g, cap, cur, rfl, _⟩
          · omega
          · exact ⟨_, _, rfl⟩
        exact ⟨a', cap', w', hr, ownsRow_zero ho, Keep.of_grown hgr, fun b hb => (ho.lt b hb).1⟩
    obtain ⟨a', cap', w', hr, ho, kw, hfr⟩ := hrun
    have hrun : (execOp aa.eval (⟨some d, .call ⟨.builtin .append, #[s, x], #[t, t]⟩, ty, none⟩ : OpX).oper).run P w = .ok (.value (.slice a' (l.length + l2.length) cap')) w' := by
      refine run_builtin (run_v (s := Builtin.append_ #[t, t] ty (#[s, x].map aa.eval)) ?_)
      rw [show #[s, x].map aa.eval = #[aa.eval s, aa.eval x] from by simp, ev_sound hfi he, ev_sound hfi hx]
      exact hr
    unfold Oper.wp
    rw [hrun]
    have e3 : l.length + l2.length = (l ++ l2).length := by simp
    rw [e3] at ho hfr ⊢
    refine Cov.freezeR (sl := .s (.slice a' (l ++ l2).length cap') e Q.sz (l ++ l2).length (xs.flatten ++ ys.flatten) :: sl) 0 rfl rfl hOL sl rfl hB (fun G' hle hB' hs' => hk a' cap' G' hle hB' hs') _ _ (hfi.put hd _) (hinv.set_s 0 rfl (s' := .s (.slice a' (l ++ l2).length cap') e Q.sz (l ++ l2).length (xs.flatten ++ ys.flatten)) (by simpa [OwnS.blocks, Value.ownBlock] using kw) ho (ownBlock_nodup _) fun b hb => .inr (hfr b (by simpa [OwnS.blocks] using hb)))
end
end Go.Proofs.Ytbhmhindommaeaa
