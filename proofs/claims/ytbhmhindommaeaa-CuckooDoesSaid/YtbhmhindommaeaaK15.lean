/-
  Calls in general: blocks and resources lent, heaps handed back; results that lie in memory; slices of one's own that grow.
-/
import Derived.Test.YtbhmhindommaeaaK14
namespace Go.Proofs.Ytbhmhindommaeaa
open Go.RowKit

/-- Called where Fs reads, and bin and sin are lent, it returns, and: Post. -/
def RetG (P : Program) (f : FuncId) (args : Array Value) (Fs : List Hp) (bin : Blks) (sin : List OwnS) (Post : Value → Hp → Blks → List OwnS → Prop) : Prop :=
  ∀ w, (∀ G ∈ Fs, HpIn G w) → (∀ p ∈ bin, w.heap[p.1]? = some p.2) → (∀ s ∈ sin, s.holds w) → (blks bin sin).Nodup → (∀ b ∈ blks bin sin, ∀ G ∈ Fs, G b = none) → CallsV P f args w (RP w (blks bin sin) Fs Post)

theorem blks_append (a b : Blks) (s t : List OwnS) (x : Nat) : x ∈ blks (a ++ b) (s ++ t) ↔ x ∈ blks a s ∨ x ∈ blks b t := by
  simp only [blks, List.map_append, List.flatMap_append, List.mem_append]
  constructor
  · rintro ((h | h) | (h | h)) <;> simp [h]
  · rintro ((h | h) | (h | h)) <;> simp [h]
theorem blks_perm (a b : Blks) (s t : List OwnS) : (blks (a ++ b) (s ++ t)).Perm (blks a s ++ blks b t) := by
  simp only [blks, List.map_append, List.flatMap_append]
  rw [List.append_assoc, List.append_assoc]
  refine List.Perm.append_left _ ?_
  rw [← List.append_assoc, ← List.append_assoc]
  exact List.perm_append_comm.append_right _

section
variable {P : Program} {c : Cx} {R : Value → World → Prop} {nt : Nat} {w0 : World} {S0 : List Nat} {df : List Deferred} {ρ ρ' : Env} {Fs Fs' Fin : List Hp} {bl bl' : Blks} {sl sl' : List OwnS}
  {K K' : Act → World → Prop} {k : List Item} {ty : TypeId}

theorem RetG.of {f : FuncId} {fn : Func} {code : Code} {vs : List Value} {bin : Blks} {sin : List OwnS} {Post : Value → Hp → Blks → List OwnS → Prop} (hf : P.funcs[f]? = some fn) (hb : fn.body = some code) (hn : fn.ntmps = nt) (ρ0 : Env) (hρ : ArgsOk vs ρ0) (hlen : Nat.ble vs.length nt = true)
    (h : ∀ w0, Cov nt w0 (blks bin sin) [] ρ0 Fs bin sin (Run P ⟨f, none⟩ (RP w0 (blks bin sin) Fs Post) [.code code])) : RetG P f vs.toArray Fs bin sin Post := by
  intro w h1 h2 h2s h3 h4 cs
  have hlen' : vs.length ≤ nt := by simpa [Nat.ble_eq] using hlen
  obtain ⟨v, w', hR, fr, hs, hfn, hl⟩ := h w { tmps := vs.toArray ++ Array.replicate (nt - vs.length) undef, defers := [] } w
    ⟨rfl, by simp; omega, fun t v ht => by
      have := hρ.spec t v ht
      have hlt : t < vs.length := by rcases Nat.lt_or_ge t vs.length with h | h; exact h; rw [List.getElem?_eq_none h] at this; cases this
      simp only
      rw [Array.getElem?_append_left (by simpa using hlt)]
      simpa using this⟩
    ⟨⟨h1, h2, h2s⟩, Keep.refl w _, h3, fun b hb => .inl hb, h4⟩ cs (by simp)
  have henter : Frame.enter P f vs.toArray .normal = (⟨f, none⟩ : Cx).fr { tmps := vs.toArray ++ Array.replicate (nt - vs.length) undef, defers := [] } [.code code] := by
    simp [Frame.enter, Cx.fr, hf, hb, hn]
  refine ⟨.returned v, w', fr, ⟨v, rfl, hR⟩, ?_, hfn, hl⟩
  rw [henter]
  exact hs

/-- After a call in a state. -/
theorem Inv.calledG {w w' : World} {b1 b2 : Blks} {s1 s2 : List OwnS} (hi : Inv w0 S0 Fs (b1 ++ b2) (s1 ++ s2) w) {Fr : Hp} {bo : Blks} {so : List OwnS} (hfr : Fresh w Fr) (ho : Inv w (blks b1 s1) (Fr :: Fs) bo so w') :
    Inv w0 S0 (Fr :: Fs) (bo ++ b2) (so ++ s2) w' := by
  have hnd := (blks_perm b1 b2 s1 s2).nodup_iff.1 hi.nodup
  have hrest : ∀ b ∈ blks b2 s2, b ∈ blks (b1 ++ b2) (s1 ++ s2) ∧ b ∉ blks b1 s1 := fun b hb =>
    ⟨(blks_append _ _ _ _ _).2 (.inr hb), fun h => (List.nodup_append.1 hnd).2.2 b h b hb rfl⟩
  have hlt : ∀ b ∈ blks b2 s2, b < w.heap.size := fun b hb => blks_lt hi.mem (hrest b hb).1
  have hkeep : ∀ b ∈ blks b2 s2, w'.heap[b]? = w.heap[b]? := fun b hb => ho.keep.block b (hlt b hb) (hrest b hb).2
  have hD : ∀ b ∈ blks b1 s1, b ∈ blks (b1 ++ b2) (s1 ++ s2) := fun b hb => (blks_append _ _ _ _ _).2 (.inl hb)
  refine hi.change (blks b1 s1) hD ho.keep (fun G hG => ?_) (fun p hp => ?_) (fun s hs => ?_) ?_ (fun b hb => ?_)
  · rcases List.mem_cons.1 hG with rfl | hG
    · refine .inr ⟨ho.mem.fs _ List.mem_cons_self, fun b hb => ?_⟩
      rcases (blks_append _ _ _ _ _).1 hb with h | h
      · exact ho.apart b h _ List.mem_cons_self
      · cases hg : G b with
        | none => rfl
        | some o => have := hfr b o hg; have := hlt b h; omega
    · exact .inl hG
  · rcases List.mem_append.1 hp with hp | hp
    · exact ho.mem.own p hp
    · rw [hkeep p.1 (List.mem_append_left _ (List.mem_map.2 ⟨p, hp, rfl⟩))]
      exact hi.mem.own p (List.mem_append_right _ hp)
  · rcases List.mem_append.1 hs with hs | hs
    · exact ho.mem.slh s hs
    · exact OwnS.same (hi.mem.slh s (List.mem_append_right _ hs)) fun b hb => hkeep b (List.mem_append_right _ (List.mem_flatMap.2 ⟨s, hs, hb⟩))
  · rw [(blks_perm bo b2 so s2).nodup_iff, List.nodup_append]
    refine ⟨ho.nodup, (List.nodup_append.1 hnd).2.1, fun a ha b hb e => ?_⟩
    subst e
    rcases ho.mine a ha with h | h
    · exact (hrest a hb).2 h
    · have := hlt a hb; omega
  · rcases (blks_append _ _ _ _ _).1 hb with h | h
    · rcases ho.mine b h with h | h
      · exact .inl (hD b h)
      · exact .inr h
    · exact .inl (hrest b h).1

theorem RetG.use {f : FuncId} {args : Array Value} {b1 b2 : Blks} {s1 s2 : List OwnS} {Post : Value → Hp → Blks → List OwnS → Prop} (hr : RetG P f args Fs b1 s1 Post) {w : World} (hi : Inv w0 S0 Fs (b1 ++ b2) (s1 ++ s2) w) :
    CallsV P f args w (RP w (blks b1 s1) Fs Post) := by
  have hnd := (blks_perm b1 b2 s1 s2).nodup_iff.1 hi.nodup
  exact hr w hi.mem.fs (fun p hp => hi.mem.own p (List.mem_append_left _ hp)) (fun s hs => hi.mem.slh s (List.mem_append_left _ hs)) (List.nodup_append.1 hnd).1 (fun b hb G hG => hi.apart b ((blks_append _ _ _ _ _).2 (.inl hb)) G hG)

/-- A call: b1 and s1 are lent. -/
theorem Cov.callg {b1 b2 : Blks} {s1 s2 : List OwnS} (vs cap : List Value) {d : Nat} {f : FuncId} {fop : Operand} {args : Array Operand} {ts : Array TypeId} {Post : Value → Hp → Blks → List OwnS → Prop} (hs : Stp P K' ⟨some d, .call ⟨.value fop, args, ts⟩, ty, none⟩ K)
    (hf : ev ρ fop = some (.func (.func f) #[] cap.toArray)) (ha : args.toList.map (ev ρ) = vs.map some) (hcall : ∀ args w, (callFunc f args).run P w = .ok (.enter f args) w) (hbl : bl = b1 ++ b2) (hsl : sl = s1 ++ s2) (hr : RetG P f (vs ++ cap).toArray Fs b1 s1 Post) (hd : Nat.blt d nt = true)
    (hk : ∀ v Fr bo so, Fresh w0 Fr → Post v Fr bo so → Cov nt w0 S0 df ((d, v) :: ρ) (Fr :: Fs) (bo ++ b2) (so ++ s2) K) : Cov nt w0 S0 df ρ Fs bl sl K' := fun a w hfi hi => by
  subst hbl hsl
  refine hs a w ?_
  unfold Oper.wp
  have := run_call (P := P) (ty := ty) (ts := ts) (dst := some d) (w := w) hf ha (fun x u hx => ev_sound hfi hx) hcall
  rw [show (⟨some d, .call ⟨.value fop, args, ts⟩, ty, none⟩ : OpX).oper = ⟨some d, .call ⟨.value fop, args, ts⟩, ty, "", #[], none⟩ from rfl, this]
  refine Calls.mono (hr.use hi) fun e w' ⟨v, he, Fr, bo, so, h1, h2, h3⟩ => ?_
  subst he
  exact hk v Fr bo so (fun b o hb => Nat.le_trans hi.keep.size (h1 b o hb)) h3 _ _ (hfi.put hd v) (hi.calledG h1 h2)

/-- A call that hands back a value that lies in memory: Q of any heap that holds what was there and what is new. -/
def RetX (P : Program) (f : FuncId) (args : Array Value) (Fs : List Hp) (Q : Value → Hp → Prop) : Prop :=
  Ret P f args Fs [] fun v Fr bl sl => (∀ G', Ext (Fr :: Fs) G' → Q v G') ∧ bl = [] ∧ sl = []
/-- The same, where one block is lent. -/
def RetLX (P : Program) (f : FuncId) (args : Array Value) (Fs : List Hp) (p : Nat × Obj) (Q : Value → Obj → Hp → Prop) : Prop :=
  Ret P f args Fs [p] fun v Fr bl sl => ∃ o', (∀ G', Ext (Fr :: Fs) G' → Q v o' G') ∧ bl = [(p.1, o')] ∧ sl = []

theorem Cov.callx (vs cap : List Value) {d : Nat} {f : FuncId} {fop : Operand} {args : Array Operand} {ts : Array TypeId} {Q : Value → Hp → Prop} (hs : Stp P K' ⟨some d, .call ⟨.value fop, args, ts⟩, ty, none⟩ K)
    (hf : ev ρ fop = some (.func (.func f) #[] cap.toArray)) (ha : args.toList.map (ev ρ) = vs.map some) (hcall : ∀ args w, (callFunc f args).run P w = .ok (.enter f args) w) (hr : RetX P f (vs ++ cap).toArray Fs Q) (hd : Nat.blt d nt = true) (hbd : ∀ G ∈ Fs, Bd w0 S0 Fin G)
    (hk : ∀ v G', Ext Fs G' → Bd w0 S0 Fin G' → Q v G' → Cov nt w0 S0 df ((d, v) :: ρ) (G' :: Fs) bl sl K) : Cov nt w0 S0 df ρ Fs bl sl K' :=
  Cov.call 0 vs cap hs hf ha hcall hr hd fun v Fr bo so hfr h => by
    obtain ⟨hq, rfl, rfl⟩ := h
    refine Cov.union (bd_cons (.fresh hfr) hbd) fun G' he hb => ?_
    refine Cov.less (G' :: Fs) (fun G hG => ?_) (hk v G' (fun G hG => he G (List.mem_cons_of_mem _ hG)) hb (hq G' he))
    rcases List.mem_cons.1 hG with rfl | hG
    · exact List.mem_cons_self
    · exact List.mem_cons_of_mem _ (List.mem_cons_of_mem _ hG)
theorem Cov.calllx (i : Nat) (vs cap : List Value) {d : Nat} {f : FuncId} {fop : Operand} {args : Array Operand} {ts : Array TypeId} {p : Nat × Obj} {Q : Value → Obj → Hp → Prop} (hs : Stp P K' ⟨some d, .call ⟨.value fop, args, ts⟩, ty, none⟩ K)
    (hf : ev ρ fop = some (.func (.func f) #[] cap.toArray)) (ha : args.toList.map (ev ρ) = vs.map some) (hcall : ∀ args w, (callFunc f args).run P w = .ok (.enter f args) w) (hp : bl[i]? = some p) (hr : RetLX P f (vs ++ cap).toArray Fs p Q) (hd : Nat.blt d nt = true) (hbd : ∀ G ∈ Fs, Bd w0 S0 Fin G)
    (hk : ∀ v o' G', Ext Fs G' → Bd w0 S0 Fin G' → Q v o' G' → Cov nt w0 S0 df ((d, v) :: ρ) (G' :: Fs) (bl.set i (p.1, o')) sl K) : Cov nt w0 S0 df ρ Fs bl sl K' :=
  Cov.permB (perm_erase bl i p hp) (Cov.call 1 vs cap hs hf ha hcall hr hd fun v Fr bo so hfr h => by
    obtain ⟨o', hq, rfl, rfl⟩ := h
    refine Cov.union (bd_cons (.fresh hfr) hbd) fun G' he hb => ?_
    refine Cov.less (G' :: Fs) (fun G hG => ?_) (Cov.permB ?_ (hk v o' G' (fun G hG => he G (List.mem_cons_of_mem _ hG)) hb (hq G' he)))
    · rcases List.mem_cons.1 hG with rfl | hG
      · exact List.mem_cons_self
      · exact List.mem_cons_of_mem _ (List.mem_cons_of_mem _ hG)
    · exact set_perm bl i p (p.1, o') hp)

theorem RVs_fs (hF : ∀ F ∈ Fs, F ∈ Fs') : ∀ (rs : List ResultVar) (vs : List Value), RVs P ρ Fs bl sl rs vs → RVs P ρ Fs' bl sl rs vs
  | [], [], h => h
  | [], _ :: _, h => h.elim
  | _ :: _, [], h => h.elim
  | r :: rs, v :: vs, h => ⟨fun nt df a w hf hm => h.1 nt df a w hf ⟨fun G hG => hm.fs G (hF G hG), hm.own, hm.slh⟩, RVs_fs hF rs vs h.2⟩

/-- The new part of a heap. -/
def part (w0 : World) (G : Hp) : Hp := fun b => if w0.heap.size ≤ b then G b else none
theorem part_fresh (w0 : World) (G : Hp) : Fresh w0 (part w0 G) := fun b o h => by
  unfold part at h; split at h
  · assumption
  · cases h
theorem part_ext {G G' : Hp} (h : Bd w0 S0 Fin G) (hS : ∀ b ∈ S0, G b = none) (he : Ext (part w0 G :: Fin) G') : ∀ b o, G b = some o → G' b = some o := fun b o hb => by
  rcases h b o hb with hs | hs | ⟨F, hF, hf⟩
  · refine he _ List.mem_cons_self b o ?_
    unfold part; rw [if_pos hs]; exact hb
  · rw [hS b hs] at hb; cases hb
  · exact he _ (List.mem_cons_of_mem _ hF) b o hf
theorem Cov.part {G : Hp} (hG : G ∈ Fs) (h : Cov nt w0 S0 df ρ (part w0 G :: Fs) bl sl K) : Cov nt w0 S0 df ρ Fs bl sl K := fun a w hf hi =>
  h a w hf (hi.change [] (by simp) (Keep.refl w []) (fun F hF => by
    rcases List.mem_cons.1 hF with rfl | hF
    · refine .inr ⟨fun b o hb => ?_, fun b hb => ?_⟩
      · unfold Proofs.Ytbhmhindommaeaa.part at hb; split at hb
        · exact hi.mem.fs G hG b o hb
        · cases hb
      · unfold Proofs.Ytbhmhindommaeaa.part; split
        · exact hi.apart b hb G hG
        · rfl
    · exact .inl hF) hi.mem.own hi.mem.slh hi.nodup (fun _ hx => .inl hx))

/-- The end of a function whose result lies in memory. -/
theorem Cov.retx {G : Hp} {fn : Func} {items : List Item} (hit : items = [] ∨ ∃ k, items = .code .ret :: k) (rs : List ResultVar) (vs : List Value) {Q : Value → Hp → Prop} (hro : c.ro = none) (hf : P.funcs[c.fn]? = some fn) (hrs : fn.results = rs.toArray)
    (hres : RVs P ρ Fs bl sl rs vs) (hsub : ∀ F ∈ Fin, F ∈ Fs) (hG : G ∈ Fs) (hbd : Bd w0 S0 Fin G) (hS : ∀ b ∈ S0, b ∈ bl.map (·.1)) (hpost : ∀ G', (∀ b o, G b = some o → G' b = some o) → Ext Fin G' → Q (retVal vs) G') :
    Cov nt w0 S0 [] ρ Fs bl sl (Run P c (RP w0 S0 Fin (fun v Fr bl sl => (∀ G', Ext (Fr :: Fin) G' → Q v G') ∧ bl = [] ∧ sl = [])) items) := by
  refine Cov.part hG ?_
  intro a w hfi hinv
  refine Run.leave hit hro hf hfi.1 (run_results hfi (hinv.mem) hrs (rs := rs) (vs := vs) ?_) ⟨Proofs.Ytbhmhindommaeaa.part w0 G, [], [], part_fresh w0 G, ?_, fun G' he => hpost G' (part_ext hbd (fun b hb => hinv.apart b (List.mem_append_left _ (hS b hb)) G (List.mem_cons_of_mem _ hG)) he) (fun F hF => he F (List.mem_cons_of_mem _ hF)), rfl, rfl⟩
  · exact RVs_fs (fun F hF => List.mem_cons_of_mem _ hF) rs vs hres
  · refine hinv.change [] (by simp) (Keep.refl w []) (fun F hF => .inl ?_) (by simp) (by simp) (by simp [blks]) (by simp [blks])
    rcases List.mem_cons.1 hF with rfl | hF
    · exact List.mem_cons_self
    · exact List.mem_cons_of_mem _ (hsub F hF)
theorem Cov.retlx (j : Nat) {G : Hp} {fn : Func} {items : List Item} {b : Nat} {o' o : Obj} (hit : items = [] ∨ ∃ k, items = .code .ret :: k) (rs : List ResultVar) (vs : List Value) {Q : Value → Obj → Hp → Prop} (hro : c.ro = none) (hf : P.funcs[c.fn]? = some fn) (hrs : fn.results = rs.toArray)
    (hres : RVs P ρ Fs bl sl rs vs) (hsub : ∀ F ∈ Fin, F ∈ Fs) (hG : G ∈ Fs) (hbd : Bd w0 S0 Fin G) (hS : ∀ b ∈ S0, b ∈ bl.map (·.1)) (hb : bl[j]? = some (b, o')) (hpost : ∀ G', (∀ b o, G b = some o → G' b = some o) → Ext Fin G' → Q (retVal vs) o' G') :
    Cov nt w0 S0 [] ρ Fs bl sl (Run P c (RP w0 S0 Fin (fun v Fr bl sl => ∃ o', (∀ G', Ext (Fr :: Fin) G' → Q v o' G') ∧ bl = [((b, o).1, o')] ∧ sl = [])) items) := by
  refine Cov.part hG ?_
  intro a w hfi hinv
  have hm : (b, o') ∈ bl := List.mem_of_getElem? hb
  refine Run.leave hit hro hf hfi.1 (run_results hfi (hinv.mem) hrs (rs := rs) (vs := vs) ?_) ⟨Proofs.Ytbhmhindommaeaa.part w0 G, [(b, o')], [], part_fresh w0 G, ?_, o', fun G' he => hpost G' (part_ext hbd (fun b hb => hinv.apart b (List.mem_append_left _ (hS b hb)) G (List.mem_cons_of_mem _ hG)) he) (fun F hF => he F (List.mem_cons_of_mem _ hF)), rfl, rfl⟩
  · exact RVs_fs (fun F hF => List.mem_cons_of_mem _ hF) rs vs hres
  · refine hinv.change [] (by simp) (Keep.refl w []) (fun F hF => .inl ?_) (fun p hp => by simp at hp; subst hp; exact hinv.mem.own _ hm) (by simp) (by simp [blks]) (fun x hx => ?_)
    · rcases List.mem_cons.1 hF with rfl | hF
      · exact List.mem_cons_self
      · exact List.mem_cons_of_mem _ (hsub F hF)
    · simp [blks] at hx
      subst hx
      exact .inl (List.mem_append_left _ (List.mem_map.2 ⟨_, hm, rfl⟩))
end
end Go.Proofs.Ytbhmhindommaeaa
