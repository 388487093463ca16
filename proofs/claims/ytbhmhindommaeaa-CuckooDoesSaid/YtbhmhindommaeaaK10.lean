/-
  Calls: what a function owes its caller (Ret), how a call is met, how a function is entered and left.
-/
import Derived.Test.YtbhmhindommaeaaK9
namespace Go.Proofs.Ytbhmhindommaeaa
open Go.RowKit

def empHp : Hp := fun _ => none

/-- What a call leaves behind. -/
def RP (w0 : World) (S0 : List Nat) (Fs : List Hp) (Post : Value → Hp → Blks → List OwnS → Prop) (v : Value) (w' : World) : Prop :=
  ∃ Fr bl' sl', Fresh w0 Fr ∧ Inv w0 S0 (Fr :: Fs) bl' sl' w' ∧ Post v Fr bl' sl'

/-- Called where Fs reads and the blocks bin are lent, it returns, and: Post. -/
def Ret (P : Program) (f : FuncId) (args : Array Value) (Fs : List Hp) (bin : Blks) (Post : Value → Hp → Blks → List OwnS → Prop) : Prop :=
  ∀ w, (∀ G ∈ Fs, HpIn G w) → (∀ p ∈ bin, w.heap[p.1]? = some p.2) → (bin.map (·.1)).Nodup → (∀ p ∈ bin, ∀ G ∈ Fs, G p.1 = none) → CallsV P f args w (RP w (bin.map (·.1)) Fs Post)

/-- A call that hands back a value and nothing else. -/
def RetV (P : Program) (f : FuncId) (args : Array Value) (Fs : List Hp) (Q : Value → Prop) : Prop := Ret P f args Fs [] fun v _ bl sl => Q v ∧ bl = [] ∧ sl = []

theorem Ret.mono {P : Program} {f : FuncId} {args : Array Value} {Fs : List Hp} {bin : Blks} {Post Post' : Value → Hp → Blks → List OwnS → Prop} (h : Ret P f args Fs bin Post) (hp : ∀ v Fr bl sl, Post v Fr bl sl → Post' v Fr bl sl) : Ret P f args Fs bin Post' :=
  fun w h1 h2 h3 h4 => (h w h1 h2 h3 h4).mono fun _ _ ⟨Fr, bl, sl, a, b, d⟩ => ⟨Fr, bl, sl, a, b, hp _ _ _ _ d⟩

def ArgsOk (vs : List Value) : Env → Prop
  | [] => True
  | (t, v) :: r => vs[t]? = some v ∧ ArgsOk vs r

theorem ArgsOk.spec {vs : List Value} : ∀ {ρ : Env}, ArgsOk vs ρ → ∀ t v, ρ.lookup t = some v → vs[t]? = some v
  | [], _, t, v, h => by simp at h
  | (s, u) :: r, ⟨h1, h2⟩, t, v, h => by
    simp only [List.lookup] at h
    by_cases e : t = s
    · subst e; simp only [beq_self_eq_true] at h; cases h; exact h1
    · have e' : (t == s) = false := by simpa using e
      simp only [e'] at h
      exact ArgsOk.spec h2 t v h

section
variable {P : Program} {c : Cx} {R : Value → World → Prop} {nt : Nat} {w0 : World} {S0 : List Nat} {df : List Deferred} {ρ ρ' : Env} {Fs Fs' : List Hp} {bl bl' : Blks} {sl sl' : List OwnS}
  {K K' : Act → World → Prop} {k : List Item} {ty : TypeId}

theorem Ret.of {f : FuncId} {fn : Func} {code : Code} {vs : List Value} {bin : Blks} {Post : Value → Hp → Blks → List OwnS → Prop} (hf : P.funcs[f]? = some fn) (hb : fn.body = some code) (hn : fn.ntmps = nt) (ρ0 : Env) (hρ : ArgsOk vs ρ0) (hlen : Nat.ble vs.length nt = true)
    (h : ∀ w0, Cov nt w0 (bin.map (·.1)) [] ρ0 Fs bin [] (Run P ⟨f, none⟩ (RP w0 (bin.map (·.1)) Fs Post) [.code code])) : Ret P f vs.toArray Fs bin Post := by
  intro w h1 h2 h3 h4 cs
  have hlen' : vs.length ≤ nt := by simpa [Nat.ble_eq] using hlen
  obtain ⟨v, w', hR, fr, hs, hfn, hl⟩ := h w { tmps := vs.toArray ++ Array.replicate (nt - vs.length) undef, defers := [] } w
    ⟨rfl, by simp; omega, fun t v ht => by
      have := hρ.spec t v ht
      have hlt : t < vs.length := by rcases Nat.lt_or_ge t vs.length with h | h; exact h; rw [List.getElem?_eq_none h] at this; cases this
      simp only
      rw [Array.getElem?_append_left (by simpa using hlt)]
      simpa using this⟩
    ⟨⟨h1, h2, fun s hs => by simp at hs⟩, Keep.refl w _, by simpa [blks] using h3, fun b hb => .inl (by simpa [blks] using hb), fun b hb G hG => by
      simp only [blks, List.flatMap_nil, List.append_nil, List.mem_map] at hb
      obtain ⟨p, hp, rfl⟩ := hb
      exact h4 p hp G hG⟩ cs (by simp)
  have henter : Frame.enter P f vs.toArray .normal = (⟨f, none⟩ : Cx).fr { tmps := vs.toArray ++ Array.replicate (nt - vs.length) undef, defers := [] } [.code code] := by
    simp [Frame.enter, Cx.fr, hf, hb, hn]
  refine ⟨.returned v, w', fr, ⟨v, rfl, hR⟩, ?_, hfn, hl⟩
  rw [henter]
  exact hs

theorem run_call {e : Operand → Value} {f : FuncId} {fop : Operand} {args : Array Operand} {ts : Array TypeId} {dst : Option Tmp} {vs cap : List Value} {w : World} (hf : ev ρ fop = some (.func (.func f) #[] cap.toArray)) (ha : args.toList.map (ev ρ) = vs.map some)
    (he : ∀ x u, ev ρ x = some u → e x = u) (hcall : ∀ args w, (callFunc f args).run P w = .ok (.enter f args) w) :
    (execOp e ⟨dst, .call ⟨.value fop, args, ts⟩, ty, "", #[], none⟩).run P w = .ok (.enter f (vs ++ cap).toArray) w := by
  have key : ∀ (l : List Operand) (vl : List Value), l.map (ev ρ) = vl.map some → l.map e = vl := by
    intro l
    induction l with
    | nil => intro vl h; cases vl <;> simp at h ⊢
    | cons x l ih =>
      intro vl h
      cases vl with
      | nil => simp at h
      | cons v vl =>
        simp only [List.map_cons, List.cons.injEq] at h
        simp only [List.map_cons, he x v h.1, ih vl h.2]
  have h1 : args.map e = vs.toArray := by rw [← Array.toList_inj]; simpa using key _ _ ha
  simp only [execOp, resolve, h1, he fop _ hf, Deferred.ofValue]
  simp only [Sem.run_bind, Sem.run_pure, Result.andThen_ok, invoke]
  simpa using hcall (vs.toArray ++ cap.toArray) w

/-- After a call in a state: what the caller then has. -/
theorem Inv.called {w w' : World} (hi : Inv w0 S0 Fs bl sl w) (n : Nat) {Fr : Hp} {bo : Blks} {so : List OwnS} (hfr : Fresh w Fr) (ho : Inv w ((bl.take n).map (·.1)) (Fr :: Fs) bo so w') :
    Inv w0 S0 (Fr :: Fs) (bo ++ bl.drop n) (so ++ sl) w' := by
  have hbl : bl = bl.take n ++ bl.drop n := (List.take_append_drop n bl).symm
  have hndall := hi.nodup
  have hrest : ∀ b ∈ blks (bl.drop n) sl, b ∈ blks bl sl ∧ b ∉ (bl.take n).map (·.1) := by
    intro b hb
    have h0 : blks bl sl = (bl.take n).map (·.1) ++ blks (bl.drop n) sl := by
      simp only [blks]; rw [← List.append_assoc, ← List.map_append, List.take_append_drop]
    rw [h0] at hndall ⊢
    refine ⟨List.mem_append_right _ hb, fun hm => ?_⟩
    exact (List.nodup_append.1 hndall).2.2 b hm b hb rfl
  have hlt : ∀ b ∈ blks (bl.drop n) sl, b < w.heap.size := fun b hb => blks_lt hi.mem (hrest b hb).1
  have hkeep : ∀ b ∈ blks (bl.drop n) sl, w'.heap[b]? = w.heap[b]? := fun b hb => ho.keep.block b (hlt b hb) (hrest b hb).2
  have hsplit : ∀ b, b ∈ blks (bo ++ bl.drop n) (so ++ sl) ↔ b ∈ blks bo so ∨ b ∈ blks (bl.drop n) sl := by
    intro b
    simp only [blks, List.map_append, List.flatMap_append, List.mem_append]
    constructor
    · rintro ((h | h) | (h | h))
      · exact .inl (.inl h)
      · exact .inr (.inl h)
      · exact .inl (.inr h)
      · exact .inr (.inr h)
    · rintro ((h | h) | (h | h))
      · exact .inl (.inl h)
      · exact .inr (.inl h)
      · exact .inl (.inr h)
      · exact .inr (.inr h)
  have hD : ∀ b ∈ (bl.take n).map (·.1), b ∈ blks bl sl := fun b hb => by
    refine List.mem_append_left _ ?_
    obtain ⟨p, hp, rfl⟩ := List.mem_map.1 hb
    exact List.mem_map.2 ⟨p, List.mem_of_mem_take hp, rfl⟩
  refine hi.change ((bl.take n).map (·.1)) hD ho.keep (fun G hG => ?_) (fun p hp => ?_) (fun s hs => ?_) ?_ (fun b hb => ?_)
  · rcases List.mem_cons.1 hG with rfl | hG
    · refine .inr ⟨ho.mem.fs _ List.mem_cons_self, fun b hb => ?_⟩
      rcases (hsplit b).1 hb with h | h
      · exact ho.apart b h _ List.mem_cons_self
      · cases hg : G b with
        | none => rfl
        | some o => have := hfr b o hg; have := hlt b h; omega
    · exact .inl hG
  · rcases List.mem_append.1 hp with hp | hp
    · exact ho.mem.own p hp
    · rw [hkeep p.1 (List.mem_append_left _ (List.mem_map.2 ⟨p, hp, rfl⟩))]
      exact hi.mem.own p (List.mem_of_mem_drop hp)
  · rcases List.mem_append.1 hs with hs | hs
    · exact ho.mem.slh s hs
    · exact OwnS.same (hi.mem.slh s hs) fun b hb => hkeep b (List.mem_append_right _ (List.mem_flatMap.2 ⟨s, hs, hb⟩))
  · have hperm : (blks (bo ++ bl.drop n) (so ++ sl)).Perm (blks bo so ++ blks (bl.drop n) sl) := by
      simp only [blks, List.map_append, List.flatMap_append]
      rw [List.append_assoc, List.append_assoc]
      refine List.Perm.append_left _ ?_
      rw [← List.append_assoc, ← List.append_assoc]
      exact List.perm_append_comm.append_right _
    rw [hperm.nodup_iff, List.nodup_append]
    refine ⟨ho.nodup, ?_, fun a ha b hb e => ?_⟩
    · have : (blks (bl.drop n) sl).Sublist (blks bl sl) := ((List.drop_sublist n bl).map _).append (List.Sublist.refl _)
      exact hi.nodup.sublist this
    · subst e
      rcases ho.mine a ha with h | h
      · exact (hrest a hb).2 h
      · have := hlt a hb; omega
  · rcases (hsplit b).1 hb with h | h
    · rcases ho.mine b h with h | h
      · exact .inl (hD b h)
      · exact .inr h
    · exact .inl (hrest b h).1

theorem Ret.use {f : FuncId} {args : Array Value} {n : Nat} {Post : Value → Hp → Blks → List OwnS → Prop} (hr : Ret P f args Fs (bl.take n) Post) {w : World} (hi : Inv w0 S0 Fs bl sl w) :
    CallsV P f args w (RP w ((bl.take n).map (·.1)) Fs Post) := by
  refine hr w hi.mem.fs (fun p hp => hi.mem.own p (List.mem_of_mem_take hp)) ?_ (fun p hp G hG => hi.apart p.1 (List.mem_append_left _ (List.mem_map.2 ⟨p, List.mem_of_mem_take hp, rfl⟩)) G hG)
  have : ((bl.take n).map (·.1)).Sublist (blks bl sl) := ((List.take_sublist n bl).map _).trans (List.sublist_append_left _ _)
  exact hi.nodup.sublist this

/-- A call: the first n blocks are lent. -/
theorem Cov.call (n : Nat) (vs cap : List Value) {d : Nat} {f : FuncId} {fop : Operand} {args : Array Operand} {ts : Array TypeId} {Post : Value → Hp → Blks → List OwnS → Prop} (hs : Stp P K' ⟨some d, .call ⟨.value fop, args, ts⟩, ty, none⟩ K)
    (hf : ev ρ fop = some (.func (.func f) #[] cap.toArray)) (ha : args.toList.map (ev ρ) = vs.map some) (hcall : ∀ args w, (callFunc f args).run P w = .ok (.enter f args) w) (hr : Ret P f (vs ++ cap).toArray Fs (bl.take n) Post) (hd : Nat.blt d nt = true)
    (hk : ∀ v Fr bo so, Fresh w0 Fr → Post v Fr bo so → Cov nt w0 S0 df ((d, v) :: ρ) (Fr :: Fs) (bo ++ bl.drop n) (so ++ sl) K) : Cov nt w0 S0 df ρ Fs bl sl K' := fun a w hfi hi => by
  refine hs a w ?_
  unfold Oper.wp
  have := run_call (P := P) (ty := ty) (ts := ts) (dst := some d) (w := w) hf ha (fun x u hx => ev_sound hfi hx) hcall
  rw [show (⟨some d, .call ⟨.value fop, args, ts⟩, ty, none⟩ : OpX).oper = ⟨some d, .call ⟨.value fop, args, ts⟩, ty, "", #[], none⟩ from rfl, this]
  refine Calls.mono (hr.use hi) fun e w' ⟨v, he, Fr, bo, so, h1, h2, h3⟩ => ?_
  subst he
  exact hk v Fr bo so (fun b o hb => Nat.le_trans hi.keep.size (h1 b o hb)) h3 _ _ (hfi.put hd v) (hi.called n h1 h2)

/-- A call whose value is not kept. -/
theorem Cov.call_n (n : Nat) (vs cap : List Value) {f : FuncId} {fop : Operand} {args : Array Operand} {ts : Array TypeId} {Post : Value → Hp → Blks → List OwnS → Prop} (hs : Stp P K' ⟨none, .call ⟨.value fop, args, ts⟩, ty, none⟩ K)
    (hf : ev ρ fop = some (.func (.func f) #[] cap.toArray)) (ha : args.toList.map (ev ρ) = vs.map some) (hcall : ∀ args w, (callFunc f args).run P w = .ok (.enter f args) w) (hr : Ret P f (vs ++ cap).toArray Fs (bl.take n) Post)
    (hk : ∀ v Fr bo so, Fresh w0 Fr → Post v Fr bo so → Cov nt w0 S0 df ρ (Fr :: Fs) (bo ++ bl.drop n) (so ++ sl) K) : Cov nt w0 S0 df ρ Fs bl sl K' := fun a w hfi hi => by
  refine hs a w ?_
  unfold Oper.wp
  have := run_call (P := P) (ty := ty) (ts := ts) (dst := none) (w := w) hf ha (fun x u hx => ev_sound hfi hx) hcall
  rw [show (⟨none, .call ⟨.value fop, args, ts⟩, ty, none⟩ : OpX).oper = ⟨none, .call ⟨.value fop, args, ts⟩, ty, "", #[], none⟩ from rfl, this]
  refine Calls.mono (hr.use hi) fun e w' ⟨v, he, Fr, bo, so, h1, h2, h3⟩ => ?_
  subst he
  exact hk v Fr bo so (fun b o hb => Nat.le_trans hi.keep.size (h1 b o hb)) h3 _ _ (hfi.put_none v) (hi.called n h1 h2)

/-- A call that hands back a value alone. -/
theorem Cov.callv (vs cap : List Value) {d : Nat} {f : FuncId} {fop : Operand} {args : Array Operand} {ts : Array TypeId} {Q : Value → Prop} (hs : Stp P K' ⟨some d, .call ⟨.value fop, args, ts⟩, ty, none⟩ K)
    (hf : ev ρ fop = some (.func (.func f) #[] cap.toArray)) (ha : args.toList.map (ev ρ) = vs.map some) (hcall : ∀ args w, (callFunc f args).run P w = .ok (.enter f args) w) (hr : RetV P f (vs ++ cap).toArray Fs Q) (hd : Nat.blt d nt = true)
    (hk : ∀ v, Q v → Cov nt w0 S0 df ((d, v) :: ρ) Fs bl sl K) : Cov nt w0 S0 df ρ Fs bl sl K' :=
  Cov.call 0 vs cap hs hf ha hcall hr hd fun v Fr bo so _ h => by
    obtain ⟨hq, rfl, rfl⟩ := h
    exact Cov.less Fs (fun G hG => List.mem_cons_of_mem _ hG) (hk v hq)

/-- A result variable holds v. -/
def RV (P : Program) (ρ : Env) (Fs : List Hp) (bl : Blks) (sl : List OwnS) (rv : ResultVar) (v : Value) : Prop :=
  ∀ nt df a w, Fits nt df ρ a → Mem Fs bl sl w → (match rv with | .tmp t => pure (a.tmps.getD t undef) | .cell x t => do loadVar t (← asAddr (a.tmps.getD x undef)) : Sem Value).run P w = .ok v w

theorem fits_getD {a : Act} (h : Fits nt df ρ a) {t : Nat} {v : Value} (ht : ρ.lookup t = some v) : a.tmps.getD t undef = v := by
  have := h.2.2 t v ht
  simp [Array.getD_eq_getD_getElem?, this]

theorem RV.tmp {t : Nat} {v : Value} (h : ρ.lookup t = some v) : RV P ρ Fs bl sl (.tmp t) v := fun nt df a w hf _ => by
  simp [fits_getD hf h]
theorem RV.cell (i : Nat) {x : Nat} {t : TypeId} {b o : Nat} {cs : List Value} {T : TypeId} {fz : Nat × Nat} {v : Value} {sz bytes : Nat} {z : List Value} (hx : ρ.lookup x = some (.pointer (some ⟨b, o, none⟩))) (h : bl[i]? = some (b, .cells cs.toArray T fz))
    (ht : TyI P t false sz bytes z) (hv : cs[o]? = some v) : RV P ρ Fs bl sl (.cell x t) v := fun nt df a w hf hm => by
  have := cell_own hm h o
  simp only [fits_getD hf hx, asAddr, Sem.run_bind, Sem.run_pure, Result.andThen_ok]
  exact run_loadVar_s (run_isAgg ht.agg) (this.trans hv)
theorem RV.cell_a (i : Nat) (l : List Value) {x : Nat} {t : TypeId} {b o : Nat} {cs : List Value} {T : TypeId} {fz : Nat × Nat} {bytes : Nat} {z : List Value} (hx : ρ.lookup x = some (.pointer (some ⟨b, o, none⟩))) (h : bl[i]? = some (b, .cells cs.toArray T fz))
    (ht : TyI P t true l.length bytes z) (hv : (cs.drop o).take l.length = l) : RV P ρ Fs bl sl (.cell x t) (.agg l.toArray) := fun nt df a w hf hm => by
  have h2 := cell_own hm h
  have h3 : ∀ (j : Nat) (v : Value), l[j]? = some v → w.cell? ⟨b, o + j, none⟩ = some v := fun j v hj => by
    rw [h2, ← hj, ← hv]
    have : j < l.length := by rcases Nat.lt_or_ge j l.length with h | h; exact h; rw [List.getElem?_eq_none h] at hj; cases hj
    simp [List.getElem?_drop, this]
  simp only [fits_getD hf hx, asAddr, Sem.run_bind, Sem.run_pure, Result.andThen_ok]
  exact run_loadVar_a (run_isAgg ht.agg) (run_sizeOf ht.sz) h3

def RVs (P : Program) (ρ : Env) (Fs : List Hp) (bl : Blks) (sl : List OwnS) : List ResultVar → List Value → Prop
  | [], [] => True
  | r :: rs, v :: vs => RV P ρ Fs bl sl r v ∧ RVs P ρ Fs bl sl rs vs
  | _, _ => False

def retVal : List Value → Value
  | [v] => v
  | vs => .tuple vs.toArray

theorem run_RVs {a : Act} {w : World} (hf : Fits nt df ρ a) (hm : Mem Fs bl sl w) : ∀ (rs : List ResultVar) (vs : List Value), RVs P ρ Fs bl sl rs vs →
    (rs.mapM (fun r => match r with | .tmp t => pure (a.tmps.getD t undef) | .cell x t => do loadVar t (← asAddr (a.tmps.getD x undef)) : ResultVar → Sem Value)).run P w = .ok vs w
  | [], [], _ => by simp
  | r :: rs, v :: vs, ⟨h1, h2⟩ => by
    simp only [List.mapM_cons]
    rw [Sem.run_bind, h1 nt df a w hf hm]
    simp only [Result.andThen_ok]
    rw [Sem.run_bind, run_RVs hf hm rs vs h2]
    simp

theorem run_results {a : Act} {w : World} {fn : Func} {rs : List ResultVar} {vs : List Value} (hf : Fits nt df ρ a) (hm : Mem Fs bl sl w) (hrs : fn.results = rs.toArray) (h : RVs P ρ Fs bl sl rs vs) : (results fn a.tmps).run P w = .ok (retVal vs) w := by
  unfold results
  have h1 := run_RVs hf hm rs vs h
  rw [hrs, Sem.run_bind, List.mapM_toArray, map_eq_pure_bind, Sem.run_bind]
  have h2 : ∀ (g : ResultVar → Sem Value), (∀ r, g r = (match r with | .tmp t => pure (a.tmps.getD t undef) | .cell x t => do loadVar t (← asAddr (a.tmps.getD x undef)) : Sem Value)) → (rs.mapM g).run P w = .ok vs w := by
    intro g hg
    rw [show g = _ from funext hg]
    exact h1
  rw [h2 _ (fun r => by cases r <;> rfl)]
  simp only [Result.andThen_ok, Sem.run_pure]
  match vs with
  | [] => rfl
  | [v] => rfl
  | v :: u :: vs => simp [retVal]

/-- The end of a function. -/
theorem Cov.leave {fn : Func} {items : List Item} (hi : items = [] ∨ ∃ k, items = .code .ret :: k) (rs : List ResultVar) (vs : List Value) {Fin : List Hp} {Fr : Hp} {Post : Value → Hp → Blks → List OwnS → Prop} (hro : c.ro = none) (hf : P.funcs[c.fn]? = some fn) (hrs : fn.results = rs.toArray)
    (hres : RVs P ρ Fs bl sl rs vs) (hsub : ∀ G ∈ Fin, G ∈ Fs) (hFr : Fr = empHp ∨ Fr ∈ Fs) (hfresh : Fresh w0 Fr) (hpost : Post (retVal vs) Fr bl sl) :
    Cov nt w0 S0 [] ρ Fs bl sl (Run P c (RP w0 S0 Fin Post) items) := fun a w hfi hinv => by
  refine Run.leave hi hro hf hfi.1 (run_results hfi hinv.mem hrs hres) ⟨Fr, bl, sl, hfresh, ?_, hpost⟩
  refine hinv.change [] (by simp) (Keep.refl w []) (fun G hG => ?_) hinv.mem.own hinv.mem.slh hinv.nodup (fun _ hx => .inl hx)
  rcases List.mem_cons.1 hG with rfl | hG
  · rcases hFr with rfl | hFr
    · exact .inr ⟨fun b o hb => by simp [empHp] at hb, fun _ _ => rfl⟩
    · exact .inl hFr
  · exact .inl (hsub G hG)

theorem fresh_emp (w : World) : Fresh w empHp := fun _ _ h => by simp [empHp] at h

/-- The end of a function that hands back values alone. -/
theorem Cov.retv {fn : Func} (rs : List ResultVar) (vs : List Value) {Fin : List Hp} {Q : Value → Prop} (hro : c.ro = none) (hf : P.funcs[c.fn]? = some fn) (hrs : fn.results = rs.toArray)
    (hres : RVs P ρ Fs bl sl rs vs) (hsub : ∀ G ∈ Fin, G ∈ Fs) (hpost : Q (retVal vs)) :
    Cov nt w0 S0 [] ρ Fs bl sl (Run P c (RP w0 S0 Fin (fun v _ bl sl => Q v ∧ bl = [] ∧ sl = [])) (.code .ret :: k)) := fun a w hfi hinv => by
  refine Run.leave (.inr ⟨k, rfl⟩) hro hf hfi.1 (run_results hfi hinv.mem hrs hres) ⟨empHp, [], [], fresh_emp w0, ?_, hpost, rfl, rfl⟩
  refine hinv.change [] (by simp) (Keep.refl w []) (fun G hG => ?_) (by simp) (by simp) (by simp [blks]) (by simp [blks])
  rcases List.mem_cons.1 hG with rfl | hG
  · exact .inr ⟨fun b o hb => by simp [empHp] at hb, fun _ _ => rfl⟩
  · exact .inl (hsub G hG)
theorem Cov.retv_end {fn : Func} (rs : List ResultVar) (vs : List Value) {Fin : List Hp} {Q : Value → Prop} (hro : c.ro = none) (hf : P.funcs[c.fn]? = some fn) (hrs : fn.results = rs.toArray)
    (hres : RVs P ρ Fs bl sl rs vs) (hsub : ∀ G ∈ Fin, G ∈ Fs) (hpost : Q (retVal vs)) :
    Cov nt w0 S0 [] ρ Fs bl sl (Run P c (RP w0 S0 Fin (fun v _ bl sl => Q v ∧ bl = [] ∧ sl = [])) []) := fun a w hfi hinv => by
  refine Run.leave (.inl rfl) hro hf hfi.1 (run_results hfi hinv.mem hrs hres) ⟨empHp, [], [], fresh_emp w0, ?_, hpost, rfl, rfl⟩
  refine hinv.change [] (by simp) (Keep.refl w []) (fun G hG => ?_) (by simp) (by simp) (by simp [blks]) (by simp [blks])
  rcases List.mem_cons.1 hG with rfl | hG
  · exact .inr ⟨fun b o hb => by simp [empHp] at hb, fun _ _ => rfl⟩
  · exact .inl (hsub G hG)
end
end Go.Proofs.Ytbhmhindommaeaa
