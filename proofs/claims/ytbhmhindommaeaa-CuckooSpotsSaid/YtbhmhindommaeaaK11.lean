/-
  Calls that are lent one block; lists that read as numbers, texts and so on.
-/
import Derived.Test.YtbhmhindommaeaaK10
namespace Go.Proofs.Ytbhmhindommaeaa
open Go.RowKit

/-- A call that is lent one block. -/
def RetL (P : Program) (f : FuncId) (args : Array Value) (Fs : List Hp) (p : Nat × Obj) (Q : Value → Obj → Prop) : Prop :=
  Ret P f args Fs [p] fun v _ bl sl => ∃ o', Q v o' ∧ bl = [(p.1, o')] ∧ sl = []

theorem set_perm {α : Type} : ∀ (l : List α) (i : Nat) (x y : α), l[i]? = some x → (y :: l.eraseIdx i).Perm (l.set i y)
  | [], i, x, y, h => by simp at h
  | z :: l, 0, x, y, h => by simp
  | z :: l, i + 1, x, y, h => by
    simp only [List.getElem?_cons_succ] at h
    simp only [List.eraseIdx_cons_succ, List.set_cons_succ]
    exact (List.Perm.swap z y _).trans ((set_perm l i x y h).cons z)

section
variable {P : Program} {c : Cx} {R : Value → World → Prop} {nt : Nat} {w0 : World} {S0 : List Nat} {df : List Deferred} {ρ ρ' : Env} {Fs Fs' : List Hp} {bl bl' : Blks} {sl sl' : List OwnS}
  {K K' : Act → World → Prop} {k : List Item} {ty : TypeId}

theorem Cov.permB (hb : bl.Perm bl') (h : Cov nt w0 S0 df ρ Fs bl' sl K) : Cov nt w0 S0 df ρ Fs bl sl K := fun a w hf hi => h a w hf (hi.perm hb (List.Perm.refl _))

theorem Cov.calll (i : Nat) (vs cap : List Value) {d : Nat} {f : FuncId} {fop : Operand} {args : Array Operand} {ts : Array TypeId} {p : Nat × Obj} {Q : Value → Obj → Prop} (hs : Stp P K' ⟨some d, .call ⟨.value fop, args, ts⟩, ty, none⟩ K)
    (hf : ev ρ fop = some (.func (.func f) #[] cap.toArray)) (ha : args.toList.map (ev ρ) = vs.map some) (hcall : ∀ args w, (callFunc f args).run P w = .ok (.enter f args) w) (hp : bl[i]? = some p) (hr : RetL P f (vs ++ cap).toArray Fs p Q) (hd : Nat.blt d nt = true)
    (hk : ∀ v o', Q v o' → Cov nt w0 S0 df ((d, v) :: ρ) Fs (bl.set i (p.1, o')) sl K) : Cov nt w0 S0 df ρ Fs bl sl K' :=
  Cov.permB (perm_erase bl i p hp) (Cov.call 1 vs cap hs hf ha hcall hr hd fun v Fr bo so _ h => by
    obtain ⟨o', hq, rfl, rfl⟩ := h
    refine Cov.less Fs (fun G hG => List.mem_cons_of_mem _ hG) (Cov.permB ?_ (hk v o' hq))
    exact set_perm bl i p (p.1, o') hp)

/-- The end of a function that was lent one block. -/
theorem Cov.retl (j : Nat) {fn : Func} {items : List Item} {b : Nat} {o' : Obj} {o : Obj} (hit : items = [] ∨ ∃ k, items = .code .ret :: k) (rs : List ResultVar) (vs : List Value) {Fin : List Hp} {Q : Value → Obj → Prop} (hro : c.ro = none) (hf : P.funcs[c.fn]? = some fn) (hrs : fn.results = rs.toArray)
    (hres : RVs P ρ Fs bl sl rs vs) (hsub : ∀ G ∈ Fin, G ∈ Fs) (hb : bl[j]? = some (b, o')) (hpost : Q (retVal vs) o') :
    Cov nt w0 S0 [] ρ Fs bl sl (Run P c (RP w0 S0 Fin (fun v _ bl sl => ∃ o', Q v o' ∧ bl = [((b, o).1, o')] ∧ sl = [])) items) := fun a w hfi hinv => by
  refine Run.leave hit hro hf hfi.1 (run_results hfi hinv.mem hrs hres) ⟨empHp, [(b, o')], [], fresh_emp w0, ?_, o', hpost, rfl, rfl⟩
  have hm : (b, o') ∈ bl := List.mem_of_getElem? hb
  refine hinv.change [] (by simp) (Keep.refl w []) (fun G hG => ?_) (fun p hp => by simp at hp; subst hp; exact hinv.mem.own _ hm) (by simp) (by simp [blks]) (fun x hx => ?_)
  · rcases List.mem_cons.1 hG with rfl | hG
    · exact .inr ⟨fun b o hb => by simp [empHp] at hb, fun _ _ => rfl⟩
    · exact .inl (hsub G hG)
  · simp [blks] at hx
    subst hx
    exact .inl (List.mem_append_left _ (List.mem_map.2 ⟨_, hm, rfl⟩))

/-- What is known of a bool. -/
theorem Cov.know_t (t : Nat) {p : Prop} [Decidable p] (hc : ρ.lookup t = some (.bool (decide p))) (hp : p) (h : Cov nt w0 S0 df ((t, .bool true) :: ρ) Fs bl sl K) : Cov nt w0 S0 df ρ Fs bl sl K :=
  Cov.split t hc (fun _ => h) (fun h2 => absurd hp h2)
theorem Cov.know_f (t : Nat) {p : Prop} [Decidable p] (hc : ρ.lookup t = some (.bool (decide p))) (hp : ¬ p) (h : Cov nt w0 S0 df ((t, .bool false) :: ρ) Fs bl sl K) : Cov nt w0 S0 df ρ Fs bl sl K :=
  Cov.split t hc (fun h2 => absurd h2 hp) (fun _ => h)
theorem Cov.know_bt (t : Nat) {b : Bool} (hc : ρ.lookup t = some (.bool b)) (hp : b = true) (h : Cov nt w0 S0 df ((t, .bool true) :: ρ) Fs bl sl K) : Cov nt w0 S0 df ρ Fs bl sl K :=
  Cov.split_b t hc (fun _ => h) (fun h2 => by rw [hp] at h2; cases h2)
theorem Cov.know_bf (t : Nat) {b : Bool} (hc : ρ.lookup t = some (.bool b)) (hp : b = false) (h : Cov nt w0 S0 df ((t, .bool false) :: ρ) Fs bl sl K) : Cov nt w0 S0 df ρ Fs bl sl K :=
  Cov.split_b t hc (fun h2 => by rw [hp] at h2; cases h2) (fun _ => h)

/-- A block's cells, written otherwise. -/
theorem Cov.recell (i : Nat) (cs' : List Value) {b : Nat} {cs : List Value} {T : TypeId} {fz : Nat × Nat} (hb : bl[i]? = some (b, .cells cs.toArray T fz)) (he : cs = cs') (bl' : Blks) (hbl : bl.set i (b, .cells cs'.toArray T fz) = bl') (h : Cov nt w0 S0 df ρ Fs bl' sl K) : Cov nt w0 S0 df ρ Fs bl sl K := by
  subst he
  have : bl.set i (b, .cells cs.toArray T fz) = bl := by
    have hlt : i < bl.length := by rcases Nat.lt_or_ge i bl.length with h | h; exact h; rw [List.getElem?_eq_none h] at hb; cases hb
    rw [List.getElem?_eq_getElem hlt] at hb
    rw [← Option.some.inj hb]
    exact List.set_getElem_self _
  rw [this] at hbl
  subst hbl
  exact h

/-- A loop: what a round starts from is y; ρs, bls: what no round turns. -/
theorem Cov.loop2 {α : Type} (dyn : α → Env) (ρs : Env) (FsD : α → List Hp) (blD : α → Blks) (bls : Blks) (slD : α → List OwnS) (sls : List OwnS) (I : α → Prop) (μ : α → Nat) {x : Code} (x0 : α) (hI : I x0) (hρ : Sub ρ (dyn x0 ++ ρs)) (hF : Fs' = FsD x0 ++ Fs) (hb : bl = blD x0 ++ bls) (hs : sl = slD x0 ++ sls)
    (round : ∀ y, I y → (∀ z, I z → μ z < μ y → Cov nt w0 S0 df (dyn z ++ ρs) (FsD z ++ Fs) (blD z ++ bls) (slD z ++ sls) (Run P c R (.inLoop x :: k))) →
      Cov nt w0 S0 df (dyn y ++ ρs) (FsD y ++ Fs) (blD y ++ bls) (slD y ++ sls) (Run P c R (.code x :: .inLoop x :: k))) : Cov nt w0 S0 df ρ Fs' bl sl (Run P c R (.code (.loop x) :: k)) := by
  subst hF hb hs
  exact Cov.prune _ hρ (Cov.loop (fun y => dyn y ++ ρs) (fun y => FsD y ++ Fs) (fun y => blD y ++ bls) (fun y => slD y ++ sls) I μ round x0 hI)

/-! Lists that read. -/

theorem Sl.mlen {α : Type} {G : Hp} {sz : Nat} {v : Value} {l : List α} {f : α → List Value} (h : Sl G sz v (l.map f)) : sLen v = some l.length := by
  have := h.len
  simpa using this

theorem Sl.mptr {α : Type} {G : Hp} {sz : Nat} {v : Value} {l : List α} {f : α → List Value} (h : Sl G sz v (l.map f)) (d : α) {n : Int} (h0 : 0 ≤ n) (h1 : n < (l.length : Int)) : Rp G (elemPtr v n.toNat sz) (f (l.getD n.toNat d)) := by
  refine h.elem ?_
  have : n.toNat < l.length := by omega
  rw [List.getElem?_map, List.getD_eq_getElem?_getD, List.getElem?_eq_getElem this]
  rfl

theorem QOp.indexAddr_m {α : Type} {G : Hp} {sz : Nat} {v : Value} {l : List α} {f : α → List Value} {t el : TypeId} {x i : Operand} {k : IntKind} {n : Int} (hs : Sl G sz v (l.map f)) (hx : ev ρ x = some v) (hi : ev ρ i = some (.int k n)) (ht : slOf P t = some el) (hz : szOf P el = some sz)
    (h0 : 0 ≤ n) (h1 : n < (l.length : Int)) : QOp P ρ Fs bl sl (.indexAddr t x i) ty (elemPtr v n.toNat sz) :=
  .indexAddr hs hx hi ht hz h0 (by simpa using h1)

theorem Sl.msub {α : Type} {G : Hp} {sz : Nat} {v : Value} {l : List α} {f : α → List Value} (h : Sl G sz v (l.map f)) {a b : Nat} (h1 : a ≤ b) (h2 : b ≤ l.length) : Sl G sz (subV v a b sz) (((l.drop a).take (b - a)).map f) := by
  have := h.sub h1 (by simpa using h2)
  simpa [List.map_drop, List.map_take] using this

theorem QOp.slice_m {α : Type} {G : Hp} {sz : Nat} {v : Value} {l : List α} {f : α → List Value} {t el : TypeId} {x : Operand} {lo hi : Option Operand} {a b : Nat} (hs : Sl G sz v (l.map f)) (hx : ev ρ x = some v) (ht : slOf P t = some el) (hz : szOf P el = some sz)
    (hl : Bnd ρ 0 lo a) (hh : Bnd ρ l.length hi b) (h1 : a ≤ b) (h2 : b ≤ l.length) : QOp P ρ Fs bl sl (.slice t x lo hi none) ty (subV v a b sz) := by
  refine .slice hs hx ht hz hl ?_ h1 (by simpa using h2)
  simpa using hh

abbrev Ints (G : Hp) (v : Value) (l : List Int) : Prop := Sl G 1 v (l.map fun x => [Value.int .i64 x])
abbrev U8s (G : Hp) (v : Value) (l : List Int) : Prop := Sl G 1 v (l.map fun x => [Value.int .u8 x])
abbrev Strs (G : Hp) (v : Value) (l : List ByteArray) : Prop := Sl G 1 v (l.map fun x => [Value.string x])
abbrev Bools (G : Hp) (v : Value) (l : List Bool) : Prop := Sl G 1 v (l.map fun x => [Value.bool x])

theorem Sl.mono {G G' : Hp} {sz : Nat} {v : Value} {xs : List (List Value)} (h : Sl G sz v xs) (hg : ∀ b o, G b = some o → G' b = some o) : Sl G' sz v xs := by
  obtain ⟨a, cap, h1, h2, h3, h4⟩ := h
  refine ⟨a, cap, h1, h2, h3, fun hne => ?_⟩
  obtain ⟨b, o, e, hc⟩ := h4 hne
  refine ⟨b, o, e, fun i x hi j cc hj => ?_⟩
  have := hc i x hi j cc hj
  unfold rcell at this ⊢
  cases hgb : G b with
  | none => rw [hgb] at this; cases this
  | some ob => rw [hgb] at this; rw [hg b ob hgb]; exact this

theorem Sl.nil (G : Hp) (sz : Nat) : Sl G sz (.slice none 0 0) [] := ⟨none, 0, rfl, Nat.le_refl _, by simp, fun h => absurd rfl h⟩
end
end Go.Proofs.Ytbhmhindommaeaa
