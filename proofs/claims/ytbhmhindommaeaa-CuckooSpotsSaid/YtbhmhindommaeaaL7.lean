/-
  Loops over functions: what an iterator goes through, said plainly; the marks that such loops leave.
-/
import Derived.Test.YtbhmhindommaeaaL6
namespace Go.Proofs.Ytbhmhindommaeaa
open Go.RowKit

/-- How the values of one round lie. -/
structure Yr (α : Type) where
  n : Nat
  r : Hp → List Value → α → Prop
  len : ∀ {G : Hp} {c : List Value} {x : α}, r G c x → c.length = n
  mono : ∀ {G G' : Hp} {c : List Value} {x : α}, HpLe G G' → r G c x → r G' c x

def Yr.v {α : Type} (R : Rep α) : Yr α where
  n := 1
  r G c x := ∃ v, c = [v] ∧ R.r G [v] x
  len h := by obtain ⟨v, h, _⟩ := h; rw [h]; rfl
  mono hg h := by obtain ⟨v, h, h2⟩ := h; exact ⟨v, h, R.mono hg h2⟩
def Yr.a {α : Type} (R : Rep α) : Yr α where
  n := 1
  r G c x := ∃ cs : List Value, c = [.agg cs.toArray] ∧ R.r G cs x
  len h := by obtain ⟨v, h, _⟩ := h; rw [h]; rfl
  mono hg h := by obtain ⟨v, h, h2⟩ := h; exact ⟨v, h, R.mono hg h2⟩
def Yr.pair {α β : Type} (A : Yr α) (B : Yr β) : Yr (α × β) where
  n := A.n + B.n
  r G c x := ∃ c1 c2, c = c1 ++ c2 ∧ A.r G c1 x.1 ∧ B.r G c2 x.2
  len h := by obtain ⟨_, _, h, h1, h2⟩ := h; rw [h, List.length_append, A.len h1, B.len h2]
  mono hg h := by obtain ⟨c1, c2, h, h1, h2⟩ := h; exact ⟨c1, c2, h, A.mono hg h1, B.mono hg h2⟩

/-- The closure goes through l. -/
def IterR (P : Program) {α : Type} (Y : Yr α) (f : FuncId) (cap : List Value) (G : Hp) (l : List α) : Prop :=
  ∀ Fs G1, HpLe G G1 → G1 ∈ Fs → Iter P f cap Fs l.length (fun i v => ∃ x, l[i]? = some x ∧ Y.r G1 v x)
theorem IterR.mono {P : Program} {α : Type} {Y : Yr α} {f : FuncId} {cap : List Value} {G G' : Hp} {l : List α} (hg : HpLe G G') (h : IterR P Y f cap G l) : IterR P Y f cap G' l := fun Fs G1 h1 h2 => h Fs G1 (hg.trans h1) h2

def mks (ds : List Nat) : List Deferred := ds.map fun r => { target := .collected r, args := #[] }
abbrev MK := { ds : List Nat // ds.Nodup }
def marksG (m : MK) : Guest where
  blks := m.1
  nodup := m.2
  holds w := ∀ r ∈ m.1, w.heap[r]? = some (.deferred (some []))
  lt w h b hb := own_lt (h b hb)
  same w w' h e := fun r hr => by rw [e r hr]; exact h r hr
def mk0 : MK := ⟨[], List.nodup_nil⟩

section
variable {P : Program} {c : Cx} {R : Value → World → Prop} {nt : Nat} {w0 : World} {S0 : List Nat} {df : List Deferred} {ρ ρ' : Env} {Fs Fs' Fin B : List Hp} {bl bl' : Blks} {sl sl' : List OwnS}
  {K K' : Act → World → Prop} {k : List Item} {ty : TypeId} {G : Hp}

theorem Cov.marks0 (h : Cov nt w0 S0 (mks mk0.1) ρ Fs bl (.g (marksG mk0) :: sl) K) : Cov nt w0 S0 [] ρ Fs bl sl K := fun a w hf hi =>
  h a w hf (hi.change [] (by simp) (Keep.refl w []) (fun G hG => .inl hG) hi.mem.own (fun s hs => by
    rcases List.mem_cons.1 hs with rfl | hs
    · exact fun r hr => by simp [mk0] at hr
    · exact hi.mem.slh s hs) (by simpa [blks, OwnS.blocks, marksG, mk0] using hi.nodup) (fun b hb => .inl (by simpa [blks, OwnS.blocks, marksG, mk0] using hb)))

/-- A new mark. -/
theorem Cov.mkmerge (j : Nat) {m : MK} {r : Nat} (hb : bl[j]? = some (r, .deferred (some []))) (bl' : Blks) (hbl : bl.eraseIdx j = bl') (hk : ∀ m' : MK, Cov nt w0 S0 (mks m'.1) ρ Fs bl' (.g (marksG m') :: sl) K) :
    Cov nt w0 S0 ({ target := .collected r, args := #[] } :: mks m.1) ρ Fs bl (.g (marksG m) :: sl) K := fun a w hf hi => by
  subst hbl
  have hp1 := (perm_erase bl j _ hb).map (·.1)
  have hpm : (blks bl (.g (marksG m) :: sl)).Perm (r :: (m.1 ++ blks (bl.eraseIdx j) sl)) := by
    unfold blks
    simp only [List.flatMap_cons, OwnS.blocks, marksG, List.map_cons] at hp1 ⊢
    refine (hp1.append_right _).trans ?_
    simp only [List.cons_append]
    refine List.Perm.cons _ ?_
    rw [← List.append_assoc, ← List.append_assoc]
    exact List.perm_append_comm.append_right _
  have hnd := hpm.nodup_iff.1 hi.nodup
  have hnd2 : (r :: m.1).Nodup := (List.nodup_append.1 (by simpa using hnd : ((r :: m.1) ++ blks (bl.eraseIdx j) sl).Nodup)).1
  have hpm2 : (blks (bl.eraseIdx j) (.g (marksG ⟨r :: m.1, hnd2⟩) :: sl)).Perm (blks bl (.g (marksG m) :: sl)) := by
    refine List.Perm.trans ?_ hpm.symm
    unfold blks
    simp only [List.flatMap_cons, OwnS.blocks, marksG]
    rw [← List.append_assoc]
    refine (List.perm_append_comm.append_right _).trans ?_
    simp
  refine hk ⟨r :: m.1, hnd2⟩ a w ?_ (hi.change [] (by simp) (Keep.refl w []) (fun G hG => .inl hG) (fun p hp => hi.mem.own p (List.mem_of_mem_eraseIdx hp)) (fun s hs => ?_) (hpm2.nodup_iff.2 hi.nodup) (fun b hb => .inl (hpm2.mem_iff.1 hb)))
  · exact hf
  · rcases List.mem_cons.1 hs with rfl | hs
    · intro x hx
      rcases List.mem_cons.1 hx with rfl | hx
      · exact hi.mem.own _ (List.mem_of_getElem? hb)
      · exact hi.mem.slh _ List.mem_cons_self x hx
    · exact hi.mem.slh s (List.mem_cons_of_mem _ hs)

/-- All marks, at the end. -/
theorem Cov.unmarkAll : ∀ (ds : List Nat) (hn : ds.Nodup) {bl : Blks}, Cov nt w0 S0 [] ρ Fs bl sl (Out P c R) → Cov nt w0 S0 (mks ds) ρ Fs bl (.g (marksG ⟨ds, hn⟩) :: sl) (Out P c R)
  | [], _, bl, h => fun a w hf hi => h a w hf (hi.change [] (by simp) (Keep.refl w []) (fun G hG => .inl hG) hi.mem.own (fun s hs => hi.mem.slh s (List.mem_cons_of_mem _ hs)) (by simpa [blks, OwnS.blocks, marksG] using hi.nodup)
      (fun b hb => .inl (by simpa [blks, OwnS.blocks, marksG] using hb)))
  | r :: ds, hn, bl, h => fun a w hf hi => by
    have hn2 := (List.nodup_cons.1 hn).2
    have hpm : (blks ((r, Obj.deferred (some [])) :: bl) (.g (marksG ⟨ds, hn2⟩) :: sl)).Perm (blks bl (.g (marksG ⟨r :: ds, hn⟩) :: sl)) := by
      unfold blks
      simp only [List.flatMap_cons, OwnS.blocks, marksG, List.map_cons, List.cons_append]
      exact List.perm_middle.symm
    have hcov : Cov nt w0 S0 ({ target := .collected r, args := #[] } :: mks ds) ρ Fs ((r, Obj.deferred (some [])) :: bl) (.g (marksG ⟨ds, hn2⟩) :: sl) (Out P c R) :=
      Cov.unmark 0 rfl _ rfl (Cov.drop 1 0 bl (.g (marksG ⟨ds, hn2⟩) :: sl) rfl rfl (Cov.unmarkAll ds hn2 h))
    refine hcov a w hf (hi.change [] (by simp) (Keep.refl w []) (fun G hG => .inl hG) (fun p hp => ?_) (fun s hs => ?_) (hpm.nodup_iff.2 hi.nodup) (fun b hb => .inl (hpm.mem_iff.1 hb)))
    · rcases List.mem_cons.1 hp with rfl | hp
      · exact hi.mem.slh _ List.mem_cons_self r List.mem_cons_self
      · exact hi.mem.own p hp
    · rcases List.mem_cons.1 hs with rfl | hs
      · exact fun x hx => hi.mem.slh _ List.mem_cons_self x (List.mem_cons_of_mem _ hx)
      · exact hi.mem.slh s (List.mem_cons_of_mem _ hs)

theorem Cov.outS {fn : Func} (rs : List ResultVar) (vs : List Value) {Q : Value → Blks → List OwnS → Prop} (hf : P.funcs[c.fn]? = some fn) (hrs : fn.results = rs.toArray)
    (hres : RVs P ρ Fs bl sl rs vs) (hsub : ∀ F ∈ Fin, F ∈ Fs) (hpost : Q (retVal vs) bl sl) : Cov nt w0 S0 [] ρ Fs bl sl (Out P c (RP w0 S0 Fin (fun v _ bl sl => Q v bl sl))) := by
  intro a w hfi hinv items cs
  refine ⟨retVal vs, w, ⟨empHp, bl, sl, fresh_emp _, ?_, hpost⟩, { c.fr a items with mode := .returning }, Steps.refl _ _, rfl, rfl, hfi.1, rfl, fn, hf, run_results hfi hinv.mem hrs hres⟩
  refine hinv.change [] (by simp) (Keep.refl w []) (fun G hG => ?_) hinv.mem.own hinv.mem.slh hinv.nodup (fun _ hx => .inl hx)
  rcases List.mem_cons.1 hG with rfl | hG
  · exact .inr ⟨fun b o hb => by simp [empHp] at hb, fun _ _ => rfl⟩
  · exact .inl (hsub G hG)
theorem Cov.outW {fn : Func} (rs : List ResultVar) (vs : List Value) {Q : Value → Blks → List OwnS → Hp → Prop} (hf : P.funcs[c.fn]? = some fn) (hrs : fn.results = rs.toArray)
    (hres : RVs P ρ Fs bl sl rs vs) (hsub : ∀ F ∈ Fin, F ∈ Fs) (hG : G ∈ Fs) (hbd : Bd w0 S0 Fin G) (hS : ∀ b ∈ S0, b ∈ blks bl sl) (hpost : ∀ G', HpLe G G' → Q (retVal vs) bl sl G') :
    Cov nt w0 S0 [] ρ Fs bl sl (Out P c (RP w0 S0 Fin (fun v Fr bl sl => ∀ G', Ext (Fr :: Fin) G' → Q v bl sl G'))) := by
  refine Cov.part hG ?_
  intro a w hfi hinv items cs
  refine ⟨retVal vs, w, ⟨Proofs.Ytbhmhindommaeaa.part w0 G, bl, sl, part_fresh w0 G, ?_, fun G' he => hpost G' (part_ext hbd (fun b hb => hinv.apart b (hS b hb) G (List.mem_cons_of_mem _ hG)) he)⟩, { c.fr a items with mode := .returning }, Steps.refl _ _, rfl, rfl, hfi.1, rfl, fn, hf, run_results hfi hinv.mem hrs (RVs_fs (fun F hF => List.mem_cons_of_mem _ hF) rs vs hres)⟩
  refine hinv.change [] (by simp) (Keep.refl w []) (fun F hF => .inl ?_) hinv.mem.own hinv.mem.slh hinv.nodup (fun _ hx => .inl hx)
  rcases List.mem_cons.1 hF with rfl | hF
  · exact List.mem_cons_self
  · exact List.mem_cons_of_mem _ (hsub F hF)

/-- A loop in which marks are left. -/
theorem Cov.loopD {β : Type} (dfD : β → List Deferred) (dyn : β → Env) (ρs : Env) (FsD : β → List Hp) (blD : β → Blks) (bls : Blks) (slD : β → List OwnS) (sls : List OwnS) (I : β → Prop) (μ : β → Nat) {x : Code} (x0 : β) (hI : I x0) (hdf : df = dfD x0) (hρ : Sub ρ (dyn x0 ++ ρs)) (hF : Fs' = FsD x0 ++ Fs) (hb : bl = blD x0 ++ bls) (hs : sl = slD x0 ++ sls)
    (round : ∀ y, I y → (∀ z, I z → μ z < μ y → Cov nt w0 S0 (dfD z) (dyn z ++ ρs) (FsD z ++ Fs) (blD z ++ bls) (slD z ++ sls) (Run P c R (.inLoop x :: k))) →
      Cov nt w0 S0 (dfD y) (dyn y ++ ρs) (FsD y ++ Fs) (blD y ++ bls) (slD y ++ sls) (Run P c R (.code x :: .inLoop x :: k))) : Cov nt w0 S0 df ρ Fs' bl sl (Run P c R (.code (.loop x) :: k)) := by
  subst hF hb hs hdf
  have key : ∀ n y, μ y = n → I y → Cov nt w0 S0 (dfD y) (dyn y ++ ρs) (FsD y ++ Fs) (blD y ++ bls) (slD y ++ sls) (Run P c R (.code x :: .inLoop x :: k)) := by
    intro n
    induction n using Nat.strongRecOn with
    | _ n ih =>
      intro y hn hy
      exact round y hy fun z hz hlt => (ih (μ z) (hn ▸ hlt) z rfl hz).mono fun _ _ => Run.inLoop
  exact Cov.prune _ hρ ((key _ x0 rfl hI).mono fun _ _ => Run.loop)

section
variable {β : Type} (dfD : β → List Deferred) (dyn : β → Env) (ρs : Env) (FsD : β → List Hp) (blD : β → Blks) (bls : Blks) (slD : β → List OwnS) (sls : List OwnS) (I : β → Prop) (hρ : Sub ρ ρs) (ib : List Nat) (hb : ib.map (bl[·]?) = bls.map some) (is : List Nat) (hs : is.map (sl[·]?) = sls.map some)
set_option linter.unusedVariables false
set_option linter.unusedSectionVars false
include hρ hb hs
theorem Cov.cutBD {id : Nat} {x : Code} (hk : ∀ y, I y → Cov nt w0 S0 (dfD y) (dyn y ++ ρs) (FsD y) (blD y ++ bls) (slD y ++ sls) (Run P c R k))
    (h : (∀ y, I y → Cov nt w0 S0 (dfD y) (dyn y ++ ρs) (FsD y) (blD y ++ bls) (slD y ++ sls) (Run P c R k)) → Cov nt w0 S0 df ρ Fs bl sl (Run P c R (.code (.block id x) :: k))) : Cov nt w0 S0 df ρ Fs bl sl (Run P c R (.code (.block id x) :: k)) := h hk
theorem Cov.cutID {o : Operand} {x y : Code} (hk : ∀ y, I y → Cov nt w0 S0 (dfD y) (dyn y ++ ρs) (FsD y) (blD y ++ bls) (slD y ++ sls) (Run P c R k))
    (h : (∀ y, I y → Cov nt w0 S0 (dfD y) (dyn y ++ ρs) (FsD y) (blD y ++ bls) (slD y ++ sls) (Run P c R k)) → Cov nt w0 S0 df ρ Fs bl sl (Run P c R (.code (.cond o x y) :: k))) : Cov nt w0 S0 df ρ Fs bl sl (Run P c R (.code (.cond o x y) :: k)) := h hk
theorem Cov.cutGD {id : Nat} {ops : Array Oper} {dr : Bool} (hk : ∀ y, I y → Cov nt w0 S0 (dfD y) (dyn y ++ ρs) (FsD y) (blD y ++ bls) (slD y ++ sls) (Run P c R k))
    (h : (∀ y, I y → Cov nt w0 S0 (dfD y) (dyn y ++ ρs) (FsD y) (blD y ++ bls) (slD y ++ sls) (Run P c R k)) → Cov nt w0 S0 df ρ Fs bl sl (Run P c R (.code (.region id ops dr) :: k))) : Cov nt w0 S0 df ρ Fs bl sl (Run P c R (.code (.region id ops dr) :: k)) := h hk
end

theorem Bd.trans {G' : Hp} (h : Bd w0 S0 (G :: B) G') (hB : Bd w0 S0 B G) : Bd w0 S0 B G' := fun b o hb => by
  rcases h b o hb with h | h | ⟨F, hF, hb'⟩
  · exact .inl h
  · exact .inr (.inl h)
  · rcases List.mem_cons.1 hF with rfl | hF
    · exact hB b o hb'
    · exact .inr (.inr ⟨F, hF, hb'⟩)
end

end Go.Proofs.Ytbhmhindommaeaa
