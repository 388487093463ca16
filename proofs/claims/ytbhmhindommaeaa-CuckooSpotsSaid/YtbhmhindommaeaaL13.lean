/-
  Loops over functions that may be left early, and loops within loops.
-/
import Derived.Test.YtbhmhindommaeaaL12
import Derived.RangeFuncNested
namespace Go.Proofs.Ytbhmhindommaeaa
open Go.RowKit

/-- y, called on the i-th where 𝒢 i holds, says true, and 𝒢 (i + 1) holds; or says false, and ℰ holds. -/
def YieldsX (P : Program) (y : Value) (V : Nat → List Value → Prop) (Fs : List Hp) (𝒢 : Nat → Guest → Prop) (ℰ : Guest → Prop) : Prop :=
  ∃ l, y = .func (.yield l) #[] #[] ∧ ∀ (i : Nat) (v : List Value), V i v → ∀ R, 𝒢 i R → ∀ w, (∀ G ∈ Fs, HpIn G w) → R.holds w →
    ∃ f tmps as body, (Instr.yield l v.toArray).run P w = .ok (.round l f tmps as body) w ∧
      RoundV P l f tmps as body w fun r w' => ∃ R', ((r = .bool true ∧ 𝒢 (i + 1) R') ∨ (r = .bool false ∧ ℰ R')) ∧ R'.holds w' ∧ Keep w R.blks w' ∧ ∀ b ∈ R'.blks, b ∈ R.blks ∨ w.heap.size ≤ b

/-- A range function that goes through xs, until it is told to stop. -/
def IterX (P : Program) (f : FuncId) (cap : List Value) (Fs : List Hp) (N : Nat) (V : Nat → List Value → Prop) : Prop :=
  ∀ (y : Value) (𝒢 : Nat → Guest → Prop) (ℰ : Guest → Prop) (R0 : Guest), YieldsX P y V Fs 𝒢 ℰ → 𝒢 0 R0 → RetG P f (y :: cap).toArray Fs [] [.g R0] fun _ _ bl sl => bl = [] ∧ ∃ R, (𝒢 N R ∨ ℰ R) ∧ sl = [.g R]

/-- The closure goes through l. -/
def IterRX (P : Program) {α : Type} (Y : Yr α) (f : FuncId) (cap : List Value) (G : Hp) (l : List α) : Prop :=
  ∀ Fs G1, HpLe G G1 → G1 ∈ Fs → IterX P f cap Fs l.length (fun i v => ∃ x, l[i]? = some x ∧ Y.r G1 v x)
theorem IterRX.mono {P : Program} {α : Type} {Y : Yr α} {f : FuncId} {cap : List Value} {G G' : Hp} {l : List α} (hg : HpLe G G') (h : IterRX P Y f cap G l) : IterRX P Y f cap G' l := fun Fs G1 h1 h2 => h Fs G1 (hg.trans h1) h2

/-- The loop object of a loop that has been left. -/
def doneObj (f : FuncId) (tmps : Array Value) (ps : Array Tmp) (as body : Code) (defers : Nat) (J : Code) : Obj := .loop { state := .done, pending := some J, fn := f, tmps := tmps, params := ps, assign := as, body := body, defers := defers }

/-- What a round leaves. -/
def RoundX {α β : Type} (FsD : α → List Hp) (blD : α → Blks) (slD : α → List OwnS) (FsE : β → List Hp) (blE : β → Blks) (slE : β → List OwnS) (FsS FinR : List Hp) (I1 : α → Prop) (IE : β → Prop) (l : Nat) (lo : Obj) (le : β → Obj) (w1 : World) (S1 : List Nat) (r : Value) (w' : World) : Prop :=
  (r = .bool true ∧ ∃ x', I1 x' ∧ (∀ G ∈ FsD x', Bd w1 S1 FinR G) ∧ Inv w1 S1 (FsD x' ++ FsS) (blD x' ++ [(l, lo)]) (slD x') w') ∨
  (r = .bool false ∧ ∃ y, IE y ∧ (∀ G ∈ FsE y, Bd w1 S1 FinR G) ∧ Inv w1 S1 (FsE y ++ FsS) (blE y ++ [(l, le y)]) (slE y) w')

section
variable {P : Program} {c : Cx} {R0 : Value → World → Prop} {nt : Nat} {w0 : World} {S0 : List Nat} {df : List Deferred} {ρ ρ' : Env} {Fs Fs' Fin : List Hp} {bl bl' bls : Blks} {sl sl' sls : List OwnS}
  {K K' : Act → World → Prop} {k : List Item} {ty : TypeId}

/-- The iterator yields. -/
theorem Cov.yieldX {y : Value} {V : Nat → List Value → Prop} {F0 : List Hp} {𝒢 : Nat → Guest → Prop} {ℰ : Guest → Prop} {i : Nat} {R : Guest} {v : List Value} {d : Nat} {fop : Operand} {args : Array Operand} {ts : Array TypeId} {os : List OpX}
    (hy : YieldsX P y V F0 𝒢 ℰ) (hi : V i v) (hR : 𝒢 i R) (hF : ∀ G ∈ F0, G ∈ Fs) (hf : ev ρ fop = some y) (ha : args.toList.map (ev ρ) = v.map some) (hd : Nat.blt d nt = true)
    (hk : ∀ R', 𝒢 (i + 1) R' → Cov nt w0 S0 df ((d, .bool true) :: ρ) Fs bl (.g R' :: sl) (RO P c R0 os k))
    (he : ∀ R', ℰ R' → Cov nt w0 S0 df ((d, .bool false) :: ρ) Fs bl (.g R' :: sl) (RO P c R0 os k)) :
    Cov nt w0 S0 df ρ Fs bl (.g R :: sl) (RO P c R0 (⟨some d, .call ⟨.value fop, args, ts⟩, ty, none⟩ :: os) k) := fun a w hfi hinv => by
  simp only [RO, wantedT, if_true]
  refine .inr ?_
  obtain ⟨l, rfl, hy⟩ := hy
  obtain ⟨f, tmps, as, body, hr, hround⟩ := hy i v hi R hR w (fun G hG => hinv.mem.fs G (hF G hG)) (hinv.mem.slh _ List.mem_cons_self)
  have key : ∀ (l : List Operand) (vl : List Value), l.map (ev ρ) = vl.map some → l.map a.eval = vl := by
    intro l
    induction l with
    | nil => intro vl h; cases vl <;> simp at h ⊢
    | cons x l ih =>
      intro vl h
      cases vl with
      | nil => simp at h
      | cons v vl =>
        simp only [List.map_cons, List.cons.injEq] at h
        simp only [List.map_cons, ev_sound hfi h.1, ih vl h.2]
  have h1 : args.map a.eval = v.toArray := by rw [← Array.toList_inj]; simpa using key _ _ ha
  refine ⟨l, f, tmps, as, body, w, ?_, ?_⟩
  · simp only [OpX.oper, execOp, resolve, h1, ev_sound hfi hf, Deferred.ofValue]
    simp only [Sem.run_bind, Sem.run_pure, Result.andThen_ok, invoke]
    simpa using hr
  · intro cl cs
    obtain ⟨r, w', ⟨R', h2, h3, h4, h5⟩, hs⟩ := hround cl cs
    have hinv' := hinv.set_s 0 (s := .g R) (s' := .g R') rfl h4 h3 R'.nodup h5
    rcases h2 with ⟨rfl, h2⟩ | ⟨rfl, h2⟩
    · exact ⟨.bool true, w', hk R' h2 _ w' (hfi.put hd _) hinv', hs⟩
    · exact ⟨.bool false, w', he R' h2 _ w' (hfi.put hd _) hinv', hs⟩

section
variable {α β : Type} {FsD : α → List Hp} {blD : α → Blks} {slD : α → List OwnS} {FsE : β → List Hp} {blE : β → Blks} {slE : β → List OwnS} {FsS FinR : List Hp} {I1 : α → Prop} {IE : β → Prop} {l : Nat} {le : β → Obj} {f : FuncId} {tmps : Array Value} {ps : Array Tmp} {as body : Code} {D : Nat}
/-- A round ends. -/
theorem Cov.round_endX (x' : α) (j : Nat) (hro : c.ro = some l) (hb : bl[j]? = some (l, loopObj .busy f tmps ps as body D)) (hI : I1 x')
    (hbl : bl.set j (l, loopObj .ready f tmps ps as body D) = blD x' ++ [(l, loopObj .ready f tmps ps as body D)]) (hsl : sl = slD x') (hFs : ∀ G ∈ FsD x' ++ FsS, G ∈ Fs) (hbd : ∀ G ∈ FsD x', Bd w0 S0 FinR G) :
    Cov nt w0 S0 [] ρ Fs bl sl (Run P c (RoundX FsD blD slD FsE blE slE FsS FinR I1 IE l (loopObj .ready f tmps ps as body D) le w0 S0) []) := fun a w hf hi => by
  subst hsl
  have hl := hi.mem.own _ (List.mem_of_getElem? hb)
  have hr := run_endRound (P := P) (w := w) (l := l) none hl
  have hi2 := hi.set j hb (Keep.putObj w l (loopObj .ready f tmps ps as body D)) (World.putObj_heap_same (own_lt hl))
  rw [hbl] at hi2
  have hi3 := hi2.change (Fs' := FsD x' ++ FsS) (bl' := blD x' ++ [(l, loopObj .ready f tmps ps as body D)]) (sl' := slD x') [] (by simp) (Keep.refl _ []) (fun G hG => .inl (hFs G hG)) hi2.mem.own hi2.mem.slh hi2.nodup (fun _ hb => .inl hb)
  intro cs hcs
  refine ⟨.bool true, _, .inl ⟨rfl, x', hI, hbd, hi3⟩, ?_⟩
  unfold Done
  simp only [hro]
  cases cs with
  | nil => exact absurd rfl (hcs (by simp [hro]))
  | cons cl cs =>
    refine ⟨cl, cs, rfl, .one ?_⟩
    exact stepR_round_end (P := P) (b := c.fr a []) (a := a) (c := cl) (cs := cs) (w := w) hro rfl hr

/-- A round leaves the function. -/
theorem Cov.round_ret {lo : Obj} (y : β) (j : Nat) (hro : c.ro = some l) (hb : bl[j]? = some (l, loopObj .busy f tmps ps as body D)) (hI : IE y) (hle : le y = doneObj f tmps ps as body D .ret)
    (hbl : bl.set j (l, doneObj f tmps ps as body D .ret) = blE y ++ [(l, doneObj f tmps ps as body D .ret)]) (hsl : sl = slE y) (hFs : ∀ G ∈ FsE y ++ FsS, G ∈ Fs) (hbd : ∀ G ∈ FsE y, Bd w0 S0 FinR G) :
    Cov nt w0 S0 [] ρ Fs bl sl (Run P c (RoundX FsD blD slD FsE blE slE FsS FinR I1 IE l lo le w0 S0) (.code .ret :: k)) := fun a w hf hi => by
  subst hsl
  have hl := hi.mem.own _ (List.mem_of_getElem? hb)
  have hr := run_endRound (P := P) (w := w) (l := l) (some .ret) hl
  have hi2 := hi.set j hb (Keep.putObj w l (doneObj f tmps ps as body D .ret)) (World.putObj_heap_same (own_lt hl))
  rw [hbl] at hi2
  have hi3 := hi2.change (Fs' := FsE y ++ FsS) (bl' := blE y ++ [(l, le y)]) (sl' := slE y) [] (by simp) (Keep.refl _ []) (fun G hG => .inl (hFs G hG)) (by rw [hle]; exact hi2.mem.own) hi2.mem.slh (by rw [hle]; exact hi2.nodup) (fun _ hb => .inl (by rw [hle] at hb; exact hb))
  intro cs hcs
  refine ⟨.bool false, _, .inr ⟨rfl, y, hI, hbd, hi3⟩, ?_⟩
  unfold Done
  simp only [hro]
  cases cs with
  | nil => exact absurd rfl (hcs (by simp [hro]))
  | cons cl cs =>
    refine ⟨cl, cs, rfl, .one ?_⟩
    exact stepR_round_ret (P := P) (b := c.fr a []) (a := a) (c := cl) (cs := cs) (w := w) (k := k) hro rfl hr
end

/-- What the exit leaves, as a guest. -/
def GstE {β : Type} (FsE : β → List Hp) (blE : β → Blks) (slE : β → List OwnS) (FsS : List Hp) (l : Nat) (le : β → Obj) (w0 : World) (S0 : List Nat) (IE : β → Prop) (R : Guest) : Prop := ∃ x, IE x ∧ PureOK FsE blE slE FsS l (le x) w0 S0 x ∧ ∃ B hB hnd, R = mkGuest FsE blE slE FsS l (le x) x B hB hnd

/-- What a round leaves, packed. -/
theorem pack_of {γ : Type} {FsX : γ → List Hp} {blX : γ → Blks} {slX : γ → List OwnS} {FsD1 FsS : List Hp} {l : Nat} {lo : Obj} {x' : γ} {w w' : World} {bin : List Nat} {B : List Nat} (hSB : ∀ b ∈ bin, b ∈ B) (hsz : w0.heap.size ≤ w.heap.size)
    (hbin : ∀ b ∈ bin, b ∈ S0 ∨ w0.heap.size ≤ b) (hF1 : ∀ G ∈ FsD1, Bd w0 S0 FsS G) (hFB : ∀ G ∈ FsD1, ∀ b o, G b = some o → (∃ F ∈ FsS, (F b).isSome = true) ∨ b ∈ B)
    (hbd : ∀ G ∈ FsX x', Bd w bin (FsD1 ++ FsS) G) (hinv' : Inv w bin (FsX x' ++ FsS) (blX x' ++ [(l, lo)]) (slX x') w') :
    PureOK FsX blX slX FsS l lo w0 S0 x' ∧ ∃ B' hB' hnd', (mkGuest FsX blX slX FsS l lo x' B' hB' hnd').holds w' ∧ Keep w B w' ∧ ∀ b ∈ B', b ∈ B ∨ w.heap.size ≤ b := by
  obtain ⟨B', hB', hnd', hh', hg'⟩ := guest_of hinv'
  refine ⟨⟨hinv'.nodup, hinv'.apart, fun b hb => ?_, fun G hG b o ho => ?_⟩, B', hB', hnd', hh', ⟨hinv'.keep.os, hinv'.keep.tape, hinv'.keep.output, hinv'.keep.size, fun b hb hn => hinv'.keep.block b hb (fun h => hn (hSB b h))⟩, fun b hb => ?_⟩
  · rcases hinv'.mine b hb with h | h
    · exact hbin b h
    · exact .inr (Nat.le_trans hsz h)
  · rcases hbd G hG b o ho with h | h | ⟨F, hF, hf⟩
    · exact .inl (Nat.le_trans hsz h)
    · rcases hbin b h with h | h
      · exact .inr (.inl h)
      · exact .inl h
    · rcases List.mem_append.1 hF with hF | hF
      · exact hF1 F hF b o hf
      · exact .inr (.inr ⟨F, hF, hf⟩)
  · rcases hg' b hb with h | ⟨⟨G, hG, hs⟩, hn⟩
    · rcases hinv'.mine b h with h | h
      · exact .inl (hSB b h)
      · exact .inr h
    · obtain ⟨o, ho⟩ := Option.isSome_iff_exists.1 hs
      rcases hbd G hG b o ho with h | h | ⟨F, hF, hf⟩
      · exact .inr h
      · exact .inl (hSB b h)
      · rcases List.mem_append.1 hF with hF | hF
        · rcases hFB F hF b o hf with h | h
          · exact absurd h hn
          · exact .inl h
        · exact absurd ⟨F, hF, by rw [hf]; rfl⟩ hn

section
variable {α β : Type} {FsD : α → List Hp} {blD : α → Blks} {slD : α → List OwnS} {FsE : β → List Hp} {blE : β → Blks} {slE : β → List OwnS} {FsS : List Hp} {l : Nat} {lo : Obj} {le : β → Obj}
/-- The rounds of a loop, as its iterator sees them. -/
theorem yields_ofX {c : Cx} {V : Nat → List Value → Prop} {ps : Array Tmp} {as body : Code} {tmps : Array Value} {D : Nat} (I : Nat → α → Prop) (IE : β → Prop) (hlo : lo = loopObj .ready c.fn tmps ps as body D) (hlb : w0.heap.size ≤ l)
    (hps : ∀ i v, V i v → v.length = ps.size) (hpt : ps.all (Nat.blt · nt) = true) (hfit : Fits nt [] ρ { tmps := tmps, defers := [] })
    (round : ∀ (i : Nat) (x : α) (v : List Value), V i v → I i x → ∀ w1 S1, w0.heap.size ≤ w1.heap.size → Cov nt w1 S1 [] ((ps.toList.zip v).reverse ++ ρ) (FsD x ++ FsS) (blD x ++ [(l, lo)]) (slD x)
      (Run P ⟨c.fn, some l⟩ (RoundX FsD blD slD FsE blE slE FsS (FsD x ++ FsS) (I (i + 1)) IE l lo le w1 S1) [.code as, .beginRound, .code body])) :
    YieldsX P (.func (.yield l) #[] #[]) V FsS (Gst FsD blD slD FsS l lo w0 S0 I) (GstE FsE blE slE FsS l le w0 S0 IE) := by
  refine ⟨l, rfl, fun i v hv R hR w hFs hh => ?_⟩
  obtain ⟨x, hI, hp, B, hB, hnd, rfl⟩ := hR
  obtain ⟨hh1, hh2, hh3, hh4⟩ := hh
  have hl : w.heap[l]? = some lo := hh2 (l, lo) (List.mem_append_right _ List.mem_cons_self)
  have hl' := hl
  rw [hlo] at hl'
  have hvl := hps i v hv
  refine ⟨_, _, _, _, run_yield (P := P) (args := v.toArray) hl' (by simpa using hvl), fun cl cs => ?_⟩
  have hfold : ((ps.zip v.toArray).foldl (fun tmps (t, a) => tmps.setIfInBounds t a) tmps) = (ps.toList.zip v).foldl (fun t p => t.setIfInBounds p.1 p.2) tmps := by
    rw [← Array.foldl_toList]
    simp
  have hfit2 := fits_params (ps.toList.zip v) (ds := []) hfit (fun p hp => by
    have h1 := (List.of_mem_zip hp).1
    have h2 := Array.all_eq_true'.1 hpt p.1 (by simpa using h1)
    exact h2) rfl
  have hSB : ∀ b ∈ blks (blD x ++ [(l, lo)]) (slD x), b ∈ B := fun b hb => hB b (.inl hb)
  have hinv : Inv w (blks (blD x ++ [(l, lo)]) (slD x)) (FsD x ++ FsS) (blD x ++ [(l, lo)]) (slD x) w :=
    ⟨⟨fun G hG => by
      rcases List.mem_append.1 hG with hG | hG
      · intro b o hb
        rcases hh1 G hG b o hb with ⟨F, hF, hf⟩ | ⟨_, h⟩
        · exact hFs F hF b o hf
        · exact h
      · exact hFs G hG, hh2, hh3⟩, Keep.refl _ _, hp.1, fun b hb => .inl hb, hp.2.1⟩
  have hsz : w0.heap.size ≤ w.heap.size := by have := own_lt hl; omega
  have hFB : ∀ G ∈ FsD x, ∀ b o, G b = some o → (∃ F ∈ FsS, (F b).isSome = true) ∨ b ∈ B := fun G hG b o ho => by
    rcases hh1 G hG b o ho with ⟨F, hF, hf⟩ | ⟨h, _⟩
    · exact .inl ⟨F, hF, by rw [hf]; rfl⟩
    · exact .inr h
  obtain ⟨r, w', hX, hd⟩ := round i x v hv hI w _ hsz _ w hfit2 hinv (cl :: cs) (by simp)
  have hd2 : Steps P (lone (Frame.round l c.fn ((ps.zip v.toArray).foldl (fun tmps (t, a) => tmps.setIfInBounds t a) tmps) as body .normal) (cl :: cs) w) (lone (cl.finish r) cs w') := by
    unfold Done at hd
    simp only at hd
    obtain ⟨caller, cs', he, hs⟩ := hd
    obtain ⟨rfl, rfl⟩ := List.cons.inj he
    have : Frame.round l c.fn ((ps.zip v.toArray).foldl (fun tmps (t, a) => tmps.setIfInBounds t a) tmps) as body .normal = (⟨c.fn, some l⟩ : Cx).fr { tmps := (ps.toList.zip v).foldl (fun t p => t.setIfInBounds p.1 p.2) tmps, defers := [] } [.code as, .beginRound, .code body] := by
      rw [hfold]; rfl
    rw [this]
    exact hs
  rcases hX with ⟨rfl, x', hI', hbd, hinv'⟩ | ⟨rfl, y', hI', hbd, hinv'⟩
  · obtain ⟨hp', B', hB', hnd', h1, h2, h3⟩ := pack_of hSB hsz hp.2.2.1 hp.2.2.2 hFB hbd hinv'
    exact ⟨.bool true, w', ⟨mkGuest FsD blD slD FsS l lo x' B' hB' hnd', .inl ⟨rfl, x', hI', hp', B', hB', hnd', rfl⟩, h1, h2, h3⟩, hd2⟩
  · obtain ⟨hp', B', hB', hnd', h1, h2, h3⟩ := pack_of hSB hsz hp.2.2.1 hp.2.2.2 hFB hbd hinv'
    exact ⟨.bool false, w', ⟨mkGuest FsE blE slE FsS l (le y') y' B' hB' hnd', .inr ⟨rfl, y', hI', hp', B', hB', hnd', rfl⟩, h1, h2, h3⟩, hd2⟩
end

/-- Behind the iterator's call: the loop's things again. -/
theorem loop_tail {γ : Type} {FsX : γ → List Hp} {blX : γ → Blks} {slX : γ → List OwnS} {FsS : List Hp} {x : γ} {lo : Obj} {l : Nat} {Fr : Hp} {w3 : World} {B : List Nat} {hB : ∀ b, gset FsX blX slX FsS l lo x b → b ∈ B} {hnd : B.Nodup}
    (hi6 : Inv w0 S0 (Fr :: FsS) ([] ++ bls) ([.g (mkGuest FsX blX slX FsS l lo x B hB hnd)] ++ sls) w3) (hpx : PureOK FsX blX slX FsS l lo w0 S0 x) (o' : Obj) : w3.heap[l]? = some lo ∧ Inv w0 S0 (FsX x ++ FsS) (blX x ++ bls) (slX x ++ sls) (w3.putObj l o') := by
  obtain ⟨hh1, hh2, hh3, hh4⟩ := hi6.mem.slh _ (List.mem_cons_self)
  have hpb6 : ∀ b, b ∈ B ∨ b ∈ blks bls sls → b ∈ blks ([] ++ bls) ([OwnS.g (mkGuest FsX blX slX FsS l lo x B hB hnd)] ++ sls) := fun b hb => by
    refine (blks_append _ _ _ _ _).2 (hb.imp (fun h => ?_) id)
    simpa [blks, OwnS.blocks, mkGuest] using h
  have hnd6 := (blks_perm [] bls [OwnS.g (mkGuest FsX blX slX FsS l lo x B hB hnd)] sls).nodup_iff.1 hi6.nodup
  have hgb : blks [] [OwnS.g (mkGuest FsX blX slX FsS l lo x B hB hnd)] = B := by simp [blks, OwnS.blocks, mkGuest]
  rw [hgb, List.nodup_append] at hnd6
  have hxB : ∀ b ∈ blks (blX x ++ [(l, lo)]) (slX x), b ∈ B := fun b hb => hB b (.inl hb)
  have hi7 : Inv w0 S0 (FsX x ++ FsS) ((blX x ++ [(l, lo)]) ++ bls) (slX x ++ sls) w3 := by
    refine hi6.change [] (by simp) (Keep.refl w3 []) (fun G hG => ?_) (fun p hp => ?_) (fun s hs => ?_) ?_ (fun b hb => .inl ?_)
    · rcases List.mem_append.1 hG with hG | hG
      · refine .inr ⟨fun b o hb => ?_, fun b hb => ?_⟩
        · rcases hh1 G hG b o hb with ⟨F, hF, hf'⟩ | ⟨_, h⟩
          · exact hi6.mem.fs F (List.mem_cons_of_mem _ hF) b o hf'
          · exact h
        · rcases (blks_append _ _ _ _ _).1 hb with h | h
          · exact hpx.2.1 b h G (List.mem_append_left _ hG)
          · cases hg' : G b with
            | none => rfl
            | some o =>
              rcases hh1 G hG b o hg' with ⟨F, hF, hf'⟩ | ⟨h1, _⟩
              · rw [hi6.apart b (hpb6 b (.inr h)) F (List.mem_cons_of_mem _ hF)] at hf'; cases hf'
              · exact absurd rfl (hnd6.2.2 b h1 b h)
      · exact .inl (List.mem_cons_of_mem _ hG)
    · rcases List.mem_append.1 hp with hp | hp
      · exact hh2 p hp
      · exact hi6.mem.own p (List.mem_append_right _ hp)
    · rcases List.mem_append.1 hs with hs | hs
      · exact hh3 s hs
      · exact hi6.mem.slh s (List.mem_append_right _ hs)
    · rw [(blks_perm _ _ (slX x) sls).nodup_iff, List.nodup_append]
      exact ⟨hpx.1, hnd6.2.1, fun a' ha b hb e => hnd6.2.2 a' (hxB a' ha) b hb e⟩
    · rcases (blks_append _ _ _ _ _).1 hb with h | h
      · exact hpb6 b (.inl (hxB b h))
      · exact hpb6 b (.inr h)
  have hl3 : w3.heap[l]? = some lo := hi7.mem.own (l, lo) (List.mem_append_left _ (List.mem_append_right _ List.mem_cons_self))
  refine ⟨hl3, ?_⟩
  have hp8 : (blks ((blX x ++ [(l, lo)]) ++ bls) (slX x ++ sls)).Perm (l :: blks (blX x ++ bls) (slX x ++ sls)) := by
    simp only [blks, List.append_assoc, List.map_append, List.map_cons, List.map_nil, List.cons_append, List.nil_append]
    exact List.perm_middle
  have hnd8 := List.nodup_cons.1 (hp8.nodup_iff.1 hi7.nodup)
  have hk : ∀ b ∈ blks (blX x ++ bls) (slX x ++ sls), (w3.putObj l o').heap[b]? = w3.heap[b]? := fun b hb =>
    World.putObj_heap_other (fun e => hnd8.1 (e ▸ hb))
  refine hi7.change [l] (fun b hb => ?_) (Keep.putObj w3 _ _) (fun G hG => .inl hG) (fun p hp => ?_) (fun s hs => ?_) hnd8.2 (fun b hb => .inl (hp8.mem_iff.2 (List.mem_cons_of_mem _ hb)))
  · simp only [List.mem_singleton] at hb
    subst hb
    exact hp8.mem_iff.2 List.mem_cons_self
  · rw [hk p.1 (List.mem_append_left _ (List.mem_map.2 ⟨p, hp, rfl⟩))]
    refine hi7.mem.own p ?_
    rcases List.mem_append.1 hp with hp | hp
    · exact List.mem_append_left _ (List.mem_append_left _ hp)
    · exact List.mem_append_right _ hp
  · exact OwnS.same (hi7.mem.slh s hs) fun b hb => hk b (List.mem_append_right _ (List.mem_flatMap.2 ⟨s, hs, hb⟩))

/-- A loop over a function, once its object is there. -/
theorem rangeCore {α β : Type} {FsD : α → List Hp} {blD : α → Blks} {slD : α → List OwnS} {FsE : β → List Hp} {blE : β → Blks} {slE : β → List OwnS} {J : β → Code} {I : Nat → α → Prop} {IE : β → Prop} {x0 : α} {g : Operand} {ps : Array Tmp} {as body : Code} {f : FuncId} {cap : List Value} {N : Nat} {V : Nat → List Value → Prop} {FsS : List Hp}
    {a : Act} {w w1 : World} {D : Nat} {mark : List Deferred} {l : Nat} (hf : Fits nt df ρ a) (he : (Instr.enterLoop c.fn a.tmps ps as body c.ro).run P w = .ok (l, mark) w1)
    (hi3 : Inv w0 S0 (FsD x0 ++ FsS) ((blD x0 ++ [(l, loopObj .ready c.fn a.tmps ps as body D)]) ++ bls) (slD x0 ++ sls) w1) (hlb : w0.heap.size ≤ l)
    (hg : ev ρ g = some (.func (.func f) #[] cap.toArray)) (hcall : ∀ args w, (callFunc f args).run P w = .ok (.enter f args) w) (hF0 : ∀ G ∈ FsD x0, ∀ b, G b = none)
    (hit : IterX P f cap FsS N V) (hps : ∀ i v, V i v → v.length = ps.size) (hpt : ps.all (Nat.blt · nt) = true) (hI : I 0 x0)
    (round : ∀ (i : Nat) (x : α) (v : List Value), V i v → I i x → ∀ w1 S1, w0.heap.size ≤ w1.heap.size →
      Cov nt w1 S1 [] ((ps.toList.zip v).reverse ++ ρ) (FsD x ++ FsS) (blD x ++ [(l, loopObj .ready c.fn a.tmps ps as body D)]) (slD x)
        (Run P ⟨c.fn, some l⟩ (RoundX FsD blD slD FsE blE slE FsS (FsD x ++ FsS) (I (i + 1)) IE l (loopObj .ready c.fn a.tmps ps as body D) (fun y => doneObj c.fn a.tmps ps as body D (J y)) w1 S1) [.code as, .beginRound, .code body]))
    (after : ∀ x, I N x → (∀ G ∈ FsD x, Bd w0 S0 FsS G) → Cov nt w0 S0 (mark ++ df) ρ (FsD x ++ FsS) (blD x ++ bls) (slD x ++ sls) (Run P c R0 k))
    (exit : ∀ y, IE y → (∀ G ∈ FsE y, Bd w0 S0 FsS G) → Cov nt w0 S0 (mark ++ df) ρ (FsE y ++ FsS) (blE y ++ bls) (slE y ++ sls) (Run P c R0 (.code (J y) :: k))) :
    Run P c R0 (.code (.rangeFunc g ps as body) :: k) a w := by
  have hnd3 := (blks_perm (blD x0 ++ [(l, loopObj .ready c.fn a.tmps ps as body D)]) bls (slD x0) sls).nodup_iff.1 hi3.nodup
  have hin : ∀ b ∈ blks (blD x0 ++ [(l, loopObj .ready c.fn a.tmps ps as body D)]) (slD x0), b ∈ blks ((blD x0 ++ [(l, loopObj .ready c.fn a.tmps ps as body D)]) ++ bls) (slD x0 ++ sls) := fun b hb => (blks_append _ _ _ _ _).2 (.inl hb)
  have hi4 : Inv w0 S0 (FsD x0 ++ FsS) (blD x0 ++ [(l, loopObj .ready c.fn a.tmps ps as body D)]) (slD x0) w1 :=
    hi3.change [] (by simp) (Keep.refl _ _) (fun G hG => .inl hG) (fun p hp => hi3.mem.own p (List.mem_append_left _ hp)) (fun s hs => hi3.mem.slh s (List.mem_append_left _ hs)) (List.nodup_append.1 hnd3).1 (fun b hb => .inl (hin b hb))
  obtain ⟨B, hB, hndB, hh, hgB⟩ := guest_of hi4
  have hB2 : ∀ b ∈ B, b ∈ blks (blD x0 ++ [(l, loopObj .ready c.fn a.tmps ps as body D)]) (slD x0) := fun b hb => by
    rcases hgB b hb with h | ⟨⟨G, hG, hs⟩, _⟩
    · exact h
    · rw [hF0 G hG b] at hs; cases hs
  have hpure : PureOK FsD blD slD FsS l (loopObj .ready c.fn a.tmps ps as body D) w0 S0 x0 := ⟨hi4.nodup, hi4.apart, hi4.mine, fun G hG b o ho => by rw [hF0 G hG b] at ho; cases ho⟩
  have hfit0 : Fits nt [] ρ { tmps := a.tmps, defers := [] } := ⟨rfl, hf.2.1, hf.2.2⟩
  have hy := yields_ofX (P := P) (nt := nt) (w0 := w0) (S0 := S0) (ρ := ρ) (FsD := FsD) (blD := blD) (slD := slD) (FsE := FsE) (blE := blE) (slE := slE) (FsS := FsS) (l := l) (lo := loopObj .ready c.fn a.tmps ps as body D) (le := fun y => doneObj c.fn a.tmps ps as body D (J y)) (c := c) (V := V) I IE rfl hlb hps hpt hfit0 round
  have hcon := hit _ _ _ (mkGuest FsD blD slD FsS _ _ x0 B hB hndB) hy ⟨x0, hI, hpure, B, hB, hndB, rfl⟩
  -- the state at the call
  have hi5 : Inv w0 S0 FsS ([] ++ bls) ([.g (mkGuest FsD blD slD FsS _ _ x0 B hB hndB)] ++ sls) w1 := by
    have hpb : ∀ b, b ∈ blks ([] ++ bls) ([.g (mkGuest FsD blD slD FsS _ _ x0 B hB hndB)] ++ sls) → b ∈ B ∨ b ∈ blks bls sls := fun b hb => by
      rcases (blks_append _ _ _ _ _).1 hb with h | h
      · simp only [blks, List.map_nil, List.nil_append, List.flatMap_cons, List.flatMap_nil, List.append_nil] at h
        exact .inl h
      · exact .inr h
    refine hi3.change [] (by simp) (Keep.refl _ _) (fun G hG => .inl (List.mem_append_right _ hG)) (fun p hp => hi3.mem.own p (List.mem_append_right _ hp)) (fun s hs => ?_) ?_ (fun b hb => .inl ?_)
    · rcases List.mem_cons.1 hs with rfl | hs
      · exact hh
      · exact hi3.mem.slh s (List.mem_append_right _ hs)
    · rw [(blks_perm [] _ [.g (mkGuest FsD blD slD FsS _ _ x0 B hB hndB)] sls).nodup_iff, List.nodup_append]
      have hgb : blks [] [OwnS.g (mkGuest FsD blD slD FsS l (loopObj .ready c.fn a.tmps ps as body D) x0 B hB hndB)] = B := by simp [blks, OwnS.blocks, mkGuest]
      rw [hgb]
      exact ⟨hndB, (List.nodup_append.1 hnd3).2.1, fun x hx y hy e => (List.nodup_append.1 hnd3).2.2 x (hB2 x hx) y hy e⟩
    · rcases hpb b hb with h | h
      · exact hin b (hB2 b h)
      · exact (blks_append _ _ _ _ _).2 (.inr h)
  intro cs hcs
  have s1 := stepR_rangeFunc (P := P) (b := c.fr a []) (a := a) (k := k) (cs := cs) (w := w) (g := g) (ps := ps) (assign := as) (body := body) (l := l) (mark := mark)
    (d := { target := .fn (.func f) cap.toArray, args := #[.func (.yield l) #[] #[]] }) (f := f) (args := (Value.func (.yield l) #[] #[] :: cap).toArray)
    (w₁ := w1) (w₁' := w1) (w₂ := w1) he
    (by
      simp only [rangeCall, resolve, ev_sound hf hg, Deferred.ofValue]
      simp [Act.eval])
    (by
      simp only [invoke]
      simpa using hcall (Value.func (.yield l) #[] #[] :: cap).toArray _)
  obtain ⟨e, w3, fr, ⟨v, rfl, Fr, bo, so, hfr, ho, rfl, R, hR, rfl⟩, hcomes, hfn, hleave⟩ := hcon.use hi5 ((c.fr { a with defers := mark ++ a.defers } (.inRangeFunc l :: k)) :: cs)
  have hi6 := hi5.calledG hfr ho
  have hfit : Fits nt (mark ++ df) ρ { a with defers := mark ++ a.defers } := ⟨by simp [hf.1], hf.2.1, hf.2.2⟩
  rcases hR with ⟨x, hIx, hpx, B', hB', hnd', rfl⟩ | ⟨y, hIy, hpy, B', hB', hnd', rfl⟩
  · obtain ⟨hl3, hi8⟩ := loop_tail hi6 hpx (.loop { state := .exhausted, pending := none, fn := c.fn, tmps := a.tmps, params := ps, assign := as, body := body, defers := D })
    have hend := run_endLoop (P := P) (w := w3) hl3 (by intro h; cases h)
    obtain ⟨v', w5, hR5, hd5⟩ := after x hIx hpx.2.2.2 _ _ hfit hi8 cs hcs
    refine ⟨v', w5, hR5, hd5.of_steps (.head s1 (Steps.trans hcomes (.head (step_leave_returned hleave) (.one ?_))))⟩
    exact stepR_endRangeFunc (P := P) (b := c.fr a []) (a := { a with defers := mark ++ a.defers }) (k := k) (cs := cs) hend
  · obtain ⟨hl3, hi8⟩ := loop_tail hi6 hpy (.loop { state := .exhausted, pending := some (J y), fn := c.fn, tmps := a.tmps, params := ps, assign := as, body := body, defers := D })
    have hend := run_endLoop (P := P) (w := w3) hl3 (by intro h; cases h)
    obtain ⟨v', w5, hR5, hd5⟩ := exit y hIy hpy.2.2.2 _ _ hfit hi8 cs hcs
    refine ⟨v', w5, hR5, hd5.of_steps (.head s1 (Steps.trans hcomes (.head (step_leave_returned hleave) (.one ?_))))⟩
    exact stepR_endRangeFunc (P := P) (b := c.fr a []) (a := { a with defers := mark ++ a.defers }) (k := k) (cs := cs) hend

/-- A loop over a function. -/
theorem Cov.rangeX {α β : Type} (FsD : α → List Hp) (blD : α → Blks) (slD : α → List OwnS) (FsE : β → List Hp) (blE : β → Blks) (slE : β → List OwnS) (J : β → Code) (I : Nat → α → Prop) (IE : β → Prop) (x0 : α) {g : Operand} {ps : Array Tmp} {as body : Code} {f : FuncId} (cap : List Value) {N : Nat} {V : Nat → List Value → Prop} {FsS : List Hp}
    (hro : c.ro = none) (hg : ev ρ g = some (.func (.func f) #[] cap.toArray)) (hcall : ∀ args w, (callFunc f args).run P w = .ok (.enter f args) w) (hF : Fs = FsD x0 ++ FsS) (hF0 : ∀ G ∈ FsD x0, ∀ b, G b = none) (hb : bl = blD x0 ++ bls) (hs : sl = slD x0 ++ sls)
    (hit : IterX P f cap FsS N V) (hps : ∀ i v, V i v → v.length = ps.size) (hpt : ps.all (Nat.blt · nt) = true) (hI : I 0 x0)
    (round : ∀ (l : Nat) (tmps : Array Value) (D : Nat) (i : Nat) (x : α) (v : List Value), V i v → I i x → ∀ w1 S1, w0.heap.size ≤ w1.heap.size →
      Cov nt w1 S1 [] ((ps.toList.zip v).reverse ++ ρ) (FsD x ++ FsS) (blD x ++ [(l, loopObj .ready c.fn tmps ps as body D)]) (slD x)
        (Run P ⟨c.fn, some l⟩ (RoundX FsD blD slD FsE blE slE FsS (FsD x ++ FsS) (I (i + 1)) IE l (loopObj .ready c.fn tmps ps as body D) (fun y => doneObj c.fn tmps ps as body D (J y)) w1 S1) [.code as, .beginRound, .code body]))
    (after : ∀ r x, I N x → (∀ G ∈ FsD x, Bd w0 S0 FsS G) → Cov nt w0 S0 ({ target := .collected r, args := #[] } :: df) ρ (FsD x ++ FsS) (blD x ++ (r, .deferred (some [])) :: bls) (slD x ++ sls) (Run P c R0 k))
    (exit : ∀ r y, IE y → (∀ G ∈ FsE y, Bd w0 S0 FsS G) → Cov nt w0 S0 ({ target := .collected r, args := #[] } :: df) ρ (FsE y ++ FsS) (blE y ++ (r, .deferred (some [])) :: bls) (slE y ++ sls) (Run P c R0 (.code (J y) :: k))) :
    Cov nt w0 S0 df ρ Fs bl sl (Run P c R0 (.code (.rangeFunc g ps as body) :: k)) := fun a w hf hi => by
  subst hF hb hs
  have he := run_enterLoop_outer (P := P) (w := w) c.fn a.tmps ps as body
  rw [← hro] at he
  have hi1 := hi.alloc (.deferred (some []))
  have hi2 := hi1.alloc (loopObj .ready c.fn a.tmps ps as body w.heap.size)
  have hl : (w.alloc (.deferred (some []))).heap.size = w.heap.size + 1 := World.size_alloc ..
  rw [hl] at hi2
  have hperm : ((w.heap.size + 1, loopObj .ready c.fn a.tmps ps as body w.heap.size) :: (w.heap.size, Obj.deferred (some [])) :: (blD x0 ++ bls)).Perm ((blD x0 ++ [(w.heap.size + 1, loopObj .ready c.fn a.tmps ps as body w.heap.size)]) ++ (w.heap.size, Obj.deferred (some [])) :: bls) := by
    rw [List.append_assoc]
    refine List.Perm.trans ?_ List.perm_append_comm
    simp only [List.cons_append, List.nil_append]
    refine List.Perm.cons _ (List.Perm.cons _ ?_)
    exact List.perm_append_comm
  have hi3 := hi2.perm hperm (List.Perm.refl _)
  have hlb : w0.heap.size ≤ w.heap.size + 1 := by have := hi.keep.size; omega
  exact rangeCore (FsD := FsD) (blD := blD) (slD := slD) (FsE := FsE) (blE := blE) (slE := slE) (J := J) (I := I) (IE := IE) (x0 := x0) hf he hi3 hlb hg hcall hF0 hit hps hpt hI (fun i x v => round _ _ _ i x v) (fun x h1 h2 => after _ x h1 h2) (fun y h1 h2 => exit _ y h1 h2)

/-- A loop over a function, in a round of another. -/
theorem Cov.rangeN {α β : Type} (FsD : α → List Hp) (blD : α → Blks) (slD : α → List OwnS) (FsE : β → List Hp) (blE : β → Blks) (slE : β → List OwnS) (J : β → Code) (I : Nat → α → Prop) (IE : β → Prop) (x0 : α) (j : Nat) {g : Operand} {ps : Array Tmp} {as body : Code} {f : FuncId} (cap : List Value) {N : Nat} {V : Nat → List Value → Prop} {FsS : List Hp}
    {l₀ : Nat} {r₀ : Loop} (hro : c.ro = some l₀) (hlo : bl[j]? = some (l₀, .loop r₀)) (hg : ev ρ g = some (.func (.func f) #[] cap.toArray)) (hcall : ∀ args w, (callFunc f args).run P w = .ok (.enter f args) w) (hF : Fs = FsD x0 ++ FsS) (hF0 : ∀ G ∈ FsD x0, ∀ b, G b = none) (hb : bl = blD x0 ++ bls) (hs : sl = slD x0 ++ sls)
    (hit : IterX P f cap FsS N V) (hps : ∀ i v, V i v → v.length = ps.size) (hpt : ps.all (Nat.blt · nt) = true) (hI : I 0 x0)
    (round : ∀ (l : Nat) (tmps : Array Value) (D : Nat) (i : Nat) (x : α) (v : List Value), V i v → I i x → ∀ w1 S1, w0.heap.size ≤ w1.heap.size →
      Cov nt w1 S1 [] ((ps.toList.zip v).reverse ++ ρ) (FsD x ++ FsS) (blD x ++ [(l, loopObj .ready c.fn tmps ps as body D)]) (slD x)
        (Run P ⟨c.fn, some l⟩ (RoundX FsD blD slD FsE blE slE FsS (FsD x ++ FsS) (I (i + 1)) IE l (loopObj .ready c.fn tmps ps as body D) (fun y => doneObj c.fn tmps ps as body D (J y)) w1 S1) [.code as, .beginRound, .code body]))
    (after : ∀ x, I N x → (∀ G ∈ FsD x, Bd w0 S0 FsS G) → Cov nt w0 S0 df ρ (FsD x ++ FsS) (blD x ++ bls) (slD x ++ sls) (Run P c R0 k))
    (exit : ∀ y, IE y → (∀ G ∈ FsE y, Bd w0 S0 FsS G) → Cov nt w0 S0 df ρ (FsE y ++ FsS) (blE y ++ bls) (slE y ++ sls) (Run P c R0 (.code (J y) :: k))) :
    Cov nt w0 S0 df ρ Fs bl sl (Run P c R0 (.code (.rangeFunc g ps as body) :: k)) := fun a w hf hi => by
  subst hF hb hs
  have hl0 := hi.mem.own _ (List.mem_of_getElem? hlo)
  have he := run_enterLoop_inner (P := P) (w := w) hl0 c.fn a.tmps ps as body
  rw [← hro] at he
  have hi2 := hi.alloc (loopObj .ready c.fn a.tmps ps as body r₀.defers)
  have hperm : ((w.heap.size, loopObj .ready c.fn a.tmps ps as body r₀.defers) :: (blD x0 ++ bls)).Perm ((blD x0 ++ [(w.heap.size, loopObj .ready c.fn a.tmps ps as body r₀.defers)]) ++ bls) := by
    rw [List.append_assoc]
    exact List.perm_middle.symm
  have hi3 := hi2.perm hperm (List.Perm.refl _)
  exact rangeCore (FsD := FsD) (blD := blD) (slD := slD) (FsE := FsE) (blE := blE) (slE := slE) (J := J) (I := I) (IE := IE) (x0 := x0) (mark := []) hf he hi3 hi.keep.size hg hcall hF0 hit hps hpt hI (fun i x v => round _ _ _ i x v) (fun x h1 h2 => after x h1 h2) (fun y h1 h2 => exit y h1 h2)

/-- The end, where results lie in blocks that are given up. -/
theorem Cov.outSD (n : Nat) {fn : Func} (rs : List ResultVar) (vs : List Value) {Q : Value → Blks → List OwnS → Prop} (hf : P.funcs[c.fn]? = some fn) (hrs : fn.results = rs.toArray)
    (hres : RVs P ρ Fs bl sl rs vs) (hsub : ∀ F ∈ Fin, F ∈ Fs) (hpost : Q (retVal vs) (bl.drop n) sl) : Cov nt w0 S0 [] ρ Fs bl sl (Out P c (RP w0 S0 Fin (fun v _ bl sl => Q v bl sl))) := by
  intro a w hfi hinv items cs
  have hsb : (blks (bl.drop n) sl).Sublist (blks bl sl) := ((List.drop_sublist n bl).map _).append (List.Sublist.refl _)
  refine ⟨retVal vs, w, ⟨empHp, bl.drop n, sl, fresh_emp _, ?_, hpost⟩, { c.fr a items with mode := .returning }, Steps.refl _ _, rfl, rfl, hfi.1, rfl, fn, hf, run_results hfi hinv.mem hrs hres⟩
  refine hinv.change [] (by simp) (Keep.refl w []) (fun G hG => ?_) (fun p hp => hinv.mem.own p (List.mem_of_mem_drop hp)) hinv.mem.slh (hinv.nodup.sublist hsb) (fun b hb => .inl (hsb.subset hb))
  rcases List.mem_cons.1 hG with rfl | hG
  · exact .inr ⟨fun b o hb => by simp [empHp] at hb, fun _ _ => rfl⟩
  · exact .inl (hsub G hG)
theorem Cov.outWD (n : Nat) {G : Hp} {fn : Func} (rs : List ResultVar) (vs : List Value) {Q : Value → Blks → List OwnS → Hp → Prop} (hf : P.funcs[c.fn]? = some fn) (hrs : fn.results = rs.toArray)
    (hres : RVs P ρ Fs bl sl rs vs) (hsub : ∀ F ∈ Fin, F ∈ Fs) (hG : G ∈ Fs) (hbd : Bd w0 S0 Fin G) (hS : ∀ b ∈ S0, b ∈ blks bl sl) (hpost : ∀ G', HpLe G G' → Q (retVal vs) (bl.drop n) sl G') :
    Cov nt w0 S0 [] ρ Fs bl sl (Out P c (RP w0 S0 Fin (fun v Fr bl sl => ∀ G', Ext (Fr :: Fin) G' → Q v bl sl G'))) := by
  refine Cov.part hG ?_
  intro a w hfi hinv items cs
  have hsb : (blks (bl.drop n) sl).Sublist (blks bl sl) := ((List.drop_sublist n bl).map _).append (List.Sublist.refl _)
  refine ⟨retVal vs, w, ⟨Proofs.Ytbhmhindommaeaa.part w0 G, bl.drop n, sl, part_fresh w0 G, ?_, fun G' he => hpost G' (part_ext hbd (fun b hb => hinv.apart b (hS b hb) G (List.mem_cons_of_mem _ hG)) he)⟩, { c.fr a items with mode := .returning }, Steps.refl _ _, rfl, rfl, hfi.1, rfl, fn, hf, run_results hfi hinv.mem hrs (RVs_fs (fun F hF => List.mem_cons_of_mem _ hF) rs vs hres)⟩
  refine hinv.change [] (by simp) (Keep.refl w []) (fun F hF => .inl ?_) (fun p hp => hinv.mem.own p (List.mem_of_mem_drop hp)) hinv.mem.slh (hinv.nodup.sublist hsb) (fun b hb => .inl (hsb.subset hb))
  rcases List.mem_cons.1 hF with rfl | hF
  · exact List.mem_cons_self
  · exact List.mem_cons_of_mem _ (hsub F hF)
end
end Go.Proofs.Ytbhmhindommaeaa
