/-
  Drawn regions under growing heaps; joined tests.
-/
import Derived.Test.YtbhmhindommaeaaL3
namespace Go.Proofs.Ytbhmhindommaeaa
open Go.RowKit
set_option linter.unusedSimpArgs false

theorem dor_t {p q : Prop} [Decidable p] [Decidable q] (h : p) : (some (Value.bool true)) = some (.bool (decide (p ∨ q))) := by simp [h]
theorem dor_f {p q : Prop} [Decidable p] [Decidable q] (h : ¬ p) : (some (Value.bool (decide q))) = some (.bool (decide (p ∨ q))) := by simp [h]
theorem dor_fb {p : Prop} [Decidable p] {b : Bool} (h : ¬ p) : (some (Value.bool b)) = some (.bool (decide (p ∨ b = true))) := by simp [h]
theorem dand_t {p q : Prop} [Decidable p] [Decidable q] (h : p) : (some (Value.bool (decide q))) = some (.bool (decide (p ∧ q))) := by simp [h]
theorem dand_tb {p : Prop} [Decidable p] {b : Bool} (h : p) : (some (Value.bool b)) = some (.bool (decide (p ∧ b = true))) := by simp [h]
theorem dand_f {p q : Prop} [Decidable p] [Decidable q] (h : ¬ p) : (some (Value.bool false)) = some (.bool (decide (p ∧ q))) := by simp [h]
theorem bne_of {b : Bool} (h : b = false) : ¬ (b = true) := by simp [h]
theorem sval {α : Type} {f : α → Value} {x y : α} (h : some x = some y) : some (f x) = some (f y) := by cases h; rfl

section
variable {α β : Type} {A : Rep α} {S : Rep β} {G : Hp}
theorem Rep.intI (k : IntKind) (x : Int) : (Rep.int k).r G [.int k x] x := rfl
theorem Rep.boolI (x : Bool) : Rep.bool.r G [.bool x] x := rfl
theorem Rep.strI (x : ByteArray) : Rep.str.r G [.string x] x := rfl
theorem Rep.slI {a : Option Addr} {k : Nat} {l : List α} (h : SlR A G a k l) : (Rep.sl A).r G [.slice a l.length k] l := ⟨a, k, rfl, h⟩
theorem Rep.pairI {c d : List Value} {x : α} {y : β} (h : A.r G c x) (h2 : S.r G d y) : (Rep.pair A S).r G (c ++ d) (x, y) := ⟨c, d, rfl, h, h2⟩
end

section
variable {P : Program} {c : Cx} {R : Value → World → Prop} {nt : Nat} {w0 : World} {S0 : List Nat} {df : List Deferred} {ρ ρ' : Env} {Fs Fs' Fin B : List Hp} {bl bl' : Blks} {sl sl' : List OwnS}
  {K K' : Act → World → Prop} {k : List Item} {ty : TypeId} {G : Hp}

theorem Cls.of_le {w : World} {G0 : Hp} {bl0 : Blks} (h : Inv w0 S0 Fs bl sl w) (h1 : ∃ G ∈ Fs, HpLe G0 G) (h2 : ∀ p ∈ bl0, p ∈ bl) : Cls [G0] bl0 w :=
  ⟨fun F hF => by
    obtain ⟨G, hG, hle⟩ := h1
    rcases List.mem_cons.1 hF with rfl | hF
    · exact fun b o hb => h.mem.fs G hG b o (hle b o hb)
    · exact absurd hF (List.not_mem_nil), fun p hp => h.mem.own p (h2 p hp)⟩

theorem Cov.drawL {id : Nat} {ops : Array Oper} (l : OT) (bl0 : Blks) (hm : P.follows .mixedOrders = true) (hok : drawOk ops l = true) (h2 : ∀ p ∈ bl0, p ∈ bl)
    (h : Cov nt w0 S0 df ρ (G :: Fs) bl sl (DO P c R (Cls [G] bl0) (flatD ops l) k)) :
    Cov nt w0 S0 df ρ (G :: Fs) bl sl (Run P c R (.code (.region id ops true) :: k)) := Cov.draw l [G] bl0 hm hok (fun F hF => by simp at hF; subst hF; exact List.mem_cons_self) h2 h
theorem Cov.clsL {G0 : Hp} {bl0 : Blks} (h1 : HpLe G0 G) (h2 : ∀ p ∈ bl0, p ∈ bl) {K : Act → World → Prop} (h : Cov nt w0 S0 df ρ (G :: Fs) bl sl K) : Cov nt w0 S0 df ρ (G :: Fs) bl sl (fun a w => Cls [G0] bl0 w ∧ K a w) :=
  fun a w hf hi => ⟨Cls.of_le hi ⟨G, List.mem_cons_self, h1⟩ h2, h a w hf hi⟩
theorem Cov.dge_offL {G0 : Hp} {bl0 : Blks} {m : Nat} {t : Nat} {b b' : Bool} {d : Nat} {op : Op} {ty : TypeId} {os : OX} (hg : ρ.lookup t = some (.bool b')) (hb : (b' == b) = false) (hd : Nat.blt d nt = true)
    (h1 : HpLe G0 G) (h2 : ∀ p ∈ bl0, p ∈ bl) (h : Cov nt w0 S0 df ((d, undef) :: ρ) (G :: Fs) bl sl (DO P c R (Cls [G0] bl0) os k)) :
    Cov nt w0 S0 df ρ (G :: Fs) bl sl (DO P c R (Cls [G0] bl0) (.e ⟨some d, op, ty, some (t, b)⟩ m os) k) := fun a w hf hi => by
  have h3 := hf.2.2 _ _ hg
  have h4 := h _ w (hf.put hd _) hi
  match m with
  | 0 => simp only [DO, wantedT, h3, hb, Bool.false_eq_true, if_false]; exact h4
  | 1 => simp only [DO, wantedT, h3, hb, Bool.false_eq_true, if_false]; exact ⟨Cls.of_le hi ⟨G, List.mem_cons_self, h1⟩ h2, h4⟩
  | m + 2 => simp only [DO, wantedT, h3, hb, Bool.false_eq_true, if_false]; exact h4
theorem Cov.dgeu_offL {G0 : Hp} {bl0 : Blks} {m : Nat} {t : Nat} {b : Bool} {d : Nat} {op : Op} {ty : TypeId} {os : OX} (hg : ρ.lookup t = some undef) (hd : Nat.blt d nt = true)
    (h1 : HpLe G0 G) (h2 : ∀ p ∈ bl0, p ∈ bl) (h : Cov nt w0 S0 df ((d, undef) :: ρ) (G :: Fs) bl sl (DO P c R (Cls [G0] bl0) os k)) :
    Cov nt w0 S0 df ρ (G :: Fs) bl sl (DO P c R (Cls [G0] bl0) (.e ⟨some d, op, ty, some (t, b)⟩ m os) k) := fun a w hf hi => by
  have h3 := hf.2.2 _ _ hg
  have h4 := h _ w (hf.put hd _) hi
  match m with
  | 0 => simp only [DO, wantedT, h3, undef, Bool.false_eq_true, if_false]; exact h4
  | 1 => simp only [DO, wantedT, h3, undef, Bool.false_eq_true, if_false]; exact ⟨Cls.of_le hi ⟨G, List.mem_cons_self, h1⟩ h2, h4⟩
  | m + 2 => simp only [DO, wantedT, h3, undef, Bool.false_eq_true, if_false]; exact h4

section
variable {β : Type} (dyn : β → Env) (ρs : Env) (FsD : β → List Hp) (blD : β → Blks) (bls : Blks) (slD : β → List OwnS) (sls : List OwnS) (I : β → Prop) (hρ : Sub ρ ρs) (ib : List Nat) (hb : ib.map (bl[·]?) = bls.map some) (is : List Nat) (hs : is.map (sl[·]?) = sls.map some)
set_option linter.unusedVariables false
set_option linter.unusedSectionVars false
include hρ hb hs
/-- Cuts: what follows is walked once, for every state of a kind. -/
theorem Cov.cutB {id : Nat} {x : Code} (hk : ∀ y, I y → Cov nt w0 S0 df (dyn y ++ ρs) (FsD y) (blD y ++ bls) (slD y ++ sls) (Run P c R k))
    (h : (∀ y, I y → Cov nt w0 S0 df (dyn y ++ ρs) (FsD y) (blD y ++ bls) (slD y ++ sls) (Run P c R k)) → Cov nt w0 S0 df ρ Fs bl sl (Run P c R (.code (.block id x) :: k))) : Cov nt w0 S0 df ρ Fs bl sl (Run P c R (.code (.block id x) :: k)) := h hk
theorem Cov.cutI {o : Operand} {x y : Code} (hk : ∀ y, I y → Cov nt w0 S0 df (dyn y ++ ρs) (FsD y) (blD y ++ bls) (slD y ++ sls) (Run P c R k))
    (h : (∀ y, I y → Cov nt w0 S0 df (dyn y ++ ρs) (FsD y) (blD y ++ bls) (slD y ++ sls) (Run P c R k)) → Cov nt w0 S0 df ρ Fs bl sl (Run P c R (.code (.cond o x y) :: k))) : Cov nt w0 S0 df ρ Fs bl sl (Run P c R (.code (.cond o x y) :: k)) := h hk
theorem Cov.cutG {id : Nat} {ops : Array Oper} {dr : Bool} (hk : ∀ y, I y → Cov nt w0 S0 df (dyn y ++ ρs) (FsD y) (blD y ++ bls) (slD y ++ sls) (Run P c R k))
    (h : (∀ y, I y → Cov nt w0 S0 df (dyn y ++ ρs) (FsD y) (blD y ++ bls) (slD y ++ sls) (Run P c R k)) → Cov nt w0 S0 df ρ Fs bl sl (Run P c R (.code (.region id ops dr) :: k))) : Cov nt w0 S0 df ρ Fs bl sl (Run P c R (.code (.region id ops dr) :: k)) := h hk
end
def OX.after : Nat → OX → OX
  | 0, t => t
  | n + 1, .q _ t => OX.after n t
  | n + 1, .e _ _ t => OX.after n t
  | n + 1, .alt t _ => OX.after (n + 1) t
  | _ + 1, t => t
section
variable (n : Nat) {β : Type} (dyn : β → Env) (ρs : Env) (FsD : β → List Hp) (blD : β → Blks) (bls : Blks) (slD : β → List OwnS) (sls : List OwnS) (I : β → Prop) (hρ : Sub ρ ρs) (ib : List Nat) (hb : ib.map (bl[·]?) = bls.map some) (is : List Nat) (hs : is.map (sl[·]?) = sls.map some)
set_option linter.unusedVariables false
set_option linter.unusedSectionVars false
include hρ hb hs
theorem Cov.cutR {os : List OpX} (hk : ∀ y, I y → Cov nt w0 S0 df (dyn y ++ ρs) (FsD y) (blD y ++ bls) (slD y ++ sls) (RO P c R (os.drop n) k))
    (h : (∀ y, I y → Cov nt w0 S0 df (dyn y ++ ρs) (FsD y) (blD y ++ bls) (slD y ++ sls) (RO P c R (os.drop n) k)) → Cov nt w0 S0 df ρ Fs bl sl (RO P c R os k)) : Cov nt w0 S0 df ρ Fs bl sl (RO P c R os k) := h hk
theorem Cov.cutD {C : World → Prop} {t : OX} (hk : ∀ y, I y → Cov nt w0 S0 df (dyn y ++ ρs) (FsD y) (blD y ++ bls) (slD y ++ sls) (DO P c R C (t.after n) k))
    (h : (∀ y, I y → Cov nt w0 S0 df (dyn y ++ ρs) (FsD y) (blD y ++ bls) (slD y ++ sls) (DO P c R C (t.after n) k)) → Cov nt w0 S0 df ρ Fs bl sl (DO P c R C t k)) : Cov nt w0 S0 df ρ Fs bl sl (DO P c R C t k) := h hk
end

/-- The end of a function whose results lie in blocks of its own, of which the first n are given up. -/
theorem Cov.retSD (n : Nat) {fn : Func} {items : List Item} (hit : items = [] ∨ ∃ k, items = .code .ret :: k) (rs : List ResultVar) (vs : List Value) {Q : Value → Blks → List OwnS → Prop} (hro : c.ro = none) (hf : P.funcs[c.fn]? = some fn) (hrs : fn.results = rs.toArray)
    (hres : RVs P ρ Fs bl sl rs vs) (hsub : ∀ F ∈ Fin, F ∈ Fs) (hpost : Q (retVal vs) (bl.drop n) sl) : Cov nt w0 S0 [] ρ Fs bl sl (Run P c (RP w0 S0 Fin (fun v _ bl sl => Q v bl sl)) items) := fun a w hfi hinv => by
  have hsb : (blks (bl.drop n) sl).Sublist (blks bl sl) := ((List.drop_sublist n bl).map _).append (List.Sublist.refl _)
  refine Run.leave hit hro hf hfi.1 (run_results hfi hinv.mem hrs hres) ⟨empHp, bl.drop n, sl, fresh_emp _, ?_, hpost⟩
  refine hinv.change [] (by simp) (Keep.refl w []) (fun G hG => ?_) (fun p hp => hinv.mem.own p (List.mem_of_mem_drop hp)) hinv.mem.slh (hinv.nodup.sublist hsb) (fun b hb => .inl (hsb.subset hb))
  rcases List.mem_cons.1 hG with rfl | hG
  · exact .inr ⟨fun b o hb => by simp [empHp] at hb, fun _ _ => rfl⟩
  · exact .inl (hsub G hG)
theorem Cov.retWD (n : Nat) {fn : Func} {items : List Item} (hit : items = [] ∨ ∃ k, items = .code .ret :: k) (rs : List ResultVar) (vs : List Value) {Q : Value → Blks → List OwnS → Hp → Prop} (hro : c.ro = none) (hf : P.funcs[c.fn]? = some fn) (hrs : fn.results = rs.toArray)
    (hres : RVs P ρ Fs bl sl rs vs) (hsub : ∀ F ∈ Fin, F ∈ Fs) (hG : G ∈ Fs) (hbd : Bd w0 S0 Fin G) (hS : ∀ b ∈ S0, b ∈ blks bl sl) (hpost : ∀ G', HpLe G G' → Q (retVal vs) (bl.drop n) sl G') :
    Cov nt w0 S0 [] ρ Fs bl sl (Run P c (RP w0 S0 Fin (fun v Fr bl sl => ∀ G', Ext (Fr :: Fin) G' → Q v bl sl G')) items) := by
  intro a w hfi hi
  have hsb : (blks (bl.drop n) sl).Sublist (blks bl sl) := ((List.drop_sublist n bl).map _).append (List.Sublist.refl _)
  exact (Cov.part hG (fun a w hfi hinv => by
    refine Run.leave hit hro hf hfi.1 (run_results hfi hinv.mem hrs (RVs_fs (fun F hF => List.mem_cons_of_mem _ hF) rs vs hres)) ⟨Proofs.Ytbhmhindommaeaa.part w0 G, bl.drop n, sl, part_fresh w0 G, ?_, fun G' he => hpost G' (part_ext hbd (fun b hb => hi.apart b (hS b hb) G hG) he)⟩
    refine hinv.change [] (by simp) (Keep.refl w []) (fun F hF => .inl ?_) (fun p hp => hinv.mem.own p (List.mem_of_mem_drop hp)) hinv.mem.slh (hinv.nodup.sublist hsb) (fun b hb => .inl (hsb.subset hb))
    rcases List.mem_cons.1 hF with rfl | hF
    · exact List.mem_cons_self
    · exact List.mem_cons_of_mem _ (hsub F hF))) a w hfi hi
end
end Go.Proofs.Ytbhmhindommaeaa
