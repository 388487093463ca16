/- What the proof needs, gathered by wip/gen/shake.py. -/
import Derived.Calls
import Derived.Deep.Quiet
import Derived.Below
import Derived.Laws.AppendOwn
import Derived.WalkKit
import Derived.Laws.OwnMore
import Derived.Deep.Slices
import Derived.ChangeOld
import Derived.ArgAppend
import Derived.RangeFuncIn
import Derived.RangeFuncRecord
import Derived.RangeFuncLeaves
import Derived.Laws.MakeOwn
import Derived.IntWalk
import Derived.Laws.IdiomStrings
import Derived.Laws.Cover3
import Derived.Laws.CopyOwn
import Derived.Test.YtmfppphlhgneeaaGreatRows
import Derived.MapKept
import Derived.RangeFuncNested
import Derived.ProofKit
import Derived.OpenShut
import Derived.ShutString
import Derived.JoinedCond
import Derived.Test.YtmfppphlhgneeaaGreatLookupStepsQ1
set_option linter.unusedVariables false
set_option linter.unusedSimpArgs false
section
namespace Go.Proofs.YtmfppphlhgneeaaGreat
open Go.RowKit
set_option linter.unusedSimpArgs false
theorem X3s {p q : Prop} [Decidable p] [Decidable q] (h : p) : (some (Value.bool true)) = some (.bool (decide (p ∨ q))) := by simp [h]
theorem X44 {p q : Prop} [Decidable p] [Decidable q] (h : ¬ p) : (some (Value.bool (decide q))) = some (.bool (decide (p ∨ q))) := by simp [h]
theorem Xni {p : Prop} [Decidable p] {b : Bool} (h : ¬ p) : (some (Value.bool b)) = some (.bool (decide (p ∨ b = true))) := by simp [h]
theorem X6w {p q : Prop} [Decidable p] [Decidable q] (h : p) : (some (Value.bool (decide q))) = some (.bool (decide (p ∧ q))) := by simp [h]
theorem X6x {p q : Prop} [Decidable p] [Decidable q] (h : ¬ p) : (some (Value.bool false)) = some (.bool (decide (p ∧ q))) := by simp [h]
theorem Xga {b : Bool} (h : b = false) : ¬ (b = true) := by simp [h]
theorem sval {α : Type} {f : α → Value} {x y : α} (h : some x = some y) : some (f x) = some (f y) := by cases h; rfl
section
variable {α β : Type} {A : Rep α} {S : Rep β} {G : Hp}
theorem Rep.intI (k : IntKind) (x : Int) : (Rep.int k).r G [.int k x] x := rfl
theorem Rep.boolI (x : Bool) : Rep.bool.r G [.bool x] x := rfl
theorem Rep.strI (x : ByteArray) : Rep.str.r G [.string x] x := rfl
theorem Rep.slI {a : Option Addr} {k : Nat} {l : List α} (h : SlR A G a k l) : (Rep.sl A).r G [.slice a l.length k] l := ⟨a, k, rfl, h⟩
theorem Rep.pairI {c d : List Value} {x : α} {y : β} (h : A.r G c x) (h2 : S.r G d y) : (Rep.pair A S).r G (c ++ d) (x, y) := ⟨c, d, rfl, h, h2⟩
end
section
variable {P : Program} {c : Cx} {R : Value → World → Prop} {nt : Nat} {w0 : World} {S0 : List Nat} {df : List Deferred} {ρ ρ' : Env} {Fs Fs' Fin B : List Hp} {bl bl' : Blks} {sl sl' : List OwnS}
  {K K' : Act → World → Prop} {k : List Item} {ty : TypeId} {G : Hp}
theorem Cls.of_le {w : World} {G0 : Hp} {bl0 : Blks} (h : Inv w0 S0 Fs bl sl w) (h1 : ∃ G ∈ Fs, HpLe G0 G) (h2 : ∀ p ∈ bl0, p ∈ bl) : Cls [G0] bl0 w :=
  ⟨fun F hF => by
    obtain ⟨G, hG, hle⟩ := h1
    rcases List.mem_cons.1 hF with rfl | hF
    · exact fun b o hb => h.mem.fs G hG b o (hle b o hb)
    · exact absurd hF (List.not_mem_nil), fun p hp => h.mem.own p (h2 p hp)⟩
theorem Cov.drawL {id : Nat} {ops : Array Oper} (l : OT) (bl0 : Blks) (hm : P.follows .mixedOrders = true) (hok : drawOk ops l = true) (h2 : ∀ p ∈ bl0, p ∈ bl)
    (h : Cov nt w0 S0 df ρ (G :: Fs) bl sl (DO P c R (Cls [G] bl0) (flatD ops l) k)) :
    Cov nt w0 S0 df ρ (G :: Fs) bl sl (Run P c R (.code (.region id ops true) :: k)) := Cov.draw l [G] bl0 hm hok (fun F hF => by simp at hF; subst hF; exact List.mem_cons_self) h2 h
theorem Cov.clsL {G0 : Hp} {bl0 : Blks} (h1 : HpLe G0 G) (h2 : ∀ p ∈ bl0, p ∈ bl) {K : Act → World → Prop} (h : Cov nt w0 S0 df ρ (G :: Fs) bl sl K) : Cov nt w0 S0 df ρ (G :: Fs) bl sl (fun a w => Cls [G0] bl0 w ∧ K a w) :=
  fun a w hf hi => ⟨Cls.of_le hi ⟨G, List.mem_cons_self, h1⟩ h2, h a w hf hi⟩
theorem Cov.dge_offL {G0 : Hp} {bl0 : Blks} {m : Nat} {t : Nat} {b b' : Bool} {d : Nat} {op : Op} {ty : TypeId} {os : OX} (hg : ρ.lookup t = some (.bool b')) (hb : (b' == b) = false) (hd : Nat.blt d nt = true)
    (h1 : HpLe G0 G) (h2 : ∀ p ∈ bl0, p ∈ bl) (h : Cov nt w0 S0 df ((d, undef) :: ρ) (G :: Fs) bl sl (DO P c R (Cls [G0] bl0) os k)) :
    Cov nt w0 S0 df ρ (G :: Fs) bl sl (DO P c R (Cls [G0] bl0) (.e ⟨some d, op, ty, some (t, b)⟩ m os) k) := fun a w hf hi => by
  have h3 := hf.2.2 _ _ hg
  have h4 := h _ w (hf.put hd _) hi
  match m with
  | 0 => simp only [DO, wantedT, h3, hb, Bool.false_eq_true, if_false]; exact h4
  | 1 => simp only [DO, wantedT, h3, hb, Bool.false_eq_true, if_false]; exact ⟨Cls.of_le hi ⟨G, List.mem_cons_self, h1⟩ h2, h4⟩
  | m + 2 => simp only [DO, wantedT, h3, hb, Bool.false_eq_true, if_false]; exact h4
theorem Cov.dgeu_offL {G0 : Hp} {bl0 : Blks} {m : Nat} {t : Nat} {b : Bool} {d : Nat} {op : Op} {ty : TypeId} {os : OX} (hg : ρ.lookup t = some undef) (hd : Nat.blt d nt = true)
    (h1 : HpLe G0 G) (h2 : ∀ p ∈ bl0, p ∈ bl) (h : Cov nt w0 S0 df ((d, undef) :: ρ) (G :: Fs) bl sl (DO P c R (Cls [G0] bl0) os k)) :
    Cov nt w0 S0 df ρ (G :: Fs) bl sl (DO P c R (Cls [G0] bl0) (.e ⟨some d, op, ty, some (t, b)⟩ m os) k) := fun a w hf hi => by
  have h3 := hf.2.2 _ _ hg
  have h4 := h _ w (hf.put hd _) hi
  match m with
  | 0 => simp only [DO, wantedT, h3, undef, Bool.false_eq_true, if_false]; exact h4
  | 1 => simp only [DO, wantedT, h3, undef, Bool.false_eq_true, if_false]; exact ⟨Cls.of_le hi ⟨G, List.mem_cons_self, h1⟩ h2, h4⟩
  | m + 2 => simp only [DO, wantedT, h3, undef, Bool.false_eq_true, if_false]; exact h4
section
variable {β : Type} (dyn : β → Env) (ρs : Env) (FsD : β → List Hp) (blD : β → Blks) (bls : Blks) (slD : β → List OwnS) (sls : List OwnS) (I : β → Prop) (hρ : Sub ρ ρs) (ib : List Nat) (hb : ib.map (bl[·]?) = bls.map some) (is : List Nat) (hs : is.map (sl[·]?) = sls.map some)
set_option linter.unusedVariables false
set_option linter.unusedSectionVars false
include hρ hb hs
theorem Cov.cutB {id : Nat} {x : Code} (hk : ∀ y, I y → Cov nt w0 S0 df (dyn y ++ ρs) (FsD y) (blD y ++ bls) (slD y ++ sls) (Run P c R k))
    (h : (∀ y, I y → Cov nt w0 S0 df (dyn y ++ ρs) (FsD y) (blD y ++ bls) (slD y ++ sls) (Run P c R k)) → Cov nt w0 S0 df ρ Fs bl sl (Run P c R (.code (.block id x) :: k))) : Cov nt w0 S0 df ρ Fs bl sl (Run P c R (.code (.block id x) :: k)) := h hk
theorem Cov.cutI {o : Operand} {x y : Code} (hk : ∀ y, I y → Cov nt w0 S0 df (dyn y ++ ρs) (FsD y) (blD y ++ bls) (slD y ++ sls) (Run P c R k))
    (h : (∀ y, I y → Cov nt w0 S0 df (dyn y ++ ρs) (FsD y) (blD y ++ bls) (slD y ++ sls) (Run P c R k)) → Cov nt w0 S0 df ρ Fs bl sl (Run P c R (.code (.cond o x y) :: k))) : Cov nt w0 S0 df ρ Fs bl sl (Run P c R (.code (.cond o x y) :: k)) := h hk
end
def OX.after : Nat → OX → OX
  | 0, t => t
  | n + 1, .q _ t => OX.after n t
  | n + 1, .e _ _ t => OX.after n t
  | n + 1, .alt t _ => OX.after (n + 1) t
  | _ + 1, t => t
section
variable (n : Nat) {β : Type} (dyn : β → Env) (ρs : Env) (FsD : β → List Hp) (blD : β → Blks) (bls : Blks) (slD : β → List OwnS) (sls : List OwnS) (I : β → Prop) (hρ : Sub ρ ρs) (ib : List Nat) (hb : ib.map (bl[·]?) = bls.map some) (is : List Nat) (hs : is.map (sl[·]?) = sls.map some)
set_option linter.unusedVariables false
set_option linter.unusedSectionVars false
include hρ hb hs
theorem Cov.cutR {os : List OpX} (hk : ∀ y, I y → Cov nt w0 S0 df (dyn y ++ ρs) (FsD y) (blD y ++ bls) (slD y ++ sls) (RO P c R (os.drop n) k))
    (h : (∀ y, I y → Cov nt w0 S0 df (dyn y ++ ρs) (FsD y) (blD y ++ bls) (slD y ++ sls) (RO P c R (os.drop n) k)) → Cov nt w0 S0 df ρ Fs bl sl (RO P c R os k)) : Cov nt w0 S0 df ρ Fs bl sl (RO P c R os k) := h hk
end
theorem Cov.retWD (n : Nat) {fn : Func} {items : List Item} (hit : items = [] ∨ ∃ k, items = .code .ret :: k) (rs : List ResultVar) (vs : List Value) {Q : Value → Blks → List OwnS → Hp → Prop} (hro : c.ro = none) (hf : P.funcs[c.fn]? = some fn) (hrs : fn.results = rs.toArray)
    (hres : RVs P ρ Fs bl sl rs vs) (hsub : ∀ F ∈ Fin, F ∈ Fs) (hG : G ∈ Fs) (hbd : Bd w0 S0 Fin G) (hS : ∀ b ∈ S0, b ∈ blks bl sl) (hpost : ∀ G', HpLe G G' → Q (retVal vs) (bl.drop n) sl G') :
    Cov nt w0 S0 [] ρ Fs bl sl (Run P c (RP w0 S0 Fin (fun v Fr bl sl => ∀ G', Ext (Fr :: Fin) G' → Q v bl sl G')) items) := by
  intro a w hfi hi
  have hsb : (blks (bl.drop n) sl).Sublist (blks bl sl) := ((List.drop_sublist n bl).map _).append (List.Sublist.refl _)
  exact (Cov.part hG (fun a w hfi hinv => by
    refine Run.leave hit hro hf hfi.1 (X9f hfi hinv.mem hrs (Xj1 (fun F hF => List.mem_cons_of_mem _ hF) rs vs hres)) ⟨Proofs.YtmfppphlhgneeaaGreat.part w0 G, bl.drop n, sl, Xei w0 G, ?_, fun G' he => hpost G' (Xhk hbd (fun b hb => hi.apart b (hS b hb) G hG) he)⟩
    refine hinv.change [] (by simp) (Keep.refl w []) (fun F hF => .inl ?_) (fun p hp => hinv.mem.own p (List.mem_of_mem_drop hp)) hinv.mem.slh (hinv.nodup.sublist hsb) (fun b hb => .inl (hsb.subset hb))
    rcases List.mem_cons.1 hF with rfl | hF
    · exact List.mem_cons_self
    · exact List.mem_cons_of_mem _ (hsub F hF))) a w hfi hi
end
end Go.Proofs.YtmfppphlhgneeaaGreat
end

section
namespace Go.Proofs.YtmfppphlhgneeaaGreat
open Go.RowKit
theorem Cov.drew {nt : Nat} {w0 : World} {S0 : List Nat} {df : List Deferred} {ρ : Env} {Fs : List Hp} {bl : Blks} {sl : List OwnS} {w : World} (h : Inv w0 S0 Fs bl sl w) : Inv w0 S0 Fs bl sl w.drew := h.drawn
theorem Xgb : ∀ (l : List Int) (r : ByteArray), l.foldl (fun r n => r.push (UInt8.ofNat n.toNat)) r = ⟨r.data ++ (l.map fun n => UInt8.ofNat n.toNat).toArray⟩
  | [], r => by simp
  | b :: l, r => by
    simp only [List.foldl_cons]
    rw [Xgb l]
    simp [ByteArray.push]
section
variable {P : Program} {c : Cx} {R : Value → World → Prop} {nt : Nat} {w0 : World} {S0 : List Nat} {df : List Deferred} {ρ ρ' : Env} {Fs Fs' Fin B : List Hp} {bl bl' : Blks} {sl sl' : List OwnS}
  {K K' : Act → World → Prop} {k : List Item} {ty : TypeId} {G : Hp} {α : Type}
theorem QOp.b2s {a : Option Addr} {m : Nat} {l : List Int} {s t e : TypeId} {x : Operand} (hs : SlR (Rep.int .u8) G a m l) (hG : G ∈ Fs) (hx : ev ρ x = some (.slice a l.length m)) (h1 : P.underlying s = some (.slice e)) (h2 : P.underlying e = some (.int .u8)) (h3 : P.underlying t = some .string) :
    QOp P ρ Fs bl sl (.convert s t x) ty (.string (ofB l)) := .of fun ev' he w hm => by
  refine X63 (s := convert s t (ev' x)) ?_
  rw [he x _ hx, run_convert_bytes_string w s t e _ _ _ h1 h2 h3]
  obtain ⟨_, xs, ⟨a', cap, hv, hle, hsz, hc⟩, hl, hr⟩ := hs
  simp only [Value.slice.injEq] at hv
  obtain ⟨rfl, hlen, rfl⟩ := hv
  cases l with
  | nil =>
    have hx0 : xs = [] := List.eq_nil_of_length_eq_zero (by simpa using hl)
    subst hx0
    cases a with
    | none => simp [Conv.bytesToString, ofB]; rfl
    | some ad =>
      rw [run_bytesToString w ad _ m [] (by simp [loadCells, loadCellsFrom])]
      rfl
  | cons y l =>
    have hne : xs ≠ [] := by intro h; rw [h] at hl; simp at hl
    obtain ⟨b, o, rfl, hcell⟩ := hc hne
    have hload : (loadCells ⟨b, o, none⟩ (y :: l).length).run P w = .ok ((y :: l).map (Value.int .u8)).toArray w := by
      have := Xal (P := P) (w := w) (b := b) (o := o) ((y :: l).map (Value.int .u8)) 0 #[] (fun j v hj => ?_)
      · simpa [loadCells] using this
      · rw [List.getElem?_map] at hj
        cases hy : (y :: l)[j]? with
        | none => rw [hy] at hj; cases hj
        | some u =>
          rw [hy] at hj
          simp only [Option.map_some, Option.some.injEq] at hj
          subst hj
          have hjl : j < xs.length := by rw [hl]; exact (List.getElem?_eq_some_iff.1 hy).1
          have hrr := hr j _ u (List.getElem?_eq_getElem hjl) hy
          have hrr' : xs[j] = [Value.int .u8 u] := hrr
          have := hcell j _ (List.getElem?_eq_getElem hjl) 0 (.int .u8 u) (by rw [hrr']; rfl)
          have h5 := (hm.fs G hG).cell this
          simpa [Rep.int] using h5
    rw [run_bytesToString w _ _ m (y :: l) hload, Xgb]
    simp [ofB, ByteArray.empty, ByteArray.emptyWithCapacity]
    rfl
theorem Cov.s2b {d : Nat} {s t e : TypeId} {x : Operand} {u : ByteArray} (hs : Stp P K' ⟨some d, .convert s t x, ty, none⟩ K) (hx : ev ρ x = some (.string u)) (h1 : P.underlying s = some .string) (h2 : P.underlying t = some (.slice e)) (h3 : P.underlying e = some (.int .u8)) (hlen : u.size ≤ 9223372036854775807) (hd : Nat.blt d nt = true) (hB : Bd w0 S0 B G)
    (hk : ∀ a m G', HpLe G G' → Bd w0 S0 B G' → SlR (Rep.int .u8) G' a m (toB u) → Cov nt w0 S0 df ((d, .slice a (toB u).length m) :: ρ) (G' :: B) bl sl K) : Cov nt w0 S0 df ρ (G :: B) bl sl K' := fun a w hf hi => by
  refine hs a w ?_
  unfold Oper.wp
  have hrun : (execOp a.eval (⟨some d, .convert s t x, ty, none⟩ : OpX).oper).run P w = .ok (.value _) _ := X63 (s := convert s t (a.eval x)) (by rw [Xv hf hx]; exact run_bytes_of_string w s t e u h1 h2 h3)
  rw [hrun]
  have hi2 := (Inv.drawn hi).alloc (.cells (bytesRow u (grownCap w u.size 0 e)) e ((bytesRow u (grownCap w u.size 0 e)).size, (bytesRow u (grownCap w u.size 0 e)).size + 1))
  have hsz : w.drew.heap.size = w.heap.size := rfl
  have hl2 : (toB u).length = u.size := by unfold toB; rw [List.length_map, Array.length_toList]; rfl
  generalize hob : Obj.cells (bytesRow u (grownCap w u.size 0 e)) e ((bytesRow u (grownCap w u.size 0 e)).size, (bytesRow u (grownCap w u.size 0 e)).size + 1) = ob at hi2 ⊢
  have key : Cov nt w0 S0 df ((d, .slice (some ⟨w.heap.size, 0, none⟩) (toB u).length (grownCap w u.size 0 e)) :: ρ) (G :: B) ((w.heap.size, ob) :: bl) sl K := by
    refine Cov.freeze 0 rfl bl rfl ?_
    have hfr : Bd w0 S0 B (single w.heap.size ob) := fun b o hb => by
      unfold single at hb
      split at hb
      · rename_i hh; subst hh; exact .inl hi.keep.size
      · cases hb
    refine Cov.union (Fin := B) (Xbc hfr (Xbc hB Xg6)) fun G' he hb' => ?_
    refine Cov.less (G' :: B) (fun F hF => by rcases List.mem_cons.1 hF with rfl | hF; exact List.mem_cons_self; exact List.mem_cons_of_mem _ (List.mem_cons_of_mem _ (List.mem_cons_of_mem _ hF))) ?_
    refine hk (some ⟨w.heap.size, 0, none⟩) (grownCap w u.size 0 e) G' (Xel he (List.mem_cons_of_mem _ List.mem_cons_self)) hb' ⟨by rw [hl2]; exact hlen, (toB u).map fun n => [Value.int .u8 n], ⟨some ⟨w.heap.size, 0, none⟩, grownCap w u.size 0 e, by rw [List.length_map], ?_, fun c hc => by obtain ⟨n, _, rfl⟩ := List.mem_map.1 hc; rfl, fun _ => ⟨w.heap.size, 0, rfl, fun j c hj q v hq => ?_⟩⟩, by simp, fun j c n hj hn => ?_⟩
    · rw [List.length_map, hl2]; exact grownCap_ge w u.size 0 e
    · have h0 : G' w.heap.size = some ob := he _ List.mem_cons_self _ _ (by simp [single])
      unfold rcell
      rw [h0, ← hob]
      rw [List.getElem?_map] at hj
      cases hy : (toB u)[j]? with
      | none => rw [hy] at hj; cases hj
      | some n =>
        rw [hy] at hj
        simp only [Option.map_some, Option.some.injEq] at hj
        subst hj
        have hq0 : q = 0 := by cases q with | zero => rfl | succ q => simp at hq
        subst hq0
        simp only [List.getElem?_cons_zero, Option.some.injEq] at hq
        subst hq
        have hjl : j < u.data.size := by
          have := (List.getElem?_eq_some_iff.1 hy).1
          rw [hl2] at this; exact this
        have hb := bytesRow_at u (grownCap w u.size 0 e) j hjl
        simp only [Rep.int, Nat.mul_one, Nat.zero_add, Nat.add_zero]
        rw [hb]
        have : (toB u)[j]? = some (u.data[j].toNat : Int) := by
          simp only [toB, List.getElem?_map]
          rw [Array.getElem?_toList, Array.getElem?_eq_getElem hjl]; rfl
        rw [this] at hy
        cases hy; rfl
    · rw [List.getElem?_map, hn] at hj
      simp only [Option.map_some, Option.some.injEq] at hj
      exact hj.symm
  have := key (a.put (some d) (.slice (some ⟨w.heap.size, 0, none⟩) (toB u).length (grownCap w u.size 0 e))) _ (hf.put hd _) hi2
  rw [hl2] at this
  exact this
theorem Cov.s2bR {d : Nat} {s t e : TypeId} {x : Operand} {u : ByteArray} {l : List Int} (hs : Stp P K' ⟨some d, .convert s t x, ty, none⟩ K) (hx : ev ρ x = some (.string u)) (h1 : P.underlying s = some .string) (h2 : P.underlying t = some (.slice e)) (h3 : P.underlying e = some (.int .u8)) (hl : tobs u = some l) (hd : Nat.blt d nt = true) (hB : Bd w0 S0 B G)
    (hk : ∀ a m G', HpLe G G' → Bd w0 S0 B G' → SlR (Rep.int .u8) G' a m l → Cov nt w0 S0 df ((d, .slice a l.length m) :: ρ) (G' :: B) bl sl K) : Cov nt w0 S0 df ρ (G :: B) bl sl K' := by
  obtain ⟨hlen, rfl⟩ := Xde hl
  exact Cov.s2b hs hx h1 h2 h3 hlen hd hB hk
theorem SlR.isnil {Q : Rep α} {a : Option Addr} {m : Nat} {l : List α} (h : SlR Q G a m l) (hc : a.isNone = true) : l = [] := by
  obtain ⟨_, xs, ⟨a', cap, hv, _, _, hcc⟩, hl, _⟩ := h
  simp only [Value.slice.injEq] at hv
  obtain ⟨rfl, _, _⟩ := hv
  by_cases h0 : xs = []
  · subst h0; exact List.eq_nil_of_length_eq_zero (by simpa using hl.symm)
  · obtain ⟨b, o, h1, _⟩ := hcc h0; rw [h1] at hc; cases hc
theorem SlR.sub3 {Q : Rep α} {a : Option Addr} {k : Nat} {l : List α} (h : SlR Q G a k l) {i j mx : Int} {m : List α} (hm : lsub3 l i j mx = some m) : ∃ a' k', subV3 (.slice a l.length k) i.toNat j.toNat mx.toNat Q.sz = .slice a' m.length k' ∧ SlR Q G a' k' m := by
  obtain ⟨hjm, hml, hm⟩ := Xej hm
  obtain ⟨hb, xs, h1, h2, h3⟩ := h
  obtain ⟨i0, ij, jl, rfl⟩ := X9h hm
  have hs := h1.sub3 (l := i.toNat) (r := j.toNat) (m := mx.toNat) (by omega) (by omega) (by rw [h2]; omega)
  have hn : j.toNat - i.toNat = (j - i).toNat := by omega
  obtain ⟨a', k', hv, rest⟩ := hs
  have hl : ((xs.drop i.toNat).take (j.toNat - i.toNat)).length = ((l.drop i.toNat).take (j - i).toNat).length := by simp only [List.length_take, List.length_drop]; omega
  rw [hl] at hv rest
  refine ⟨a', k', hv, by simp only [List.length_take, List.length_drop]; omega, _, ⟨a', k', by rw [hl], by rw [hl]; exact rest.1, rest.2⟩, hl, fun q c x hc hx => ?_⟩
  rw [hn] at hc
  have hq : q < (j - i).toNat := by
    rcases Nat.lt_or_ge q (j - i).toNat with h | h
    · exact h
    · rw [List.getElem?_take_eq_none h] at hx; cases hx
  rw [List.getElem?_take_of_lt hq, List.getElem?_drop] at hc hx
  exact h3 _ _ _ hc hx
theorem QOp.sliceR3 {Q : Rep α} {a a' : Option Addr} {m m' : Nat} {l l' : List α} {i j mx : Int} {t el : TypeId} {x lo hi xm : Operand} {k1 k2 k3 : IntKind} (hs : SlR Q G a m l) (hx : ev ρ x = some (.slice a l.length m)) (hl : lsub3 l i j mx = some l')
    (ht : slOf P t = some el) (hz : szOf P el = some Q.sz) (hlo : ev ρ lo = some (.int k1 i)) (hhi : ev ρ hi = some (.int k2 j)) (hmx : ev ρ xm = some (.int k3 mx)) (hv : subV3 (.slice a l.length m) i.toNat j.toNat mx.toNat Q.sz = .slice a' l'.length m') :
    QOp P ρ Fs bl sl (.slice t x (some lo) (some hi) (some xm)) ty (.slice a' l'.length m') := by
  obtain ⟨h1, h2, h3⟩ := Xej hl
  obtain ⟨h4, h5, h6, _⟩ := X9h h3
  obtain ⟨_, xs, ⟨_, cap, hvv, hle, _⟩, hlen, _⟩ := hs
  simp only [Value.slice.injEq] at hvv
  obtain ⟨rfl, _, rfl⟩ := hvv
  refine .cast hv (.slice3 hx hlo hhi hmx ht hz h4 h5 h1 (by omega))
theorem Xgc {l r : List α} (hl : l = []) (h : ((lapp ([] : List α) l).bind fun u => some u) = some r) : r = [] := by
  subst hl; simp [lapp] at h; exact h
theorem QOp.eqnil {t u e : TypeId} {x y : Operand} {a : Option Addr} {n m : Nat} (ht : P.underlying t = some (.slice e)) (hx : ev ρ x = some (.slice a n m)) (hy : ev ρ y = some (.slice none 0 0)) : QOp P ρ Fs bl sl (.binOp .eql t x y u) ty (.bool a.isNone) :=
  .bin hx hy fun w => by
    have h1 : (eqGuard .eql t x y (.slice a n m) (.slice none 0 0)).run P w = .ok () w := rfl
    rw [Sem.run_bind, h1]
    simp only [Result.andThen_ok]
    have h2 := run_equal_slice_nil (P := P) w t e a n m ht
    simp [binOp, h2]
end
end Go.Proofs.YtmfppphlhgneeaaGreat
end

section
namespace Go.Proofs.YtmfppphlhgneeaaGreat
open Go.RowKit
theorem flat1 : ∀ {xs : List (List Value)}, (∀ x ∈ xs, x.length = 1) → ∀ (i : Nat) (v : Value), xs.flatten[i]? = some v ↔ xs[i]? = some [v]
  | [], _, i, v => by simp
  | x :: xs, h, i, v => by
    have hx := h x List.mem_cons_self
    match x, hx with
    | [u], _ =>
      cases i with
      | zero => simp
      | succ i => simpa using flat1 (xs := xs) (fun y hy => h y (List.mem_cons_of_mem _ hy)) i v
theorem Xgd : ∀ {xs : List (List Value)}, (∀ x ∈ xs, x.length = 1) → xs.flatten.length = xs.length
  | [], _ => rfl
  | x :: xs, h => by
    simp only [List.flatten_cons, List.length_append, List.length_cons, h x List.mem_cons_self, Xgd (xs := xs) (fun y hy => h y (List.mem_cons_of_mem _ hy))]; omega
theorem Xdf : ∀ cs : List Value, cs = (cs.map fun v => [v]).flatten
  | [] => rfl
  | v :: cs => by rw [List.map_cons, List.flatten_cons, ← Xdf cs]; rfl
theorem OL.one_iff {α : Type} {Q : Rep α} {G : Hp} {cs : List Value} {l : List α} (hQ : Q.sz = 1) : OL Q G cs l ↔ l.length ≤ 16777216 ∧ cs.length = l.length ∧ ∀ (i : Nat) (v : Value) (x : α), cs[i]? = some v → l[i]? = some x → Q.r G [v] x := by
  constructor
  · rintro ⟨hb, xs, rfl, h3, h4, h5⟩
    rw [hQ] at h3
    exact ⟨hb, by rw [Xgd h3, h4], fun i v x hv hx => h5 i [v] x ((flat1 h3 i v).1 hv) hx⟩
  · rintro ⟨hb, hl, h⟩
    refine ⟨hb, cs.map fun v => [v], Xdf cs, fun x hx => by obtain ⟨v, _, rfl⟩ := List.mem_map.1 hx; rw [hQ]; rfl, by simpa using hl, fun i c x hc hx => ?_⟩
    rw [List.getElem?_map] at hc
    cases hv : cs[i]? with
    | none => rw [hv] at hc; cases hc
    | some v => rw [hv] at hc; simp only [Option.map_some, Option.some.injEq] at hc; subst hc; exact h i v x hv hx
theorem Xh8 {α : Type} {l src : List α} {i : Int} {n : Nat} (h : i.toNat + min src.length n ≤ l.length) : (lcpy l i n src).length = l.length := by
  unfold lcpy; simp only [List.length_append, List.length_take, List.length_drop]; omega
theorem Xge {α : Type} {l src : List α} {i : Int} {n : Nat} (h : min src.length n = 0) : lcpy l i n src = l := by
  unfold lcpy
  have : src.take n = [] := by apply List.eq_nil_of_length_eq_zero; rw [List.length_take]; omega
  rw [this, h]; simp
section
variable {P : Program} {c : Cx} {R : Value → World → Prop} {nt : Nat} {w0 : World} {S0 : List Nat} {df : List Deferred} {ρ ρ' : Env} {Fs Fs' Fin B : List Hp} {bl bl' : Blks} {sl sl' : List OwnS}
  {K K' : Act → World → Prop} {k : List Item} {ty : TypeId} {G : Hp} {α : Type}
theorem Cov.owncap (q : Nat) {a : Option Addr} {n m T sz : Nat} {cs : List Value} (hi : sl[q]? = some (.s (.slice a n m) T sz n cs)) (hk : n ≤ m → Cov nt w0 S0 df ρ Fs bl sl K) : Cov nt w0 S0 df ρ Fs bl sl K := fun a' w hf hinv => by
  have hown : w.ownsRow 0 T sz _ _ _ := hinv.mem.slh _ (List.mem_of_getElem? hi)
  refine hk ?_ a' w hf hinv
  rcases hown.2 with ⟨hv, h0⟩ | ⟨g, cap', cur, h1, _, _, h3, _⟩
  · omega
  · cases h1; exact h3
end
end Go.Proofs.YtmfppphlhgneeaaGreat
end

section
namespace Go.Proofs.YtmfppphlhgneeaaGreat
open Go.RowKit
structure Yr (α : Type) where
  n : Nat
  r : Hp → List Value → α → Prop
  len : ∀ {G : Hp} {c : List Value} {x : α}, r G c x → c.length = n
  mono : ∀ {G G' : Hp} {c : List Value} {x : α}, HpLe G G' → r G c x → r G' c x
def Yr.v {α : Type} (R : Rep α) : Yr α where
  n := 1
  r G c x := ∃ v, c = [v] ∧ R.r G [v] x
  len h := by obtain ⟨v, h, _⟩ := h; rw [h]; rfl
  mono hg h := by obtain ⟨v, h, h2⟩ := h; exact ⟨v, h, R.mono hg h2⟩
def Yr.a {α : Type} (R : Rep α) : Yr α where
  n := 1
  r G c x := ∃ cs : List Value, c = [.agg cs.toArray] ∧ R.r G cs x
  len h := by obtain ⟨v, h, _⟩ := h; rw [h]; rfl
  mono hg h := by obtain ⟨v, h, h2⟩ := h; exact ⟨v, h, R.mono hg h2⟩
def Yr.pair {α β : Type} (A : Yr α) (B : Yr β) : Yr (α × β) where
  n := A.n + B.n
  r G c x := ∃ c1 c2, c = c1 ++ c2 ∧ A.r G c1 x.1 ∧ B.r G c2 x.2
  len h := by obtain ⟨_, _, h, h1, h2⟩ := h; rw [h, List.length_append, A.len h1, B.len h2]
  mono hg h := by obtain ⟨c1, c2, h, h1, h2⟩ := h; exact ⟨c1, c2, h, A.mono hg h1, B.mono hg h2⟩
def IterR (P : Program) {α : Type} (Y : Yr α) (f : FuncId) (cap : List Value) (G : Hp) (l : List α) : Prop :=
  ∀ Fs G1, HpLe G G1 → G1 ∈ Fs → Iter P f cap Fs l.length (fun i v => ∃ x, l[i]? = some x ∧ Y.r G1 v x)
theorem IterR.mono {P : Program} {α : Type} {Y : Yr α} {f : FuncId} {cap : List Value} {G G' : Hp} {l : List α} (hg : HpLe G G') (h : IterR P Y f cap G l) : IterR P Y f cap G' l := fun Fs G1 h1 h2 => h Fs G1 (hg.trans h1) h2
def mks (ds : List Nat) : List Deferred := ds.map fun r => { target := .collected r, args := #[] }
abbrev MK := { ds : List Nat // ds.Nodup }
def marksG (m : MK) : Guest where
  blks := m.1
  nodup := m.2
  holds w := ∀ r ∈ m.1, w.heap[r]? = some (.deferred (some []))
  lt w h b hb := X94 (h b hb)
  same w w' h e := fun r hr => by rw [e r hr]; exact h r hr
def mk0 : MK := ⟨[], List.nodup_nil⟩
section
variable {P : Program} {c : Cx} {R : Value → World → Prop} {nt : Nat} {w0 : World} {S0 : List Nat} {df : List Deferred} {ρ ρ' : Env} {Fs Fs' Fin B : List Hp} {bl bl' : Blks} {sl sl' : List OwnS}
  {K K' : Act → World → Prop} {k : List Item} {ty : TypeId} {G : Hp}
theorem Cov.marks0 (h : Cov nt w0 S0 (mks mk0.1) ρ Fs bl (.g (marksG mk0) :: sl) K) : Cov nt w0 S0 [] ρ Fs bl sl K := fun a w hf hi =>
  h a w hf (hi.change [] (by simp) (Keep.refl w []) (fun G hG => .inl hG) hi.mem.own (fun s hs => by
    rcases List.mem_cons.1 hs with rfl | hs
    · exact fun r hr => by simp [mk0] at hr
    · exact hi.mem.slh s hs) (by simpa [blks, OwnS.blocks, marksG, mk0] using hi.nodup) (fun b hb => .inl (by simpa [blks, OwnS.blocks, marksG, mk0] using hb)))
theorem Cov.mkmerge (j : Nat) {m : MK} {r : Nat} (hb : bl[j]? = some (r, .deferred (some []))) (bl' : Blks) (hbl : bl.eraseIdx j = bl') (hk : ∀ m' : MK, Cov nt w0 S0 (mks m'.1) ρ Fs bl' (.g (marksG m') :: sl) K) :
    Cov nt w0 S0 ({ target := .collected r, args := #[] } :: mks m.1) ρ Fs bl (.g (marksG m) :: sl) K := fun a w hf hi => by
  subst hbl
  have hp1 := (X5t bl j _ hb).map (·.1)
  have hpm : (blks bl (.g (marksG m) :: sl)).Perm (r :: (m.1 ++ blks (bl.eraseIdx j) sl)) := by
    unfold blks
    simp only [List.flatMap_cons, OwnS.blocks, marksG, List.map_cons] at hp1 ⊢
    refine (hp1.append_right _).trans ?_
    simp only [List.cons_append]
    refine List.Perm.cons _ ?_
    rw [← List.append_assoc, ← List.append_assoc]
    exact List.perm_append_comm.append_right _
  have hnd := hpm.nodup_iff.1 hi.nodup
  have hnd2 : (r :: m.1).Nodup := (List.nodup_append.1 (by simpa using hnd : ((r :: m.1) ++ blks (bl.eraseIdx j) sl).Nodup)).1
  have hpm2 : (blks (bl.eraseIdx j) (.g (marksG ⟨r :: m.1, hnd2⟩) :: sl)).Perm (blks bl (.g (marksG m) :: sl)) := by
    refine List.Perm.trans ?_ hpm.symm
    unfold blks
    simp only [List.flatMap_cons, OwnS.blocks, marksG]
    rw [← List.append_assoc]
    refine (List.perm_append_comm.append_right _).trans ?_
    simp
  refine hk ⟨r :: m.1, hnd2⟩ a w ?_ (hi.change [] (by simp) (Keep.refl w []) (fun G hG => .inl hG) (fun p hp => hi.mem.own p (List.mem_of_mem_eraseIdx hp)) (fun s hs => ?_) (hpm2.nodup_iff.2 hi.nodup) (fun b hb => .inl (hpm2.mem_iff.1 hb)))
  · exact hf
  · rcases List.mem_cons.1 hs with rfl | hs
    · intro x hx
      rcases List.mem_cons.1 hx with rfl | hx
      · exact hi.mem.own _ (List.mem_of_getElem? hb)
      · exact hi.mem.slh _ List.mem_cons_self x hx
    · exact hi.mem.slh s (List.mem_cons_of_mem _ hs)
theorem Cov.unmarkAll : ∀ (ds : List Nat) (hn : ds.Nodup) {bl : Blks}, Cov nt w0 S0 [] ρ Fs bl sl (Out P c R) → Cov nt w0 S0 (mks ds) ρ Fs bl (.g (marksG ⟨ds, hn⟩) :: sl) (Out P c R)
  | [], _, bl, h => fun a w hf hi => h a w hf (hi.change [] (by simp) (Keep.refl w []) (fun G hG => .inl hG) hi.mem.own (fun s hs => hi.mem.slh s (List.mem_cons_of_mem _ hs)) (by simpa [blks, OwnS.blocks, marksG] using hi.nodup)
      (fun b hb => .inl (by simpa [blks, OwnS.blocks, marksG] using hb)))
  | r :: ds, hn, bl, h => fun a w hf hi => by
    have hn2 := (List.nodup_cons.1 hn).2
    have hpm : (blks ((r, Obj.deferred (some [])) :: bl) (.g (marksG ⟨ds, hn2⟩) :: sl)).Perm (blks bl (.g (marksG ⟨r :: ds, hn⟩) :: sl)) := by
      unfold blks
      simp only [List.flatMap_cons, OwnS.blocks, marksG, List.map_cons, List.cons_append]
      exact List.perm_middle.symm
    have hcov : Cov nt w0 S0 ({ target := .collected r, args := #[] } :: mks ds) ρ Fs ((r, Obj.deferred (some [])) :: bl) (.g (marksG ⟨ds, hn2⟩) :: sl) (Out P c R) :=
      Cov.unmark 0 rfl _ rfl (Cov.drop 1 0 bl (.g (marksG ⟨ds, hn2⟩) :: sl) rfl rfl (Cov.unmarkAll ds hn2 h))
    refine hcov a w hf (hi.change [] (by simp) (Keep.refl w []) (fun G hG => .inl hG) (fun p hp => ?_) (fun s hs => ?_) (hpm.nodup_iff.2 hi.nodup) (fun b hb => .inl (hpm.mem_iff.1 hb)))
    · rcases List.mem_cons.1 hp with rfl | hp
      · exact hi.mem.slh _ List.mem_cons_self r List.mem_cons_self
      · exact hi.mem.own p hp
    · rcases List.mem_cons.1 hs with rfl | hs
      · exact fun x hx => hi.mem.slh _ List.mem_cons_self x (List.mem_cons_of_mem _ hx)
      · exact hi.mem.slh s (List.mem_cons_of_mem _ hs)
theorem Cov.outS {fn : Func} (rs : List ResultVar) (vs : List Value) {Q : Value → Blks → List OwnS → Prop} (hf : P.funcs[c.fn]? = some fn) (hrs : fn.results = rs.toArray)
    (hres : RVs P ρ Fs bl sl rs vs) (hsub : ∀ F ∈ Fin, F ∈ Fs) (hpost : Q (retVal vs) bl sl) : Cov nt w0 S0 [] ρ Fs bl sl (Out P c (RP w0 S0 Fin (fun v _ bl sl => Q v bl sl))) := by
  intro a w hfi hinv items cs
  refine ⟨retVal vs, w, ⟨empHp, bl, sl, X9g _, ?_, hpost⟩, { c.fr a items with mode := .returning }, Steps.refl _ _, rfl, rfl, hfi.1, rfl, fn, hf, X9f hfi hinv.mem hrs hres⟩
  refine hinv.change [] (by simp) (Keep.refl w []) (fun G hG => ?_) hinv.mem.own hinv.mem.slh hinv.nodup (fun _ hx => .inl hx)
  rcases List.mem_cons.1 hG with rfl | hG
  · exact .inr ⟨fun b o hb => by simp [empHp] at hb, fun _ _ => rfl⟩
  · exact .inl (hsub G hG)
theorem Cov.outW {fn : Func} (rs : List ResultVar) (vs : List Value) {Q : Value → Blks → List OwnS → Hp → Prop} (hf : P.funcs[c.fn]? = some fn) (hrs : fn.results = rs.toArray)
    (hres : RVs P ρ Fs bl sl rs vs) (hsub : ∀ F ∈ Fin, F ∈ Fs) (hG : G ∈ Fs) (hbd : Bd w0 S0 Fin G) (hS : ∀ b ∈ S0, b ∈ blks bl sl) (hpost : ∀ G', HpLe G G' → Q (retVal vs) bl sl G') :
    Cov nt w0 S0 [] ρ Fs bl sl (Out P c (RP w0 S0 Fin (fun v Fr bl sl => ∀ G', Ext (Fr :: Fin) G' → Q v bl sl G'))) := by
  refine Cov.part hG ?_
  intro a w hfi hinv items cs
  refine ⟨retVal vs, w, ⟨Proofs.YtmfppphlhgneeaaGreat.part w0 G, bl, sl, Xei w0 G, ?_, fun G' he => hpost G' (Xhk hbd (fun b hb => hinv.apart b (hS b hb) G (List.mem_cons_of_mem _ hG)) he)⟩, { c.fr a items with mode := .returning }, Steps.refl _ _, rfl, rfl, hfi.1, rfl, fn, hf, X9f hfi hinv.mem hrs (Xj1 (fun F hF => List.mem_cons_of_mem _ hF) rs vs hres)⟩
  refine hinv.change [] (by simp) (Keep.refl w []) (fun F hF => .inl ?_) hinv.mem.own hinv.mem.slh hinv.nodup (fun _ hx => .inl hx)
  rcases List.mem_cons.1 hF with rfl | hF
  · exact List.mem_cons_self
  · exact List.mem_cons_of_mem _ (hsub F hF)
theorem Cov.loopD {β : Type} (dfD : β → List Deferred) (dyn : β → Env) (ρs : Env) (FsD : β → List Hp) (blD : β → Blks) (bls : Blks) (slD : β → List OwnS) (sls : List OwnS) (I : β → Prop) (μ : β → Nat) {x : Code} (x0 : β) (hI : I x0) (hdf : df = dfD x0) (hρ : Sub ρ (dyn x0 ++ ρs)) (hF : Fs' = FsD x0 ++ Fs) (hb : bl = blD x0 ++ bls) (hs : sl = slD x0 ++ sls)
    (round : ∀ y, I y → (∀ z, I z → μ z < μ y → Cov nt w0 S0 (dfD z) (dyn z ++ ρs) (FsD z ++ Fs) (blD z ++ bls) (slD z ++ sls) (Run P c R (.inLoop x :: k))) →
      Cov nt w0 S0 (dfD y) (dyn y ++ ρs) (FsD y ++ Fs) (blD y ++ bls) (slD y ++ sls) (Run P c R (.code x :: .inLoop x :: k))) : Cov nt w0 S0 df ρ Fs' bl sl (Run P c R (.code (.loop x) :: k)) := by
  subst hF hb hs hdf
  have key : ∀ n y, μ y = n → I y → Cov nt w0 S0 (dfD y) (dyn y ++ ρs) (FsD y ++ Fs) (blD y ++ bls) (slD y ++ sls) (Run P c R (.code x :: .inLoop x :: k)) := by
    intro n
    induction n using Nat.strongRecOn with
    | _ n ih =>
      intro y hn hy
      exact round y hy fun z hz hlt => (ih (μ z) (hn ▸ hlt) z rfl hz).mono fun _ _ => Run.inLoop
  exact Cov.prune _ hρ ((key _ x0 rfl hI).mono fun _ _ => Run.loop)
section
variable {β : Type} (dfD : β → List Deferred) (dyn : β → Env) (ρs : Env) (FsD : β → List Hp) (blD : β → Blks) (bls : Blks) (slD : β → List OwnS) (sls : List OwnS) (I : β → Prop) (hρ : Sub ρ ρs) (ib : List Nat) (hb : ib.map (bl[·]?) = bls.map some) (is : List Nat) (hs : is.map (sl[·]?) = sls.map some)
set_option linter.unusedVariables false
set_option linter.unusedSectionVars false
include hρ hb hs
theorem Cov.cutBD {id : Nat} {x : Code} (hk : ∀ y, I y → Cov nt w0 S0 (dfD y) (dyn y ++ ρs) (FsD y) (blD y ++ bls) (slD y ++ sls) (Run P c R k))
    (h : (∀ y, I y → Cov nt w0 S0 (dfD y) (dyn y ++ ρs) (FsD y) (blD y ++ bls) (slD y ++ sls) (Run P c R k)) → Cov nt w0 S0 df ρ Fs bl sl (Run P c R (.code (.block id x) :: k))) : Cov nt w0 S0 df ρ Fs bl sl (Run P c R (.code (.block id x) :: k)) := h hk
end
theorem Bd.trans {G' : Hp} (h : Bd w0 S0 (G :: B) G') (hB : Bd w0 S0 B G) : Bd w0 S0 B G' := fun b o hb => by
  rcases h b o hb with h | h | ⟨F, hF, hb'⟩
  · exact .inl h
  · exact .inr (.inl h)
  · rcases List.mem_cons.1 hF with rfl | hF
    · exact hB b o hb'
    · exact .inr (.inr ⟨F, hF, hb'⟩)
end
end Go.Proofs.YtmfppphlhgneeaaGreat
end

section
namespace Go.Proofs.YtmfppphlhgneeaaGreat
open Go.RowKit
theorem Xnj {P : Program} {W : World} {H : Type} {enc : TypeId × Value → H} {t : TypeId} {s : ByteArray} {d : DataW H} {ps : List MemPlace} (h : DataW.Trod enc P W 0 (fun _ => true) true t (.string s) d ps) : Tr P W t [.string s] := by
  have := Xne h
  simpa [Value.cells] using this
end Go.Proofs.YtmfppphlhgneeaaGreat
end

section
namespace Go.Proofs.YtmfppphlhgneeaaGreat
open Go.RowKit Go.ChangeShapes Go.WideShapes Go.Deep
theorem Xdg {H : Type} {d : DataW H} : ∀ {l : List (DataW H)}, d ∈ l → Rows.uptoBulk d ≤ Rows.uptoBulkAll l
  | x :: r, h => by
    simp only [Rows.uptoBulkAll]
    rcases List.mem_cons.1 h with e | e
    · subst e; omega
    · have := Xdg e; omega
theorem Xla {H : Type} (d : DataW H) : 1 ≤ Rows.uptoBulk d := by
  cases d with
  | lit l => cases l <;> simp [Rows.uptoBulk]
  | nil => simp [Rows.uptoBulk]
  | ptr d => simp [Rows.uptoBulk]
  | slice elems spare => simp [Rows.uptoBulk]
  | agg parts => simp [Rows.uptoBulk]
  | iface t d => simp [Rows.uptoBulk]
  | map entries => simp [Rows.uptoBulk]
  | held h => simp [Rows.uptoBulk]
theorem Xhm {H : Type} : ∀ l : List (DataW H), l.length ≤ Rows.uptoBulkAll l
  | [] => by simp [Rows.uptoBulkAll]
  | x :: r => by
    have := Xla x
    have := Xhm r
    simp only [Rows.uptoBulkAll, List.length_cons]; omega
theorem Xdh {α : Type} {R : Nat → α → Prop} : ∀ n : Nat, (∀ i, i < n → ∃ y, R i y) → ∃ l : List α, l.length = n ∧ ∀ i y, l[i]? = some y → R i y
  | 0, _ => ⟨[], rfl, fun i y h => by simp at h⟩
  | n + 1, h => by
    obtain ⟨l, h1, h2⟩ := Xdh n fun i hi => h i (by omega)
    obtain ⟨y, hy⟩ := h n (by omega)
    refine ⟨l ++ [y], by simp [h1], fun i z hz => ?_⟩
    rcases Nat.lt_or_ge i n with c | c
    · rw [List.getElem?_append_left (by omega)] at hz; exact h2 i z hz
    · have hi : i < (l ++ [y]).length := by
        rcases Nat.lt_or_ge i (l ++ [y]).length with c2 | c2
        · exact c2
        · rw [List.getElem?_eq_none c2] at hz; cases hz
      simp only [List.length_append, List.length_singleton] at hi
      obtain rfl : i = n := by omega
      rw [List.getElem?_append_right (by omega), h1, Nat.sub_self] at hz
      simp at hz
      subst hz
      exact hy
def TrU (P : Program) (W : World) (t : TypeId) (b : Nat) (cs : List Value) : Prop := ∃ (H : Type) (enc : TypeId × Value → H) (n : Nat) (x : DataW H × List MemPlace), DataW.trod enc P W 0 (fun _ => true) true n t cs = some x ∧ Rows.uptoBulk x.1 ≤ b
def Cvr {α : Type} (P : Program) (W : World) (t : TypeId) (b : Nat) (A : Rep α) (Q : α → Prop) : Prop := ∀ cs, TrU P W t b cs → ∃ x, A.r (whole W) cs x ∧ Q x
section
variable {H : Type} {enc : TypeId × Value → H} {P : Program} {W : World} {t : TypeId} {b : Nat}
theorem Xlw {v : Value} {d : DataW H} {ps : List MemPlace} (h : DataW.Trod enc P W 0 (fun _ => true) true t v d ps) (hb : Rows.uptoBulk d ≤ b) : TrU P W t b v.cells.toList := by
  obtain ⟨n, hn⟩ := h
  exact ⟨H, enc, n, _, hn, hb⟩
theorem Xj9 {cs : List Value} {d : DataW H} {ps : List MemPlace} (h : DataW.Trod enc P W 0 (fun _ => true) true t (.agg cs.toArray) d ps) (hb : Rows.uptoBulk d ≤ b) : TrU P W t b cs := by
  have := Xlw h hb
  simpa [Value.cells] using this
theorem Xgf {a : Option Addr} {n cap : Nat} {d : DataW H} {ps : List MemPlace} (h : DataW.Trod enc P W 0 (fun _ => true) true t (.slice a n cap) d ps) (hb : Rows.uptoBulk d ≤ b) : TrU P W t b [.slice a n cap] := by
  have := Xlw h hb
  simpa [Value.cells] using this
theorem TrU.tr {cs : List Value} (h : TrU P W t b cs) : Tr P W t cs := by
  obtain ⟨H, enc, n, x, h, _⟩ := h
  exact ⟨H, enc, n, x, h⟩
theorem Cvr.int {k : IntKind} (ht : P.underlying t = some (.int k)) : Cvr P W t b (Rep.int k) fun n => (Lit.int k n).wf = true := fun _ h => h.tr.int ht
theorem Cvr.bool (ht : P.underlying t = some .bool) : Cvr P W t b Rep.bool fun _ => True := fun cs h => by
  obtain ⟨x, hx⟩ := h.tr.bool ht
  exact ⟨x, hx, trivial⟩
theorem Cvr.str (ht : P.underlying t = some .string) : Cvr P W t b Rep.str fun s => s.size ≤ maxLen := fun _ h => h.tr.str ht
theorem TrU.fld {fs : Array Field} (i : Nat) {f : Field} {cs : List Value} (h : TrU P W t b cs) (ht : P.underlying t = some (.struct fs)) (hf : fs[i]? = some f) : TrU P W f.type b ((cs.drop f.offset).take (P.cellsOf f.type)) := by
  obtain ⟨H, enc, n, x, h, hb⟩ := h
  obtain ⟨xs, n', _, h1, _, h2, h3⟩ := DataW.trod_struct ht h
  have hlt : i < xs.length := by
    rw [h2]
    exact (Array.getElem?_eq_some_iff.1 hf).1
  have := h3 i f hf
  rw [List.getElem?_eq_getElem hlt] at this
  refine ⟨H, enc, n', _, this, ?_⟩
  subst h1
  simp only [Rows.uptoBulk] at hb
  have := Xdg (d := xs[i].1) (l := xs.map (·.1)) (List.mem_map.2 ⟨xs[i], List.getElem_mem hlt, rfl⟩)
  omega
theorem Cvr.struct2 {α β : Type} {A : Rep α} {B : Rep β} {Q : α → Prop} {R : β → Prop} {f0 f1 : Field} (ht : P.underlying t = some (.struct #[f0, f1])) (hn : P.cellsOf t = A.sz + B.sz) (h0 : f0.offset = 0) (h1 : f1.offset = A.sz) (m0 : P.cellsOf f0.type = A.sz) (m1 : P.cellsOf f1.type = B.sz)
    (c0 : Cvr P W f0.type b A Q) (c1 : Cvr P W f1.type b B R) : Cvr P W t b (Rep.pair A B) fun x => Q x.1 ∧ R x.2 := fun cs h => by
  have hl := h.tr.len ht hn
  have g0 := h.fld 0 (f := f0) ht rfl
  have g1 := h.fld 1 (f := f1) ht rfl
  rw [h0, m0, List.drop_zero] at g0
  rw [h1, m1, List.take_of_length_le (by simp; omega)] at g1
  obtain ⟨x, x1, x2⟩ := c0 _ g0
  obtain ⟨y, y1, y2⟩ := c1 _ g1
  exact ⟨(x, y), ⟨_, _, (List.take_append_drop _ _).symm, x1, y1⟩, x2, y2⟩
theorem Cvr.struct3 {α β γ : Type} {A : Rep α} {B : Rep β} {C : Rep γ} {Q : α → Prop} {R : β → Prop} {S : γ → Prop} {f0 f1 f2 : Field} (ht : P.underlying t = some (.struct #[f0, f1, f2])) (hn : P.cellsOf t = A.sz + (B.sz + C.sz)) (h0 : f0.offset = 0) (h1 : f1.offset = A.sz) (h2 : f2.offset = A.sz + B.sz) (m0 : P.cellsOf f0.type = A.sz) (m1 : P.cellsOf f1.type = B.sz) (m2 : P.cellsOf f2.type = C.sz)
    (c0 : Cvr P W f0.type b A Q) (c1 : Cvr P W f1.type b B R) (c2 : Cvr P W f2.type b C S) : Cvr P W t b (Rep.pair A (Rep.pair B C)) fun x => Q x.1 ∧ R x.2.1 ∧ S x.2.2 := fun cs h => by
  have hl := h.tr.len ht hn
  have g0 := h.fld 0 (f := f0) ht rfl
  have g1 := h.fld 1 (f := f1) ht rfl
  have g2 := h.fld 2 (f := f2) ht rfl
  rw [h0, m0, List.drop_zero] at g0
  rw [h1, m1] at g1
  rw [h2, m2, List.take_of_length_le (by simp; omega)] at g2
  obtain ⟨x, x1, x2⟩ := c0 _ g0
  obtain ⟨y, y1, y2⟩ := c1 _ g1
  obtain ⟨z, z1, z2⟩ := c2 _ g2
  refine ⟨(x, y, z), ⟨cs.take A.sz, cs.drop A.sz, (List.take_append_drop _ _).symm, x1, (cs.drop A.sz).take B.sz, cs.drop (A.sz + B.sz), ?_, y1, z1⟩, x2, y2, z2⟩
  rw [← List.drop_drop, List.take_append_drop]
theorem Cvr.sl {α : Type} {A : Rep α} {Q : α → Prop} {e : TypeId} (ht : P.underlying t = some (.slice e)) (hsz : P.cellsOf e = A.sz) (hpos : 0 < A.sz) (hc : Cvr P W e b A Q) : Cvr P W t b (Rep.sl A) fun l => l.length ≤ b ∧ ∀ y ∈ l, Q y := fun cs h => by
  obtain ⟨H, enc, fuel, x, h, hb⟩ := h
  rcases open_slice ht h with ⟨rfl, _⟩ | ⟨a, n, cap, m, f, D, Pl, rfl, _, hl, hmx, hm, hx, hel⟩
  · exact ⟨[], ⟨none, 0, rfl, SlR.nil⟩, by simp, by simp⟩
  · rw [hsz] at hel
    simp only [if_true] at hm
    obtain rfl := hm.symm
    subst hx
    simp only [Rows.uptoBulk] at hb
    have hbl := Xhm ((List.range n).map D)
    rw [List.length_map, List.length_range] at hbl
    obtain ⟨X, hX⟩ := choose_lt (α := List Value) (fun i hi => hel i (Nat.lt_of_lt_of_le hi hl))
    have hlen : ∀ i, i < n → (X i).length = A.sz := fun i hi => by
      obtain ⟨_, h1, _⟩ := World.cells?_some (hX i hi).1
      exact h1
    have hcell : ∀ i, i < n → ∀ j c, (X i)[j]? = some c → W.cell? ((a.add (i * A.sz)).add j) = some c := fun i hi j c hj => by
      obtain ⟨_, h1, h2⟩ := World.cells?_some (hX i hi).1
      have hjl : j < (X i).length := by rcases Nat.lt_or_ge j (X i).length with h | h; exact h; rw [List.getElem?_eq_none h] at hj; cases hj
      exact (h2 j (by omega)).trans hj
    have hread : ∀ i, i < n → ∃ y, A.r (whole W) (X i) y ∧ Q y := fun i hi => hc (X i) ⟨H, enc, f, _, (hX i hi).2, by
      have := Xdg (d := D i) (l := (List.range n).map D) (List.mem_map.2 ⟨i, List.mem_range.2 hi, rfl⟩)
      dsimp only
      omega⟩
    obtain ⟨Y, hYl, hY⟩ := Xdh n hread
    have hmax : maxLen ≤ 9223372036854775807 := by decide
    refine ⟨Y, ⟨some a, cap, by rw [hYl], by omega, (List.range n).map X, ?_, ?_⟩, by omega, ?_⟩
    · rw [hYl]
      refine ⟨some a, cap, by simp, by simpa using hl, fun x hx => ?_, fun hne => ?_⟩
      · obtain ⟨i, hi, rfl⟩ := List.mem_map.1 hx
        exact hlen i (List.mem_range.1 hi)
      · have hn : 0 < n := by
          rcases Nat.eq_zero_or_pos n with h0 | h0
          · subst h0; simp at hne
          · exact h0
        have h0 : ∃ c, (X 0)[0]? = some c := by
          have := hlen 0 hn
          exact ⟨(X 0)[0]'(by omega), List.getElem?_eq_getElem _⟩
        obtain ⟨c0, hc0⟩ := h0
        have hc := hcell 0 hn 0 c0 hc0
        have ha : (a.add (0 * A.sz)).add 0 = a := by simp [Addr.add]
        rw [ha] at hc
        obtain ⟨bk, o, sp⟩ := a
        obtain ⟨rfl, _⟩ := Xbl hc
        refine ⟨bk, o, rfl, fun i x hi j c hj => ?_⟩
        rw [List.getElem?_map] at hi
        have hin : i < n := by
          rcases Nat.lt_or_ge i n with h | h
          · exact h
          · rw [List.getElem?_eq_none (by simpa using h)] at hi; cases hi
        rw [List.getElem?_range hin] at hi
        simp only [Option.map_some, Option.some.injEq] at hi
        subst hi
        have := hcell i hin j c hj
        rw [X1e, X1e] at this
        exact (Xbl this).2
    · refine ⟨by simp [hYl], fun i c x hi hx => ?_⟩
      have hin : i < n := by
        rcases Nat.lt_or_ge i n with h | h
        · exact h
        · rw [List.getElem?_eq_none (by simpa using h)] at hi; cases hi
      rw [List.getElem?_map, List.getElem?_range hin] at hi
      simp only [Option.map_some, Option.some.injEq] at hi
      subst hi
      exact (hY i x hx).1
    · intro y hy
      obtain ⟨i, hi⟩ := List.mem_iff_getElem?.1 hy
      exact (hY i y hi).2
end
end Go.Proofs.YtmfppphlhgneeaaGreat
end

section
namespace Go.Proofs.YtmfppphlhgneeaaGreat
set_option linter.unusedVariables false
set_option synthInstance.maxSize 2000
set_option synthInstance.maxHeartbeats 400000
def X46 (x0 : Int) : Option Int :=
  some (w64 (x0 * 37))
def X7r (rec44 : Option Int) (x54 : (Int × Int)) : Option Int :=
  if ((((x54.1 < 0) ∨ (2147483647 ≤ x54.1)) ∨ (x54.2 < 0)) ∨ (2147483647 ≤ x54.2)) then (some 2) else
 rec44
def X1x : (List (Int × Int)) → Option Int
  | [] => some 0
  | x54 :: xs => X7r (X1x xs) x54
def X2t (x0 : (Int × (List (Int × Int)))) : Option Int :=
  if ((((x0.1 < 1) ∨ (64 < x0.1)) ∨ ((x0.2.length : Int) < 1)) ∨ (4 < (x0.2.length : Int))) then (some 2) else
 X1x x0.2
def X1y (x0 : Int) : Option Bool :=
  some (decide ((1 ≤ x0) ∧ (x0 ≤ 8)))
def X4d (x0 : ByteArray) : Option Bool :=
  some (decide ((1 ≤ (x0.size : Int)) ∧ ((x0.size : Int) ≤ 32)))
def X7s (x0 : (ByteArray × Int)) : Option Bool :=
  (X4d x0.1).bind fun u2 => some (decide (((u2 = true) ∧ (0 ≤ x0.2)) ∧ (x0.2 < 2147483647)))
def X5p (x0 : (ByteArray × Int)) : Option ByteArray :=
  some x0.1
def X5q (x0 : ByteArray) : Option Bool :=
  some (decide (x0 ≠ x0))
def X61 (x0 : ByteArray) (x1 : ByteArray) : Option Int :=
  (X5q x0).bind fun u1 => (X5q x1).bind fun u5 => if (u1 = true) then (if (u5 = true) then (some 0) else
 some (-1)) else
 if (u5 = true) then (some 1) else
 if (sLt x0 x1) then (some (-1)) else
 if (sLt x1 x0) then (some 1) else
 some 0
def X2b (x0 : (ByteArray × Int)) (x1 : (ByteArray × Int)) : Option Int :=
  (X5p x0).bind fun u3 => (X5p x1).bind fun u7 => (X61 u3 u7).bind fun u11 => some u11
def X2p : Option Unit :=
  some ()
def X7t (x0 : (ByteArray × Int)) (x1 : (ByteArray × Int)) : Option Int :=
  (X2p).bind fun u3 => (X2b x0 x1).bind fun u13 => some u13
def X2e (z88 : List (ByteArray × Int)) (rec82 : Option Bool) (x91 : (ByteArray × Int)) (i82 : Nat) : Option Bool :=
  (X7s x91).bind fun u97 => (if ((!u97) = true) then (some true) else (if (0 < (i82 : Int)) then ((lidx z88 (w64 ((i82 : Int) - 1))).bind fun u10 => (X7t u10 x91).bind fun u11 => some (decide (0 ≤ u11))) else some false).bind fun u12 => some u12).bind fun u13 => if (u13 = true) then (some false) else
 rec82
def Xi (z88 : List (ByteArray × Int)) : (List (ByteArray × Int)) → Nat → Option Bool
  | [], i82 => some true
  | x91 :: xs, i82 => X2e z88 (Xi z88 xs (i82 + 1)) x91 i82
def X18 (x0 : (List (ByteArray × Int))) : Option Bool :=
  Xi x0 x0 0
def X3d (z21 : Int) (rec14 : Option Int) (x24 : Int) (i14 : Nat) : Option Int :=
  if (z21 = x24) then (some (i14 : Int)) else
 rec14
def X16 (z21 : Int) : (List Int) → Nat → Option Int
  | [], i14 => some (-1)
  | x24 :: xs, i14 => X3d z21 (X16 z21 xs (i14 + 1)) x24 i14
def X4q (x0 : (List Int)) (x1 : Int) : Option Int :=
  X16 x1 x0 0
def X17 (x0 : (List Int)) (x1 : Int) : Option Bool :=
  (X4q x0 x1).bind fun u1 => some (decide (0 ≤ u1))
def X9i (x0 : Int) : Option Bool :=
  some (decide ((0 ≤ x0) ∧ (x0 < 2147483647)))
def X7u (z67 : Int) (z70 : Int) (rec55 : (List Int) → Option (List Int)) (x72 : (Int × Int)) (v59 : List Int) : Option (List Int) :=
  (nz z70).bind fun _ => (lapp v59 ([(Int.tmod (Int.tmod (w64 ((w64 (x72.1 * z67)) + x72.2)) 2147483647) z70)] : List Int)).bind fun u87 => rec55 u87
def X2u (z67 : Int) (z70 : Int) : (List (Int × Int)) → (List Int) → Option (List Int)
  | [], v59 => some v59
  | x72 :: xs, v59 => X7u z67 z70 (X2u z67 z70 xs) x72 v59
def X8t (x0 : (Int × (List (Int × Int)))) (x1 : Int) : Option (List Int) :=
  X2u x1 x0.1 x0.2 ([] : List Int)
def X8u (x0 : (Int × (List (Int × Int)))) (x1 : Int) : Option ((List Int) × Int) :=
  (X2t x0).bind fun u2 => if (u2 ≠ 0) then (some (([] : List Int), u2)) else
(X9i x1).bind fun u10 => if ((!u10) = true) then (some (([] : List Int), 1)) else
(X8t x0 x1).bind fun u18 => some (u18, 0)
def X37 (z15 : ByteArray) (z16 : Int) (rec10 : Int → Int → Option Int) (v11 : Int) (v12 : Int) : Option Int :=
  if (v12 < z16) then ((sidx z15 v12).bind fun u21 => rec10 (Int.tmod (w64 ((w64 ((w64 (v11 * 1000003)) + (w64 u21))) + 1)) 2147483647) (w64 (v12 + 1))) else
 some v11
def X1d (z15 : ByteArray) (z16 : Int) : Nat → Int → Int → Option Int
  | 0, _, _ => none
  | n + 1, v11, v12 => X37 z15 z16 (X1d z15 z16 n) v11 v12
def X6p (x0 : ByteArray) (x1 : Int) : Option Int :=
  X1d x0 (x0.size : Int) big x1 0
def Xac (x0 : ByteArray) : Option Int :=
  (X6p x0 1).bind fun u1 => some u1
def X59 (x0 : (Int × (List (Int × Int)))) (x1 : ByteArray) : Option (List Int) :=
  (Xac x1).bind fun u2 => (X8u x0 u2).bind fun u6 => some u6.1
def X2j (rec10 : (List (ByteArray × Bool)) → Int → Int → Option Int) (z11 : Int) (z12 : Int) (z13 : List (Int × Int)) (z14 : Int) (rec15 : (List (ByteArray × Bool)) → Option Int) (x16 : (ByteArray × Int)) (v17 : List (ByteArray × Bool)) : Option Int :=
  (if (((mget v17 x16.1).getD false) = true) then (some true) else (X59 (z12, z13) x16.1).bind fun u18 => (X17 u18 z11).bind fun u19 => some (!u19)).bind fun u20 => if (u20 = true) then (some 2) else
 rec15 (mput v17 x16.1 true)
def X19 (rec10 : (List (ByteArray × Bool)) → Int → Int → Option Int) (z11 : Int) (z12 : Int) (z13 : List (Int × Int)) (z14 : Int) : (List (ByteArray × Int)) → (List (ByteArray × Bool)) → Option Int
  | [], v15 => rec10 v15 z12 z14
  | x16 :: xs, v15 => X2j rec10 z11 z12 z13 z14 (X19 rec10 z11 z12 z13 z14 xs) x16 v15
def X2k (z10 : List (Int × Int)) (rec11 : (List (ByteArray × Bool)) → Int → Int → Option Int) (x12 : (List (ByteArray × Int))) (i11 : Nat) (v13 : List (ByteArray × Bool)) (v14 : Int) (v15 : Int) : Option Int :=
  (if (v15 < (x12.length : Int)) then (some true) else (X18 x12).bind fun u16 => some (!u16)).bind fun u17 => if (u17 = true) then (some 2) else
 X19 rec11 (i11 : Int) v14 z10 v15 x12 v13
def Xr (z10 : List (Int × Int)) : (List (List (ByteArray × Int))) → Nat → (List (ByteArray × Bool)) → Int → Int → Option Int
  | [], i11, v12, v13, v14 => some 0
  | x15 :: xs, i11, v12, v13, v14 => X2k z10 (Xr z10 xs (i11 + 1)) x15 i11 v12 v13 v14
def X3e (x0 : ((Int × (List (Int × Int))) × Int × (List (List (ByteArray × Int))))) : Option Int :=
  (X2t x0.1).bind fun u2 => (if (u2 ≠ 0) then (some true) else (X1y x0.2.1).bind fun u10 => some (!u10)).bind fun u12 => if ((u12 = true) ∨ ((x0.2.2.length : Int) ≠ x0.1.1)) then (some 2) else
 Xr x0.1.2 x0.2.2 0 ([] : List (ByteArray × Bool)) x0.1.1 x0.2.1
def X5a (v36 : Int) : Option (Int × Bool) :=
  some (v36, true)
def X95 (kx37 : Int → Option (Int × Bool)) (z56 : Int) (rec52 : Int → Option (Int × Bool)) (v53 : Int) : Option (Int × Bool) :=
  if ((w64 (v53 * v53)) ≤ z56) then ((nz v53).bind fun _ => if ((Int.tmod z56 v53) = 0) then (some (0, false)) else
 rec52 (w64 (v53 + 1))) else
 kx37 z56
def X6q (kx37 : Int → Option (Int × Bool)) (z56 : Int) : Nat → Int → Option (Int × Bool)
  | 0, _ => none
  | n + 1, v53 => X95 kx37 z56 (X6q kx37 z56 n) v53
def X6r (x0 : Int) : Option (Int × Bool) :=
  if ((x0 < 2) ∨ (65521 < x0)) then (some (0, false)) else
 X6q X5a x0 big 2
def X9j (x0 : Int) : Option Int :=
  (X6r x0).bind fun u2 => if ((!u2.2) = true) then (some 9) else
 some 0
def X10 (v10 : List Int) : Option (ByteArray × Int) :=
  some ((ofB v10), 0)
def X4t (rec10 : (List Int) → Option (ByteArray × Int)) (z11 : Int) (z12 : Int) (z13 : Int) (rec14 : Int → (List Int) → Option (ByteArray × Int)) (v15 : Int) (v16 : List Int) : Option (ByteArray × Int) :=
  if (v15 < 4) then ((nneg (w64 (8 * v15))).bind fun _ => (pidx z11 z12 (w64 (33 + v15))).bind fun u17 => (lidx v16 u17).bind fun u18 => (lupd v16 u17 (wu8 (shrI .i64 z13 (w64 (8 * v15))))).bind fun u19 => rec14 (w64 (v15 + 1)) u19) else
 rec10 v16
def X1p (rec10 : (List Int) → Option (ByteArray × Int)) (z11 : Int) (z12 : Int) (z13 : Int) : Nat → Int → (List Int) → Option (ByteArray × Int)
  | 0, _, _ => none
  | n + 1, v14, v15 => X4t rec10 z11 z12 z13 (X1p rec10 z11 z12 z13 n) v14 v15
def X4u (kx10 : (List Int) → Option (ByteArray × Int)) (rec11 : (List Int) → Option (ByteArray × Int)) (x12 : (ByteArray × Int)) (i11 : Nat) (v13 : List Int) : Option (ByteArray × Int) :=
  (psub 0 (v13.length : Int) (w64 ((i11 : Int) * 37)) (w64 ((w64 ((i11 : Int) + 1)) * 37))).bind fun u14 => (pidx u14.1 u14.2 0).bind fun u15 => (lidx v13 u15).bind fun u16 => (lupd v13 u15 (wu8 (x12.1.size : Int))).bind fun u17 => (psub u14.1 u14.2 1 (u14.2 - u14.1)).bind fun u18 => (lsub u17 u18.1 u18.2).bind fun u19 => (tobs x12.1).bind fun u20 => X1p rec11 u14.1 u14.2 x12.2 big 0 (lcpy u17 u18.1 u19.length u20)
def X11 (kx10 : (List Int) → Option (ByteArray × Int)) : (List (ByteArray × Int)) → Nat → (List Int) → Option (ByteArray × Int)
  | [], i11, v12 => kx10 v12
  | x13 :: xs, i11, v12 => X4u kx10 (X11 kx10 xs (i11 + 1)) x13 i11 v12
def X2q (x0 : Int) (x1 : (List (ByteArray × Int))) : Option (ByteArray × Int) :=
  (X1y x0).bind fun u1 => if ((!u1) = true) then (some (ByteArray.empty, 1)) else
 if (x0 < (x1.length : Int)) then (some (ByteArray.empty, 4)) else
(X18 x1).bind fun u11 => if ((!u11) = true) then (some (ByteArray.empty, 2)) else
(lmk (w64 (x0 * 37)) 0).bind fun u18 => X11 X10 x1 0 u18
def X2i (x0 : (List Int)) : Option (List Int) :=
  (lapp ([] : List Int) x0).bind fun u11 => some u11
def X1g (z25 : Int → Option Bool) (rec18 : Option Int) (x28 : Int) (i18 : Nat) : Option Int :=
  (z25 x28).bind fun u33 => if (u33 = true) then (some (i18 : Int)) else
 rec18
def Xd (z25 : Int → Option Bool) : (List Int) → Nat → Option Int
  | [], i18 => some (-1)
  | x28 :: xs, i18 => X1g z25 (Xd z25 xs (i18 + 1)) x28 i18
def X27 (x0 : (List Int)) (x1 : Int → Option Bool) : Option Int :=
  Xd x1 x0 0
def X12 (x0 : (List Int)) (x1 : Int → Option Bool) : Option Bool :=
  (X27 x0 x1).bind fun u1 => some (decide (0 ≤ u1))
def X6s (x0 : Int) (x1 : Int) : Option Bool :=
  some (decide ((0 ≤ x1) ∧ (x1 < x0)))
def X4r (x0 : Int) (x1 : Int) : Option Bool :=
  (X6s x1 x0).bind fun u1 => some (!u1)
def X4v (x0 : Int) (x1 : (List Int)) : Option Bool :=
  (X12 x1 (fun y0 => X4r y0 x0)).bind fun u7 => some (!u7)
def X6z (z58 : Int) (z63 : Int) (rec52 : Option Int) (x65 : (List Int)) : Option Int :=
  if ((x65.length : Int) ≠ z63) then (some 2) else
(X4v z58 x65).bind fun u76 => if ((!u76) = true) then (some 9) else
 rec52
def X4e (z58 : Int) (z63 : Int) : (List (List Int)) → Option Int
  | [] => some 0
  | x65 :: xs => X6z z58 z63 (X4e z58 z63 xs) x65
def Xao (x0 : (Int × Int × Int × (List (List Int)))) : Option Int :=
  (X6r x0.2.1).bind fun u2 => if ((x0.1 < 1) ∨ (2147483647 ≤ x0.1)) then (some 1) else
 if ((!u2.2) = true) then (some 9) else
 if ((x0.2.2.1 < 1) ∨ (64 < x0.2.2.1)) then (some 1) else
 if (1024 < (x0.2.2.2.length : Int)) then (some 4) else
 X4e u2.1 x0.2.2.1 x0.2.2.2
def X65 (v10 : Int) (v11 : Int) (v12 : Int) (v13 : List (List Int)) (v14 : Int) (v15 : Int) (v16 : Int) (v17 : Int) : Option ((Int × Int × Int × (List (List Int))) × Int) :=
  some ((v10, v11, v12, v13), 0)
def X8v (kx10 : Int → Int → Int → (List (List Int)) → Int → Int → Int → Int → Option ((Int × Int × Int × (List (List Int))) × Int)) (z11 : Int) (z12 : Int) (z13 : Int) (rec14 : (List (List Int)) → Option ((Int × Int × Int × (List (List Int))) × Int)) (x15 : (List Int)) (v16 : List (List Int)) : Option ((Int × Int × Int × (List (List Int))) × Int) :=
  (X2i x15).bind fun u17 => (lapp v16 ([u17] : List (List Int))).bind fun u18 => rec14 u18
def X55 (kx10 : Int → Int → Int → (List (List Int)) → Int → Int → Int → Int → Option ((Int × Int × Int × (List (List Int))) × Int)) (z11 : Int) (z12 : Int) (z13 : Int) : (List (List Int)) → (List (List Int)) → Option ((Int × Int × Int × (List (List Int))) × Int)
  | [], v14 => kx10 z11 z12 z13 v14 0 0 0 z12
  | x15 :: xs, v14 => X8v kx10 z11 z12 z13 (X55 kx10 z11 z12 z13 xs) x15 v14
def Xbe (x0 : Int) (x1 : Int) (x2 : Int) (x3 : (List (List Int))) : Option ((Int × Int × Int × (List (List Int))) × Int) :=
  (Xao (x0, x1, x2, x3)).bind fun u4 => if (u4 ≠ 0) then (some ((0, 0, 0, ([] : List (List Int))), u4)) else
 X55 X65 x0 x1 x2 x3 ([] : List (List Int))
def X1h (z10 : Int) (v11 : List (List Int)) (v12 : Int) (v13 : Int) (v14 : Int) (v15 : Int) (v16 : Int) (v17 : Int) : Option ((Int × Int × Int × (List (List Int))) × Int) :=
  (X46 v16).bind fun u18 => (Xbe z10 v17 u18 v11).bind fun u19 => some (u19.1, u19.2)
def X3t (rec10 : (List (List Int)) → Int → Int → Int → Int → Int → Int → Option ((Int × Int × Int × (List (List Int))) × Int)) (z11 : List (List Int)) (v12 : List Int) (v13 : Int) (v14 : Int) (v15 : Int) (v16 : Int) (v17 : Int) (v18 : Int) : Option ((Int × Int × Int × (List (List Int))) × Int) :=
  (lapp z11 ([v12] : List (List Int))).bind fun u19 => rec10 u19 v13 v14 v15 v16 v17 v18
def X66 (kx10 : (List Int) → Int → Int → Int → Int → Int → Int → Option ((Int × Int × Int × (List (List Int))) × Int)) (z11 : Int) (z12 : Int) (z13 : Int) (z14 : Int) (z15 : Int) (z16 : Int) (rec17 : (List Int) → Option ((Int × Int × Int × (List (List Int))) × Int)) (x18 : Int) (v19 : List Int) : Option ((Int × Int × Int × (List (List Int))) × Int) :=
  (lapp v19 ([(w64 x18)] : List Int)).bind fun u20 => rec17 u20
def X2v (kx10 : (List Int) → Int → Int → Int → Int → Int → Int → Option ((Int × Int × Int × (List (List Int))) × Int)) (z11 : Int) (z12 : Int) (z13 : Int) (z14 : Int) (z15 : Int) (z16 : Int) : (List Int) → (List Int) → Option ((Int × Int × Int × (List (List Int))) × Int)
  | [], v17 => kx10 v17 z11 z12 z13 z14 z15 z16
  | x18 :: xs, v17 => X66 kx10 z11 z12 z13 z14 z15 z16 (X2v kx10 z11 z12 z13 z14 z15 z16 xs) x18 v17
def X67 (kx10 : (List (List Int)) → Int → Int → Int → Int → Int → Int → Option ((Int × Int × Int × (List (List Int))) × Int)) (rec11 : (List (List Int)) → Int → Int → Int → Int → Int → Int → Option ((Int × Int × Int × (List (List Int))) × Int)) (x12 : (List (ByteArray × Int))) (v13 : List (List Int)) (v14 : Int) (v15 : Int) (v16 : Int) (v17 : Int) (v18 : Int) (v19 : Int) : Option ((Int × Int × Int × (List (List Int))) × Int) :=
  (X2q v18 x12).bind fun u20 => if (u20.2 ≠ 0) then (some ((0, 0, 0, ([] : List (List Int))), u20.2)) else
(tobs u20.1).bind fun u21 => X2v (X3t rec11 v13) v14 v15 v16 v17 v18 v19 u21 ([] : List Int)
def X1a (kx10 : (List (List Int)) → Int → Int → Int → Int → Int → Int → Option ((Int × Int × Int × (List (List Int))) × Int)) : (List (List (ByteArray × Int))) → (List (List Int)) → Int → Int → Int → Int → Int → Int → Option ((Int × Int × Int × (List (List Int))) × Int)
  | [], v11, v12, v13, v14, v15, v16, v17 => kx10 v11 v12 v13 v14 v15 v16 v17
  | x18 :: xs, v11, v12, v13, v14, v15, v16, v17 => X67 kx10 (X1a kx10 xs) x18 v11 v12 v13 v14 v15 v16 v17
def X68 (x0 : Int) (x1 : Int) (x2 : ((Int × (List (Int × Int))) × Int × (List (List (ByteArray × Int))))) : Option ((Int × Int × Int × (List (List Int))) × Int) :=
  (X3e x2).bind fun u4 => if (u4 ≠ 0) then (some ((0, 0, 0, ([] : List (List Int))), u4)) else
(X9j x1).bind fun u11 => if ((u11 ≠ 0) ∨ (x1 ≤ 256)) then (some ((0, 0, 0, ([] : List (List Int))), 9)) else
(X46 x2.2.1).bind fun u22 => if (64 < u22) then (some ((0, 0, 0, ([] : List (List Int))), 4)) else
 X1a (X1h x0) x2.2.2 ([] : List (List Int)) 0 0 0 x2.1.1 x2.2.1 x1
def X6t (x0 : (Int × (List (Int × Int)))) (x1 : ByteArray) : Option ((List Int) × Int) :=
  (X2t x0).bind fun u2 => if (u2 ≠ 0) then (some (([] : List Int), u2)) else
(X4d x1).bind fun u10 => if ((!u10) = true) then (some (([] : List Int), 1)) else
(X59 x0 x1).bind fun u18 => some (u18, 0)
def X5b (x0 : (Int × (List (Int × Int)))) (x1 : ByteArray) : Option ((List Int) × Int) :=
  (X6t x0 x1).bind fun u2 => some (u2.1, u2.2)
def Xa5 (rec44 : Option Int) (x54 : (Int × Int)) : Option Int :=
  if ((((x54.1 < 0) ∨ (2147483647 ≤ x54.1)) ∨ (x54.2 < 0)) ∨ (2147483647 ≤ x54.2)) then (some 2) else
 rec44
def X4f : (List (Int × Int)) → Option Int
  | [] => some 0
  | x54 :: xs => Xa5 (X4f xs) x54
def X69 (x0 : (Int × (List (Int × Int)))) : Option Int :=
  if ((((x0.1 < 1) ∨ (64 < x0.1)) ∨ ((x0.2.length : Int) < 1)) ∨ (4 < (x0.2.length : Int))) then (some 2) else
 X4f x0.2
def X70 (x0 : ByteArray) : Option Bool :=
  some (decide ((1 ≤ (x0.size : Int)) ∧ ((x0.size : Int) ≤ 32)))
def X6a (x0 : (ByteArray × Int)) : Option Bool :=
  (X70 x0.1).bind fun u2 => some (decide (((u2 = true) ∧ (0 ≤ x0.2)) ∧ (x0.2 < 2147483647)))
def X8h (z83 : Int) (z86 : Int) (rec71 : (List Int) → Option ((List Int) × Int)) (x88 : (Int × Int)) (v75 : List Int) : Option ((List Int) × Int) :=
  (nz z86).bind fun _ => (lapp v75 ([(Int.tmod (Int.tmod (w64 ((w64 (x88.1 * z83)) + x88.2)) 2147483647) z86)] : List Int)).bind fun u10 => rec71 u10
def X3f (z83 : Int) (z86 : Int) : (List (Int × Int)) → (List Int) → Option ((List Int) × Int)
  | [], v75 => some (v75, 0)
  | x88 :: xs, v75 => X8h z83 z86 (X3f z83 z86 xs) x88 v75
def X9k (x0 : (Int × (List (Int × Int)))) (x1 : Int) : Option ((List Int) × Int) :=
  (X69 x0).bind fun u2 => if (u2 ≠ 0) then (some (([] : List Int), u2)) else
 if ((x1 < 0) ∨ (2147483647 ≤ x1)) then (some (([] : List Int), 1)) else
 X3f x1 x0.1 x0.2 ([] : List Int)
def X8w (z15 : ByteArray) (rec10 : Int → Int → Option Int) (v11 : Int) (v12 : Int) : Option Int :=
  if (v12 < (z15.size : Int)) then ((sidx z15 v12).bind fun u20 => rec10 (Int.tmod (w64 ((w64 ((w64 (v11 * 1000003)) + (w64 u20))) + 1)) 2147483647) (w64 (v12 + 1))) else
 some v11
def X6b (z15 : ByteArray) : Nat → Int → Int → Option Int
  | 0, _, _ => none
  | n + 1, v11, v12 => X8w z15 (X6b z15 n) v11 v12
def Xad (x0 : ByteArray) : Option Int :=
  X6b x0 big 1 0
def X35 (x0 : (Int × (List (Int × Int)))) (x1 : ByteArray) : Option ((List Int) × Int) :=
  (X69 x0).bind fun u2 => if (u2 ≠ 0) then (some (([] : List Int), 2)) else
(X70 x1).bind fun u10 => if ((!u10) = true) then (some (([] : List Int), 1)) else
(Xad x1).bind fun u18 => (X9k x0 u18).bind fun u22 => some (u22.1, u22.2)
def X71 (rec10 : (List Bool) → Option (Bool × (List (List Int)) × (List Bool))) (rec11 : (List (List Int)) → (List (List Int)) → (List Int) → Int → Int → (List Bool) → Option (Bool × (List (List Int)) × (List Bool))) (z12 : List (List Int)) (z13 : List Int) (z14 : Int) (z15 : Int) (z16 : Int) (z17 : List (List Int)) (rec18 : (List Bool) → Option (Bool × (List (List Int)) × (List Bool))) (x20 : Int) (i18 : Nat) (v21 : List Bool) : Option (Bool × (List (List Int)) × (List Bool)) :=
  (rec11 z12 z17 z13 z14 x20 v21).bind fun u22 => if (u22.1 = true) then ((lidx u22.2.1 z16).bind fun u23 => (lidx u23 (i18 : Int)).bind fun u24 => (lupd u23 (i18 : Int) z15).bind fun u25 => (lupd u22.2.1 z16 u25).bind fun u26 => some (true, u26, u22.2.2)) else
 rec18 u22.2.2
def X2c (rec10 : (List Bool) → Option (Bool × (List (List Int)) × (List Bool))) (rec11 : (List (List Int)) → (List (List Int)) → (List Int) → Int → Int → (List Bool) → Option (Bool × (List (List Int)) × (List Bool))) (z12 : List (List Int)) (z13 : List Int) (z14 : Int) (z15 : Int) (z16 : Int) (z17 : List (List Int)) : (List Int) → Nat → (List Bool) → Option (Bool × (List (List Int)) × (List Bool))
  | [], i18, v20 => rec10 v20
  | x21 :: xs, i18, v20 => X71 rec10 rec11 z12 z13 z14 z15 z16 z17 (X2c rec10 rec11 z12 z13 z14 z15 z16 z17 xs (i18 + 1)) x21 i18 v20
def X72 (rec10 : (List (List Int)) → (List (List Int)) → (List Int) → Int → Int → (List Bool) → Option (Bool × (List (List Int)) × (List Bool))) (z11 : List (List Int)) (z12 : List Int) (z13 : Int) (z14 : Int) (z15 : List (List Int)) (rec16 : (List Bool) → Option (Bool × (List (List Int)) × (List Bool))) (x17 : Int) (v18 : List Bool) : Option (Bool × (List (List Int)) × (List Bool)) :=
  (lidx v18 x17).bind fun u20 => if (u20 = true) then (rec16 v18) else
(lidx v18 x17).bind fun u21 => (lupd v18 x17 true).bind fun u22 => (lidx z12 x17).bind fun u23 => (lidx z15 x17).bind fun u24 => if ((w64 ((u24.length : Int) + u23)) < z13) then ((lidx z15 x17).bind fun u25 => (lapp u25 ([z14] : List Int)).bind fun u26 => (lidx z15 x17).bind fun u27 => (lupd z15 x17 u26).bind fun u28 => some (true, u28, u22)) else
(lidx z15 x17).bind fun u29 => X2c rec16 rec10 z11 z12 z13 z14 x17 z15 u29 0 u22
def X1n (rec10 : (List (List Int)) → (List (List Int)) → (List Int) → Int → Int → (List Bool) → Option (Bool × (List (List Int)) × (List Bool))) (z11 : List (List Int)) (z12 : List Int) (z13 : Int) (z14 : Int) (z15 : List (List Int)) : (List Int) → (List Bool) → Option (Bool × (List (List Int)) × (List Bool))
  | [], v16 => some (false, z15, v16)
  | x17 :: xs, v16 => X72 rec10 z11 z12 z13 z14 z15 (X1n rec10 z11 z12 z13 z14 z15 xs) x17 v16
def X8i (rec10 : (List (List Int)) → (List (List Int)) → (List Int) → Int → Int → (List Bool) → Option (Bool × (List (List Int)) × (List Bool))) (x0 : (List (List Int))) (x1 : (List (List Int))) (x2 : (List Int)) (x3 : Int) (x4 : Int) (x5 : (List Bool)) : Option (Bool × (List (List Int)) × (List Bool)) :=
  (lidx x0 x4).bind fun u4 => X1n rec10 x0 x2 x3 x4 x1 u4 x5
def Xb : Nat → (List (List Int)) → (List (List Int)) → (List Int) → Int → Int → (List Bool) → Option (Bool × (List (List Int)) × (List Bool))
  | 0, _, _, _, _, _, _ => none
  | n + 1, x0, x1, x2, x3, x4, x5 => X8i (Xb n) x0 x1 x2 x3 x4 x5
def X9l (x0 : (List (List Int))) (x1 : (List (List Int))) (x2 : (List Int)) (x3 : Int) (x4 : Int) (x5 : (List Bool)) : Option (Bool × (List (List Int)) × (List Bool)) := Xb big x0 x1 x2 x3 x4 x5
def X4w (z57 : List (List Int)) (z58 : Int) (z59 : Int) (z60 : List Int) (rec44 : (List (List Int)) → Option Bool) (x63 : (List Int)) (i44 : Nat) (v48 : List (List Int)) : Option Bool :=
  (lmk z58 false).bind fun u65 => (X9l z57 v48 z60 z59 (i44 : Int) u65).bind fun u75 => if (u75.1 = true) then (rec44 u75.2.1) else
 some false
def X1q (z57 : List (List Int)) (z58 : Int) (z59 : Int) (z60 : List Int) : (List (List Int)) → Nat → (List (List Int)) → Option Bool
  | [], i44, v48 => some true
  | x63 :: xs, i44, v48 => X4w z57 z58 z59 z60 (X1q z57 z58 z59 z60 xs (i44 + 1)) x63 i44 v48
def X3g (x0 : (List (List Int))) (x1 : Int) (x2 : Int) (x3 : (List Int)) : Option Bool :=
  (lmk x1 ([] : List Int)).bind fun u1 => X1q x0 x1 x2 x3 x0 0 u1
def X5u (rec10 : (List Int) → (List Int) → Option ((List Int) × Bool)) (z11 : Int) (z12 : List (List Int)) (z13 : Int) (z14 : Int) (z15 : List Int) (rec16 : (List Int) → Option ((List Int) × Bool)) (x17 : Int) (v18 : List Int) : Option ((List Int) × Bool) :=
  (lidx v18 x17).bind fun u20 => if (u20 = z14) then (rec16 v18) else
(lidx v18 x17).bind fun u21 => (lidx v18 x17).bind fun u22 => (lupd v18 x17 (w64 (u21 + 1))).bind fun u23 => (lsub z12 (w64 (z11 + 1)) (z12.length : Int)).bind fun u24 => (X3g u24 z13 z14 u23).bind fun u25 => if (u25 = true) then ((lapp z15 ([x17] : List Int)).bind fun u26 => rec10 u26 u23) else
(lidx u23 x17).bind fun u27 => (lidx u23 x17).bind fun u28 => (lupd u23 x17 (w64 (u27 - 1))).bind fun u29 => rec16 u29
def Xx (rec10 : (List Int) → (List Int) → Option ((List Int) × Bool)) (z11 : Int) (z12 : List (List Int)) (z13 : Int) (z14 : Int) (z15 : List Int) : (List Int) → (List Int) → Option ((List Int) × Bool)
  | [], v16 => rec10 z15 v16
  | x17 :: xs, v16 => X5u rec10 z11 z12 z13 z14 z15 (Xx rec10 z11 z12 z13 z14 z15 xs) x17 v16
def X73 (z10 : List (List Int)) (z11 : Int) (z12 : Int) (rec13 : (List Int) → (List Int) → Option ((List Int) × Bool)) (x14 : (List Int)) (i13 : Nat) (v15 : List Int) (v16 : List Int) : Option ((List Int) × Bool) :=
  Xx rec13 (i13 : Int) z10 z11 z12 v15 x14 v16
def X14 (z10 : List (List Int)) (z11 : Int) (z12 : Int) : (List (List Int)) → Nat → (List Int) → (List Int) → Option ((List Int) × Bool)
  | [], i13, v14, v15 => some (v14, true)
  | x16 :: xs, i13, v14, v15 => X73 z10 z11 z12 (X14 z10 z11 z12 xs (i13 + 1)) x16 i13 v14 v15
def X6c (x0 : (List (List Int))) (x1 : Int) (x2 : Int) : Option ((List Int) × Bool) :=
  (lmk x1 0).bind fun u1 => (X3g x0 x1 x2 u1).bind fun u7 => if ((!u7) = true) then (some (([] : List Int), false)) else
 X14 x0 x1 x2 x0 0 ([] : List Int) u1
def X3h (z10 : List (Int × Int)) (v11 : Int) (v12 : Int) (v13 : List (List (ByteArray × Int))) (v14 : Int) (v15 : Int) (v16 : Int) : Option (((Int × (List (Int × Int))) × Int × (List (List (ByteArray × Int)))) × Int) :=
  some (((v11, z10), v12, v13), 0)
def X4g (kx10 : Int → Int → (List (List (ByteArray × Int))) → Int → Int → Int → Option (((Int × (List (Int × Int))) × Int × (List (List (ByteArray × Int)))) × Int)) (z11 : List (ByteArray × Int)) (z12 : Int) (z13 : Int) (z14 : Int) (z15 : Int) (z16 : Int) (rec17 : (List (List (ByteArray × Int))) → Option (((Int × (List (Int × Int))) × Int × (List (List (ByteArray × Int)))) × Int)) (x18 : Int) (i17 : Nat) (v19 : List (List (ByteArray × Int))) : Option (((Int × (List (Int × Int))) × Int × (List (List (ByteArray × Int)))) × Int) :=
  (lidx z11 (i17 : Int)).bind fun u21 => (lidx v19 x18).bind fun u22 => (lapp u22 ([u21] : List (ByteArray × Int))).bind fun u23 => (lidx v19 x18).bind fun u24 => (lupd v19 x18 u23).bind fun u25 => rec17 u25
def X2r (kx10 : Int → Int → (List (List (ByteArray × Int))) → Int → Int → Int → Option (((Int × (List (Int × Int))) × Int × (List (List (ByteArray × Int)))) × Int)) (z11 : List (ByteArray × Int)) (z12 : Int) (z13 : Int) (z14 : Int) (z15 : Int) (z16 : Int) : (List Int) → Nat → (List (List (ByteArray × Int))) → Option (((Int × (List (Int × Int))) × Int × (List (List (ByteArray × Int)))) × Int)
  | [], i17, v18 => kx10 z12 z13 v18 z14 z15 z16
  | x19 :: xs, i17, v18 => X4g kx10 z11 z12 z13 z14 z15 z16 (X2r kx10 z11 z12 z13 z14 z15 z16 xs (i17 + 1)) x19 i17 v18
def X74 (z10 : Int) (z11 : Int) (z12 : Int) (z13 : List Int) (z14 : List (ByteArray × Int)) (v15 : Int) (v16 : List (Int × Int)) (v17 : Int) (v18 : List (List (ByteArray × Int))) : Option (((Int × (List (Int × Int))) × Int × (List (List (ByteArray × Int)))) × Int) :=
  X2r (X3h v16) z14 v15 v17 z10 z11 z12 z13 0 v18
def X3i (z10 : Int) (z11 : List (Int × Int)) (z12 : List (ByteArray × Int)) (v13 : List (List Int)) (v14 : Int) (v15 : Int) (v16 : Int) : Option (((Int × (List (Int × Int))) × Int × (List (List (ByteArray × Int)))) × Int) :=
  (X6c v13 v16 z10).bind fun u17 => if ((!u17.2) = true) then (some (((0, ([] : List (Int × Int))), 0, ([] : List (List (ByteArray × Int)))), 15)) else
(lapp ([] : List (Int × Int)) z11).bind fun u18 => (lmk v16 ([] : List (ByteArray × Int))).bind fun u21 => (X74 v14 v15 v16 u17.1 z12) v16 u18 z10 u21
def X75 (kx10 : (List (List Int)) → Int → Int → Int → Option (((Int × (List (Int × Int))) × Int × (List (List (ByteArray × Int)))) × Int)) (z11 : Int) (z12 : Int) (z13 : Int) (z14 : List (Int × Int)) (rec15 : (List (List Int)) → Option (((Int × (List (Int × Int))) × Int × (List (List (ByteArray × Int)))) × Int)) (x16 : (ByteArray × Int)) (v17 : List (List Int)) : Option (((Int × (List (Int × Int))) × Int × (List (List (ByteArray × Int)))) × Int) :=
  (X35 (z13, z14) x16.1).bind fun u18 => (lapp v17 ([u18.1] : List (List Int))).bind fun u19 => rec15 u19
def X3j (kx10 : (List (List Int)) → Int → Int → Int → Option (((Int × (List (Int × Int))) × Int × (List (List (ByteArray × Int)))) × Int)) (z11 : Int) (z12 : Int) (z13 : Int) (z14 : List (Int × Int)) : (List (ByteArray × Int)) → (List (List Int)) → Option (((Int × (List (Int × Int))) × Int × (List (List (ByteArray × Int)))) × Int)
  | [], v15 => kx10 v15 z11 z12 z13
  | x16 :: xs, v15 => X75 kx10 z11 z12 z13 z14 (X3j kx10 z11 z12 z13 z14 xs) x16 v15
def Xc (z10 : Int) (z11 : List (Int × Int)) (v12 : List (ByteArray × Int)) (v13 : Int) (v14 : Int) (v15 : Int) : Option (((Int × (List (Int × Int))) × Int × (List (List (ByteArray × Int)))) × Int) :=
  X3j (X3i z10 z11 v12) v13 v14 v15 z11 v12 ([] : List (List Int))
def X8j (rec10 : (List (ByteArray × Int)) → Int → Int → Int → Option (((Int × (List (Int × Int))) × Int × (List (List (ByteArray × Int)))) × Int)) (z11 : Int) (z12 : ByteArray) (z13 : Int) (z14 : Int) (z15 : Int) (z16 : Int) (v17 : List (ByteArray × Int)) : Option (((Int × (List (Int × Int))) × Int × (List (List (ByteArray × Int)))) × Int) :=
  (lidx v17 z11).bind fun u18 => (lupd v17 z11 (z12, z13)).bind fun u19 => rec10 u19 z14 z15 z16
def X4h (rec10 : (List (ByteArray × Int)) → Int → Int → Int → Option (((Int × (List (Int × Int))) × Int × (List (List (ByteArray × Int)))) × Int)) (z11 : List (ByteArray × Int)) (v12 : Int) (v13 : ByteArray) (v14 : Int) (v15 : Int) (v16 : Int) (v17 : Int) : Option (((Int × (List (Int × Int))) × Int × (List (List (ByteArray × Int)))) × Int) :=
  (lapp z11 ([(ByteArray.empty, 0)] : List (ByteArray × Int))).bind fun u18 => (psub 0 (u18.length : Int) (w64 (v12 + 1)) ((u18.length : Int) - 0)).bind fun u19 => (psub 0 (u18.length : Int) v12 ((u18.length : Int) - 0)).bind fun u21 => (lsub u18 u19.1 u19.2).bind fun u22 => (lsub u18 u21.1 u21.2).bind fun u23 => (X8j rec10 v12 v13 v14 v15 v16 v17) (lcpy u18 u19.1 u22.length u23)
def X8k (kx10 : Int → ByteArray → Int → Int → Int → Int → Option (((Int × (List (Int × Int))) × Int × (List (List (ByteArray × Int)))) × Int)) (z11 : ByteArray) (z12 : Int) (z13 : Int) (z14 : Int) (z15 : Int) (z16 : List (ByteArray × Int)) (rec17 : Int → Option (((Int × (List (Int × Int))) × Int × (List (List (ByteArray × Int)))) × Int)) (v18 : Int) : Option (((Int × (List (Int × Int))) × Int × (List (List (ByteArray × Int)))) × Int) :=
  (if (0 < v18) then ((lidx z16 (w64 (v18 - 1))).bind fun u19 => some (decide (sLt z11 u19.1))) else some false).bind fun u21 => if (u21 = true) then (rec17 (w64 (v18 - 1))) else
 kx10 v18 z11 z12 z13 z14 z15
def X76 (kx10 : Int → ByteArray → Int → Int → Int → Int → Option (((Int × (List (Int × Int))) × Int × (List (List (ByteArray × Int)))) × Int)) (z11 : ByteArray) (z12 : Int) (z13 : Int) (z14 : Int) (z15 : Int) (z16 : List (ByteArray × Int)) : Nat → Int → Option (((Int × (List (Int × Int))) × Int × (List (List (ByteArray × Int)))) × Int)
  | 0, _ => none
  | n + 1, v17 => X8k kx10 z11 z12 z13 z14 z15 z16 (X76 kx10 z11 z12 z13 z14 z15 z16 n) v17
def X2w (rec11 : (List (ByteArray × Int)) → Int → Int → Int → Option (((Int × (List (Int × Int))) × Int × (List (List (ByteArray × Int)))) × Int)) (z12 : List (ByteArray × Int)) (v13 : ByteArray) (v14 : Int) (v15 : Int) (v16 : Int) (v17 : Int) : Option (((Int × (List (Int × Int))) × Int × (List (List (ByteArray × Int)))) × Int) :=
  X76 (X4h rec11 z12) v13 v14 v15 v16 v17 z12 big (z12.length : Int)
def X6d (kx10 : ByteArray → Int → Int → Int → Int → Option (((Int × (List (Int × Int))) × Int × (List (List (ByteArray × Int)))) × Int)) (z12 : ByteArray) (z13 : Int) (z14 : Int) (z15 : Int) (z16 : Int) (rec17 : Option (((Int × (List (Int × Int))) × Int × (List (List (ByteArray × Int)))) × Int)) (x18 : (ByteArray × Int)) : Option (((Int × (List (Int × Int))) × Int × (List (List (ByteArray × Int)))) × Int) :=
  if (x18.1 = z12) then (some (((0, ([] : List (Int × Int))), 0, ([] : List (List (ByteArray × Int)))), 7)) else
 rec17
def X3u (kx10 : ByteArray → Int → Int → Int → Int → Option (((Int × (List (Int × Int))) × Int × (List (List (ByteArray × Int)))) × Int)) (z12 : ByteArray) (z13 : Int) (z14 : Int) (z15 : Int) (z16 : Int) : (List (ByteArray × Int)) → Option (((Int × (List (Int × Int))) × Int × (List (List (ByteArray × Int)))) × Int)
  | [] => kx10 z12 z13 z14 z15 z16
  | x17 :: xs => X6d kx10 z12 z13 z14 z15 z16 (X3u kx10 z12 z13 z14 z15 z16 xs) x17
def X6e (kx13 : (List (ByteArray × Int)) → Int → Int → Int → Option (((Int × (List (Int × Int))) × Int × (List (List (ByteArray × Int)))) × Int)) (z14 : List (ByteArray × Int)) (rec15 : (List (ByteArray × Int)) → Int → Int → Int → Option (((Int × (List (Int × Int))) × Int × (List (List (ByteArray × Int)))) × Int)) (x16 : (ByteArray × Int)) (i15 : Nat) (v17 : List (ByteArray × Int)) (v18 : Int) (v19 : Int) (v21 : Int) : Option (((Int × (List (Int × Int))) × Int × (List (List (ByteArray × Int)))) × Int) :=
  (X6a x16).bind fun u22 => if ((!u22) = true) then (some (((0, ([] : List (Int × Int))), 0, ([] : List (List (ByteArray × Int)))), 1)) else
(lsub z14 0 (i15 : Int)).bind fun u23 => X3u (X2w rec15 v17) x16.1 x16.2 v18 v19 v21 u23
def Xg (kx10 : (List (ByteArray × Int)) → Int → Int → Int → Option (((Int × (List (Int × Int))) × Int × (List (List (ByteArray × Int)))) × Int)) (z11 : List (ByteArray × Int)) : (List (ByteArray × Int)) → Nat → (List (ByteArray × Int)) → Int → Int → Int → Option (((Int × (List (Int × Int))) × Int × (List (List (ByteArray × Int)))) × Int)
  | [], i13, v14, v15, v16, v17 => kx10 v14 v15 v16 v17
  | x18 :: xs, i13, v14, v15, v16, v17 => X6e kx10 z11 (Xg kx10 z11 xs (i13 + 1)) x18 i13 v14 v15 v16 v17
def X3v (x0 : (Int × (List (Int × Int)))) (x1 : Int) (x2 : (List (ByteArray × Int))) : Option (((Int × (List (Int × Int))) × Int × (List (List (ByteArray × Int)))) × Int) :=
  (X69 x0).bind fun u3 => if (u3 ≠ 0) then (some (((0, ([] : List (Int × Int))), 0, ([] : List (List (ByteArray × Int)))), 2)) else
 if ((x1 < 1) ∨ (8 < x1)) then (some (((0, ([] : List (Int × Int))), 0, ([] : List (List (ByteArray × Int)))), 1)) else
 if (256 < (x2.length : Int)) then (some (((0, ([] : List (Int × Int))), 0, ([] : List (List (ByteArray × Int)))), 4)) else
 Xg (Xc x1 x0.2) x2 x2 0 ([] : List (ByteArray × Int)) 0 0 x0.1
def Xap (x0 : Int) : Option Bool :=
  some (decide ((2 ≤ x0) ∧ (x0 ≤ 8)))
def X7k (x0 : ByteArray) : Option Bool :=
  some (decide ((1 ≤ (x0.size : Int)) ∧ ((x0.size : Int) ≤ 32)))
def X4x (z71 : List ByteArray) (rec65 : Option Bool) (x74 : ByteArray) (i65 : Nat) : Option Bool :=
  (X7k x74).bind fun u79 => (if ((!u79) = true) then (some true) else (if (0 < (i65 : Int)) then ((lidx z71 (w64 ((i65 : Int) - 1))).bind fun u10 => some (decide (¬ sLt u10 x74))) else some false).bind fun u11 => some u11).bind fun u12 => if (u12 = true) then (some false) else
 rec65
def X2f (z71 : List ByteArray) : (List ByteArray) → Nat → Option Bool
  | [], i65 => some true
  | x74 :: xs, i65 => X4x z71 (X2f z71 xs (i65 + 1)) x74 i65
def X6f (x0 : (List ByteArray)) : Option Bool :=
  X2f x0 x0 0
def X8c (x0 : (Int × (List ByteArray))) : Option Int :=
  (Xap x0.1).bind fun u2 => (if ((((!u2) = true) ∨ ((x0.2.length : Int) < 1)) ∨ (256 < (x0.2.length : Int))) then (some true) else (X6f x0.2).bind fun u30 => some (!u30)).bind fun u20 => if (u20 = true) then (some 2) else
 some 0
def X2m (x0 : (List ByteArray)) : Option (List ByteArray) :=
  (lapp ([] : List ByteArray) x0).bind fun u11 => some u11
def Xy (z33 : List ByteArray) (z34 : Int) (rec25 : Int → Option (List (List ByteArray))) (v30 : Int) : Option (List (List ByteArray)) :=
  if (v30 < (z33.length : Int)) then ((lsub z33 v30 (z33.length : Int)).bind fun u39 => (lsub3 z33 v30 (w64 (v30 + (min z34 (u39.length : Int)))) (w64 (v30 + (min z34 (u39.length : Int))))).bind fun u45 => yc u45 <| rec25 (w64 (v30 + z34))) else
 some []
def Xn (z33 : List ByteArray) (z34 : Int) : Nat → Int → Option (List (List ByteArray))
  | 0, _ => none
  | n + 1, v30 => Xy z33 z34 (Xn z33 z34 n) v30
def X22 (x1 : (List ByteArray)) (x2 : Int) : Option ((List (List ByteArray))) :=
  Xn x1 x2 big 0
def X23 (z9 : Int) (z10 : List ByteArray) : Option (List (List ByteArray)) :=
  (X22 z10 z9).bind fun u21 => some u21
def X1t (x0 : (List ByteArray)) (x1 : Int) : Option (List (List ByteArray)) :=
  if (x1 < 1) then (none) else
(X23 x1 x0)
def X3w (rec10 : (List (List ByteArray)) → (List ByteArray) → Option (List (List ByteArray))) (z11 : List (List ByteArray)) (v12 : List ByteArray) : Option (List (List ByteArray)) :=
  (lapp z11 ([v12] : List (List ByteArray))).bind fun u13 => rec10 u13 v12
def X6g (kx10 : (List ByteArray) → Option (List (List ByteArray))) (rec11 : (List ByteArray) → Option (List (List ByteArray))) (x12 : (List ByteArray)) (v13 : List ByteArray) : Option (List (List ByteArray)) :=
  (lidx x12 0).bind fun u14 => (lapp v13 ([u14] : List ByteArray)).bind fun u15 => rec11 u15
def X2x (kx10 : (List ByteArray) → Option (List (List ByteArray))) : List (List ByteArray) → (List ByteArray) → Option (List (List ByteArray))
  | [], v11 => kx10 v11
  | x12 :: xs, v11 => X6g kx10 (X2x kx10 xs) x12 v11
def X6h (z10 : Int) (rec11 : (List (List ByteArray)) → (List ByteArray) → Option (List (List ByteArray))) (v12 : List (List ByteArray)) (v13 : List ByteArray) : Option (List (List ByteArray)) :=
  if (z10 < (v13.length : Int)) then ((X1t v13 z10).bind fun u14 => X2x (X3w rec11 v12) u14 ([] : List ByteArray)) else
 some v12
def X1z (z10 : Int) : Nat → (List (List ByteArray)) → (List ByteArray) → Option (List (List ByteArray))
  | 0, _, _ => none
  | n + 1, v11, v12 => X6h z10 (X1z z10 n) v11 v12
def X7l (x0 : (Int × (List ByteArray))) : Option (List (List ByteArray)) :=
  (X2m x0.2).bind fun u2 => X1z x0.1 big ([u2] : List (List ByteArray)) x0.2
def X8x (x0 : (Int × (List ByteArray))) : Option ((List (List ByteArray)) × Int) :=
  (X8c x0).bind fun u2 => if (u2 ≠ 0) then (some (([] : List (List ByteArray)), u2)) else
(X7l x0).bind fun u10 => some (u10, 0)
def X5r (z45 : List (List ByteArray)) (z46 : Int) (rec34 : Int → Int → (List Int) → Option (List Int)) (v35 : Int) (v36 : Int) (v37 : List Int) : Option (List Int) :=
  if (0 ≤ v36) then ((lidx v37 v36).bind fun u51 => (lupd v37 v36 v35).bind fun u56 => (lidx z45 v36).bind fun u61 => (nz z46).bind fun _ => rec34 (w64 (v35 + (w64 (Int.tdiv (w64 ((w64 ((u61.length : Int) + z46)) - 1)) z46)))) (w64 (v36 - 1)) u56) else
 some v37
def X36 (z45 : List (List ByteArray)) (z46 : Int) : Nat → Int → Int → (List Int) → Option (List Int)
  | 0, _, _, _ => none
  | n + 1, v35, v36, v37 => X5r z45 z46 (X36 z45 z46 n) v35 v36 v37
def X7v (x0 : (List (List ByteArray))) (x1 : Int) : Option (List Int) :=
  (lmk (x0.length : Int) 0).bind fun u1 => X36 x0 x1 big 0 (w64 ((x0.length : Int) - 1)) u1
def X2s (rec10 : Int → Int → (List Int) → Option (List Int)) (v11 : Int) (v12 : Int) (v13 : List Int) : Option (List Int) :=
  if (v11 < v12) then ((lidx v13 v12).bind fun u14 => (lidx v13 v11).bind fun u15 => (lidx v13 v11).bind fun u16 => (lupd v13 v11 u14).bind fun u17 => (lidx u17 v12).bind fun u18 => (lupd u17 v12 u15).bind fun u19 => rec10 (w64 (v11 + 1)) (w64 (v12 - 1)) u19) else
 some v13
def X1c : Nat → Int → Int → (List Int) → Option (List Int)
  | 0, _, _, _ => none
  | n + 1, v10, v11, v12 => X2s (X1c n) v10 v11 v12
def X2n (x0 : (List Int)) : Option (List Int) :=
  X1c big 0 (w64 ((x0.length : Int) - 1)) x0
def X3x (x0 : (Int × (List ByteArray))) : Option ((List Int) × Int) :=
  (X8x x0).bind fun u2 => if (u2.2 ≠ 0) then (some (([] : List Int), u2.2)) else
(X7v u2.1 x0.1).bind fun u24 => (X2n u24).bind fun u37 => some (u37, 0)
def Xbm : Option Bool :=
  (X3v (4, ([(1, 0), (3, 0)] : List (Int × Int))) 1 ([(⟨#[97, 110, 116]⟩, 7)] : List (ByteArray × Int))).bind fun u18 => (X68 2 257 u18.1).bind fun u33 => (X5b (4, ([(1, 0), (3, 0)] : List (Int × Int))) ⟨#[97, 110, 116]⟩).bind fun u45 => (X3x (3, ([⟨#[97]⟩, ⟨#[98]⟩, ⟨#[99]⟩, ⟨#[100]⟩] : List ByteArray))).bind fun u62 => (X46 1).bind fun u71 => (if ((((((((u71 = 37) ∧ (u33.2 = 0)) ∧ ((u33.1.2.2.2.length : Int) = 4)) ∧ (u33.1.2.2.1 = 37)) ∧ (u45.2 = 0)) ∧ ((u45.1.length : Int) = 2)) ∧ (u62.2 = 0)) ∧ ((u62.1.length : Int) = 2)) then ((lidx u62.1 1).bind fun u10 => some (decide (u10 = 1))) else some false).bind fun u11 => some u11
def X9m (v11 : List Int) : Option ((List Int) × Int) :=
  some (v11, 0)
def Xcb (x0 : (List Int)) : Option ((List Int) × Int) :=
  if (300 < (x0.length : Int)) then ((lsub x0 0 300).bind fun u21 => X9m u21) else
 X9m x0
def Xp (x0 : ((List Int) × Int)) (x1 : Int) : Option (Int × ((List Int) × Int)) :=
  if ((x0.1.length : Int) ≤ x0.2) then (some (0, x0)) else
(lidx x0.1 (w64 ((w64 (x0.2 + 1)) - 1))).bind fun u4 => (nz x1).bind fun _ => some ((Int.tmod (w64 u4) x1), (x0.1, (w64 (x0.2 + 1))))
def X62 (z10 : List Int) (z11 : Int) (v12 : List (ByteArray × Int)) (v13 : Int) (v14 : List (Int × Int)) (v15 : Int) (v16 : List (List (ByteArray × Int))) : Option (((Int × (List (Int × Int))) × Int × (List (List (ByteArray × Int)))) × (List (ByteArray × Int)) × ((List Int) × Int)) :=
  some (((v13, v14), v15, v16), v12, (z10, z11))
def Xw (v10 : List (ByteArray × Int)) (v11 : Int) (v12 : Int) (v13 : List Int) (v14 : Int) : Option (((Int × (List (Int × Int))) × Int × (List (List (ByteArray × Int)))) × (List (ByteArray × Int)) × ((List Int) × Int)) :=
  (Xp (v13, v14) 4).bind fun u15 => (Xp u15.2 9).bind fun u16 => (Xp u16.2 9).bind fun u17 => (Xp u17.2 9).bind fun u18 => (Xp u18.2 9).bind fun u19 => (Xp u19.2 9).bind fun u21 => (X3v ((w64 (5 + u15.1)), ([((w64 (1 + u16.1)), u17.1), ((w64 (11 + u18.1)), u19.1), (31, u21.1)] : List (Int × Int))) 1 v10).bind fun u22 => if (u22.2 ≠ 0) then ((X3v ((w64 (5 + u15.1)), ([((w64 (1 + u16.1)), u17.1), ((w64 (11 + u18.1)), u19.1), (31, u21.1)] : List (Int × Int))) 1 ([] : List (ByteArray × Int))).bind fun u23 => (X62 u21.2.1 u21.2.2) ([] : List (ByteArray × Int)) u23.1.1.1 u23.1.1.2 u23.1.2.1 u23.1.2.2) else
(X62 u21.2.1 u21.2.2) v10 u22.1.1.1 u22.1.1.2 u22.1.2.1 u22.1.2.2
def X47 (kx10 : (List (ByteArray × Int)) → Int → Int → (List Int) → Int → Option (((Int × (List (Int × Int))) × Int × (List (List (ByteArray × Int)))) × (List (ByteArray × Int)) × ((List Int) × Int))) (rec11 : (List (ByteArray × Int)) → (List Int) → Int → Option (((Int × (List (Int × Int))) × Int × (List (List (ByteArray × Int)))) × (List (ByteArray × Int)) × ((List Int) × Int))) (x12 : ByteArray) (i11 : Nat) (v13 : List (ByteArray × Int)) (v14 : List Int) (v15 : Int) : Option (((Int × (List (Int × Int))) × Int × (List (List (ByteArray × Int)))) × (List (ByteArray × Int)) × ((List Int) × Int)) :=
  (Xp (v14, v15) 2).bind fun u16 => if ((u16.1 = 0) ∧ ((v13.length : Int) < 3)) then ((Xp u16.2 90).bind fun u17 => (lapp v13 ([(x12, (w64 ((w64 ((i11 : Int) * 100)) + u17.1)))] : List (ByteArray × Int))).bind fun u18 => rec11 u18 u17.2.1 u17.2.2) else
 rec11 v13 u16.2.1 u16.2.2
def X2g (kx10 : (List (ByteArray × Int)) → Int → Int → (List Int) → Int → Option (((Int × (List (Int × Int))) × Int × (List (List (ByteArray × Int)))) × (List (ByteArray × Int)) × ((List Int) × Int))) : (List ByteArray) → Nat → (List (ByteArray × Int)) → (List Int) → Int → Option (((Int × (List (Int × Int))) × Int × (List (List (ByteArray × Int)))) × (List (ByteArray × Int)) × ((List Int) × Int))
  | [], i11, v12, v13, v14 => kx10 v12 0 0 v13 v14
  | x15 :: xs, i11, v12, v13, v14 => X47 kx10 (X2g kx10 xs (i11 + 1)) x15 i11 v12 v13 v14
def X7w (x0 : ((List Int) × Int)) : Option (((Int × (List (Int × Int))) × Int × (List (List (ByteArray × Int)))) × (List (ByteArray × Int)) × ((List Int) × Int)) :=
  X2g Xw ([⟨#[97, 110, 116]⟩, ⟨#[98, 101, 101]⟩, ⟨#[99, 97, 116]⟩, ⟨#[100, 111, 103]⟩, ⟨#[101, 101, 108]⟩, ⟨#[102, 111, 120]⟩] : List ByteArray) 0 ([] : List (ByteArray × Int)) x0.1 x0.2
def X4y (x0 : Int) : Option Bool :=
  some (decide ((x0 < 0) ∨ (256 ≤ x0)))
def X28 (v64 : List Int) : Option (ByteArray × Bool) :=
  some ((ofB v64), true)
def X6u (kx70 : (List Int) → Option (ByteArray × Bool)) (rec98 : (List Int) → Option (ByteArray × Bool)) (x10 : Int) (i98 : Nat) (v11 : List Int) : Option (ByteArray × Bool) :=
  (lidx v11 (i98 : Int)).bind fun u12 => (lupd v11 (i98 : Int) (wu8 x10)).bind fun u13 => rec98 u13
def X29 (kx70 : (List Int) → Option (ByteArray × Bool)) : (List Int) → Nat → (List Int) → Option (ByteArray × Bool)
  | [], i98, v10 => kx70 v10
  | x11 :: xs, i98, v10 => X6u kx70 (X29 kx70 xs (i98 + 1)) x11 i98 v10
def X77 (x0 : (List Int)) : Option (ByteArray × Bool) :=
  (X12 x0 X4y).bind fun u1 => if (u1 = true) then (some (ByteArray.empty, false)) else
(lmk (x0.length : Int) 0).bind fun u8 => X29 X28 x0 0 u8
def Xq (z10 : Int) (z11 : ByteArray) (v12 : List (ByteArray × Int)) : Option ((List (ByteArray × Int)) × Int) :=
  (X2q z10 v12).bind fun u13 => if ((u13.2 ≠ 0) ∨ (u13.1 ≠ z11)) then (some (([] : List (ByteArray × Int)), 2)) else
 some (v12, 0)
def X2a (rec10 : (List (ByteArray × Int)) → Int → Option ((List (ByteArray × Int)) × Int)) (z11 : Int) (z12 : List (ByteArray × Int)) (v13 : ByteArray) (v14 : Int) : Option ((List (ByteArray × Int)) × Int) :=
  (lapp z12 ([(v13, v14)] : List (ByteArray × Int))).bind fun u15 => rec10 u15 (w64 (z11 + 1))
def X4z (kx10 : ByteArray → Int → Option ((List (ByteArray × Int)) × Int)) (z11 : ByteArray) (z12 : ByteArray) (rec13 : Int → Int → Option ((List (ByteArray × Int)) × Int)) (v14 : Int) (v15 : Int) : Option ((List (ByteArray × Int)) × Int) :=
  if (0 ≤ v14) then ((sidx z11 (w64 (33 + v14))).bind fun u16 => rec13 (w64 (v14 - 1)) (orI .i64 (shlI .i64 v15 8) (w64 u16))) else
 kx10 z12 v15
def X1r (kx10 : ByteArray → Int → Option ((List (ByteArray × Int)) × Int)) (z11 : ByteArray) (z12 : ByteArray) : Nat → Int → Int → Option ((List (ByteArray × Int)) × Int)
  | 0, _, _ => none
  | n + 1, v13, v14 => X4z kx10 z11 z12 (X1r kx10 z11 z12 n) v13 v14
def X50 (kx10 : (List (ByteArray × Int)) → Option ((List (ByteArray × Int)) × Int)) (z11 : Int) (z12 : ByteArray) (rec13 : (List (ByteArray × Int)) → Int → Option ((List (ByteArray × Int)) × Int)) (v14 : List (ByteArray × Int)) (v15 : Int) : Option ((List (ByteArray × Int)) × Int) :=
  if (v15 < z11) then ((ssub z12 (w64 (v15 * 37)) (w64 ((w64 (v15 + 1)) * 37))).bind fun u16 => (sidx u16 0).bind fun u17 => if ((w64 u17) = 0) then (kx10 v14) else
 if (32 < (w64 u17)) then (some (([] : List (ByteArray × Int)), 2)) else
(ssub u16 1 (w64 (1 + (w64 u17)))).bind fun u18 => X1r (X2a rec13 v15 v14) u16 u18 big 3 0) else
 kx10 v14
def Xu (kx10 : (List (ByteArray × Int)) → Option ((List (ByteArray × Int)) × Int)) (z11 : Int) (z12 : ByteArray) : Nat → (List (ByteArray × Int)) → Int → Option ((List (ByteArray × Int)) × Int)
  | 0, _, _ => none
  | n + 1, v13, v14 => X50 kx10 z11 z12 (Xu kx10 z11 z12 n) v13 v14
def X78 (x0 : Int) (x1 : ByteArray) : Option ((List (ByteArray × Int)) × Int) :=
  (X1y x0).bind fun u1 => if ((!u1) = true) then (some (([] : List (ByteArray × Int)), 1)) else
 if ((x1.size : Int) ≠ (w64 (x0 * 37))) then (some (([] : List (ByteArray × Int)), 2)) else
 Xu (Xq x0 x1) x0 x1 big ([] : List (ByteArray × Int)) 0
def X6i (rec56 : Option (Int × Bool × Int)) (z95 : ByteArray) (rec88 : Option (Int × Bool × Int)) (x10 : (ByteArray × Int)) : Option (Int × Bool × Int) :=
  if (x10.1 = z95) then (some (x10.2, true, 0)) else
 rec88
def X3y (rec56 : Option (Int × Bool × Int)) (z95 : ByteArray) : (List (ByteArray × Int)) → Option (Int × Bool × Int)
  | [] => rec56
  | x10 :: xs => X6i rec56 z95 (X3y rec56 z95 xs) x10
def X9n (z62 : ByteArray) (rec56 : Option (Int × Bool × Int)) (x66 : (List (ByteArray × Int))) : Option (Int × Bool × Int) :=
  X3y rec56 z62 x66
def X2y (z62 : ByteArray) : (List (List (ByteArray × Int))) → Option (Int × Bool × Int)
  | [] => some (0, false, 0)
  | x66 :: xs => X9n z62 (X2y z62 xs) x66
def X8y (x0 : ByteArray) (x1 : (List (List (ByteArray × Int)))) : Option (Int × Bool × Int) :=
  (X4d x0).bind fun u1 => if ((!u1) = true) then (some (0, false, 1)) else
 X2y x0 x1
def X3k (z10 : ByteArray) (v11 : List (List (ByteArray × Int))) : Option (Int × Bool × Int) :=
  (X8y z10 v11).bind fun u12 => some (u12.1, u12.2.1, u12.2.2)
def X8l (kx10 : (List (List (ByteArray × Int))) → Option (Int × Bool × Int)) (z11 : Int) (rec12 : (List (List (ByteArray × Int))) → Option (Int × Bool × Int)) (x13 : ByteArray) (v14 : List (List (ByteArray × Int))) : Option (Int × Bool × Int) :=
  (X78 z11 x13).bind fun u15 => if (u15.2 ≠ 0) then (some (0, false, u15.2)) else
(lapp v14 ([u15.1] : List (List (ByteArray × Int)))).bind fun u16 => rec12 u16
def X3l (kx10 : (List (List (ByteArray × Int))) → Option (Int × Bool × Int)) (z11 : Int) : (List ByteArray) → (List (List (ByteArray × Int))) → Option (Int × Bool × Int)
  | [], v12 => kx10 v12
  | x13 :: xs, v12 => X8l kx10 z11 (X3l kx10 z11 xs) x13 v12
def X4i (z10 : Int) (z11 : ByteArray) (v12 : List ByteArray) : Option (Int × Bool × Int) :=
  X3l (X3k z11) z10 v12 ([] : List (List (ByteArray × Int)))
def X8m (kx10 : (List ByteArray) → Option (Int × Bool × Int)) (rec11 : (List ByteArray) → Option (Int × Bool × Int)) (x12 : (Int × (List Int) × (List Int))) (i11 : Nat) (v13 : List ByteArray) : Option (Int × Bool × Int) :=
  (X77 x12.2.1).bind fun u14 => if ((!u14.2) = true) then (some (0, false, 2)) else
(lidx v13 (i11 : Int)).bind fun u15 => (lupd v13 (i11 : Int) u14.1).bind fun u16 => rec11 u16
def X3m (kx10 : (List ByteArray) → Option (Int × Bool × Int)) : (List (Int × (List Int) × (List Int))) → Nat → (List ByteArray) → Option (Int × Bool × Int)
  | [], i11, v12 => kx10 v12
  | x13 :: xs, i11, v12 => X8m kx10 (X3m kx10 xs (i11 + 1)) x13 i11 v12
def X4j (z49 : Int) (z50 : ByteArray) (z51 : List (Int × (List Int) × (List Int))) : Option (Int × Bool × Int) :=
  (lmk (z51.length : Int) ByteArray.empty).bind fun u52 => X3m (X4i z49 z50) z51 0 u52
def X8n (kx47 : Option (Int × Bool × Int)) (rec10 : Option (Int × Bool × Int)) (x11 : (Int × (List Int) × (List Int))) : Option (Int × Bool × Int) :=
  if (x11.1 ≠ 0) then (some (0, false, x11.1)) else
 rec10
def X3n (kx47 : Option (Int × Bool × Int)) : (List (Int × (List Int) × (List Int))) → Option (Int × Bool × Int)
  | [] => kx47
  | x10 :: xs => X8n kx47 (X3n kx47 xs) x10
def X9o (x0 : Int) (x1 : ByteArray) (x2 : (List (Int × (List Int) × (List Int)))) : Option (Int × Bool × Int) :=
  X3n (X4j x0 x1 x2) x2
def X3z (x0 : Int) : Option Int :=
  some (w64 (x0 * 37))
def X8z (z20 : Int) (rec14 : Option Bool) (x24 : Int) : Option Bool :=
  if (x24 = z20) then (some true) else
 rec14
def X6j (z20 : Int) : (List Int) → Option Bool
  | [] => some false
  | x24 :: xs => X8z z20 (X6j z20 xs) x24
def X9p (x0 : (List Int)) (x1 : Int) : Option Bool :=
  X6j x1 x0
def X4k (rec10 : (List (ByteArray × Bool)) → Int → Int → Option Int) (z11 : Int) (z12 : List (ByteArray × Int)) (z13 : Int) (z14 : List (Int × Int)) (z15 : Int) (rec16 : (List (ByteArray × Bool)) → Option Int) (x17 : (ByteArray × Int)) (i16 : Nat) (v18 : List (ByteArray × Bool)) : Option Int :=
  (X6a x17).bind fun u19 => (if ((!u19) = true) then (some true) else (if (0 < (i16 : Int)) then ((lidx z12 (w64 ((i16 : Int) - 1))).bind fun u21 => some (decide (¬ sLt u21.1 x17.1))) else some false).bind fun u22 => some u22).bind fun u23 => if ((u23 = true) ∨ (((mget v18 x17.1).getD false) = true)) then (some 2) else
(X35 (z13, z14) x17.1).bind fun u24 => (X9p u24.1 z11).bind fun u25 => if ((!u25) = true) then (some 2) else
 rec16 (mput v18 x17.1 true)
def X20 (rec10 : (List (ByteArray × Bool)) → Int → Int → Option Int) (z11 : Int) (z12 : List (ByteArray × Int)) (z13 : Int) (z14 : List (Int × Int)) (z15 : Int) : (List (ByteArray × Int)) → Nat → (List (ByteArray × Bool)) → Option Int
  | [], i16, v17 => rec10 v17 z13 z15
  | x18 :: xs, i16, v17 => X4k rec10 z11 z12 z13 z14 z15 (X20 rec10 z11 z12 z13 z14 z15 xs (i16 + 1)) x18 i16 v17
def X79 (z10 : List (Int × Int)) (rec11 : (List (ByteArray × Bool)) → Int → Int → Option Int) (x12 : (List (ByteArray × Int))) (i11 : Nat) (v13 : List (ByteArray × Bool)) (v14 : Int) (v15 : Int) : Option Int :=
  if (v15 < (x12.length : Int)) then (some 2) else
 X20 rec11 (i11 : Int) x12 v14 z10 v15 x12 0 v13
def X2d (z10 : List (Int × Int)) : (List (List (ByteArray × Int))) → Nat → (List (ByteArray × Bool)) → Int → Int → Option Int
  | [], i11, v12, v13, v14 => some 0
  | x15 :: xs, i11, v12, v13, v14 => X79 z10 (X2d z10 xs (i11 + 1)) x15 i11 v12 v13 v14
def X9q (x0 : ((Int × (List (Int × Int))) × Int × (List (List (ByteArray × Int))))) : Option Int :=
  (X69 x0.1).bind fun u2 => if ((((u2 ≠ 0) ∨ (x0.2.1 < 1)) ∨ (8 < x0.2.1)) ∨ ((x0.2.2.length : Int) ≠ x0.1.1)) then (some 2) else
 X2d x0.1.2 x0.2.2 0 ([] : List (ByteArray × Bool)) x0.1.1 x0.2.1
def X8o (z25 : Int) (rec21 : Int → Option Int) (v22 : Int) : Option Int :=
  if ((w64 (v22 * v22)) ≤ z25) then ((nz v22).bind fun _ => if ((Int.tmod z25 v22) = 0) then (some 9) else
 rec21 (w64 (v22 + 1))) else
 some 0
def X5v (z25 : Int) : Nat → Int → Option Int
  | 0, _ => none
  | n + 1, v22 => X8o z25 (X5v z25 n) v22
def X4l (x0 : Int) : Option Int :=
  if ((x0 < 2) ∨ (65521 < x0)) then (some 9) else
 X5v x0 big 2
def X7x (z72 : List (ByteArray × Int)) (rec66 : Option Bool) (x75 : (ByteArray × Int)) (i66 : Nat) : Option Bool :=
  (X6a x75).bind fun u81 => (if ((!u81) = true) then (some true) else (if (0 < (i66 : Int)) then ((lidx z72 (w64 ((i66 : Int) - 1))).bind fun u10 => some (decide (¬ sLt u10.1 x75.1))) else some false).bind fun u11 => some u11).bind fun u12 => if (u12 = true) then (some false) else
 rec66
def X40 (z72 : List (ByteArray × Int)) : (List (ByteArray × Int)) → Nat → Option Bool
  | [], i66 => some true
  | x75 :: xs, i66 => X7x z72 (X40 z72 xs (i66 + 1)) x75 i66
def X9z (x0 : (List (ByteArray × Int))) : Option Bool :=
  X40 x0 x0 0
def X21 (z10 : Int) (z11 : List (ByteArray × Int)) (v12 : List Int) : Option (ByteArray × Int) :=
  (lmk (w64 ((w64 (z10 - (z11.length : Int))) * 37)) 0).bind fun u13 => (lapp v12 u13).bind fun u14 => some ((ofB u14), 0)
def X6k (kx10 : (List Int) → Option (ByteArray × Int)) (rec11 : (List Int) → Option (ByteArray × Int)) (x12 : (ByteArray × Int)) (v13 : List Int) : Option (ByteArray × Int) :=
  (lapp v13 ([(wu8 (x12.1.size : Int))] : List Int)).bind fun u14 => (tobs x12.1).bind fun u15 => (lapp u14 u15).bind fun u16 => (lmk (w64 (32 - (x12.1.size : Int))) 0).bind fun u17 => (lapp u16 u17).bind fun u18 => (lapp u18 ([(wu8 x12.2), (wu8 (shrI .i64 x12.2 8)), (wu8 (shrI .i64 x12.2 16)), (wu8 (shrI .i64 x12.2 24))] : List Int)).bind fun u19 => rec11 u19
def X1i (kx10 : (List Int) → Option (ByteArray × Int)) : (List (ByteArray × Int)) → (List Int) → Option (ByteArray × Int)
  | [], v11 => kx10 v11
  | x12 :: xs, v11 => X6k kx10 (X1i kx10 xs) x12 v11
def X2l (x0 : Int) (x1 : (List (ByteArray × Int))) : Option (ByteArray × Int) :=
  if ((x0 < 1) ∨ (8 < x0)) then (some (ByteArray.empty, 1)) else
 if (x0 < (x1.length : Int)) then (some (ByteArray.empty, 4)) else
(X9z x1).bind fun u11 => if ((!u11) = true) then (some (ByteArray.empty, 2)) else
 X1i (X21 x0 x1) x1 ([] : List Int)
def X9r (z35 : Int) (rec27 : Option Bool) (x37 : Int) : Option Bool :=
  if ((x37 < 0) ∨ (z35 ≤ x37)) then (some false) else
 rec27
def X7j (z35 : Int) : (List Int) → Option Bool
  | [] => some true
  | x37 :: xs => X9r z35 (X7j z35 xs) x37
def Xd1 (x0 : Int) (x1 : (List Int)) : Option Bool :=
  (X4l x0).bind fun u2 => if (u2 ≠ 0) then (some false) else
 X7j x0 x1
def X7a (z61 : Int) (z62 : Int) (rec52 : Option Int) (x64 : (List Int)) : Option Int :=
  if ((x64.length : Int) ≠ z62) then (some 2) else
(Xd1 z61 x64).bind fun u75 => if ((!u75) = true) then (some 9) else
 rec52
def X4m (z61 : Int) (z62 : Int) : (List (List Int)) → Option Int
  | [] => some 0
  | x64 :: xs => X7a z61 z62 (X4m z61 z62 xs) x64
def Xaq (x0 : (Int × Int × Int × (List (List Int)))) : Option Int :=
  if ((x0.1 < 1) ∨ (2147483647 ≤ x0.1)) then (some 1) else
(X4l x0.2.1).bind fun u9 => if (u9 ≠ 0) then (some u9) else
 if ((x0.2.2.1 < 1) ∨ (64 < x0.2.2.1)) then (some 1) else
 if (1024 < (x0.2.2.2.length : Int)) then (some 4) else
 X4m x0.2.1 x0.2.2.1 x0.2.2.2
def X7y (rec78 : (List (List Int)) → Option (List (List Int))) (x97 : (List Int)) (v86 : List (List Int)) : Option (List (List Int)) :=
  (lapp ([] : List Int) x97).bind fun u10 => (lapp v86 ([u10] : List (List Int))).bind fun u11 => rec78 u11
def X48 : (List (List Int)) → (List (List Int)) → Option (List (List Int))
  | [], v86 => some v86
  | x97 :: xs, v86 => X7y (X48 xs) x97 v86
def Xbn (x0 : (List (List Int))) : Option (List (List Int)) :=
  X48 x0 ([] : List (List Int))
def Xbf (x0 : Int) (x1 : Int) (x2 : Int) (x3 : (List (List Int))) : Option ((Int × Int × Int × (List (List Int))) × Int) :=
  (Xaq (x0, x1, x2, x3)).bind fun u4 => if (u4 ≠ 0) then (some ((0, 0, 0, ([] : List (List Int))), u4)) else
(Xbn x3).bind fun u11 => some ((x0, x1, x2, u11), 0)
def X15 (z10 : Int) (v11 : List (List Int)) (v12 : Int) (v13 : Int) (v15 : Int) (v16 : Int) (v17 : Int) (v18 : Int) : Option ((Int × Int × Int × (List (List Int))) × Int) :=
  (X3z v17).bind fun u19 => (Xbf z10 v18 u19 v11).bind fun u20 => some (u20.1, u20.2)
def X3o (rec10 : (List (List Int)) → Int → Int → Int → Int → Int → Int → Int → Option ((Int × Int × Int × (List (List Int))) × Int)) (z11 : Int) (z12 : List (List Int)) (v13 : List Int) (v14 : Int) (v15 : Int) (v16 : Int) (v17 : Int) (v18 : Int) (v19 : Int) : Option ((Int × Int × Int × (List (List Int))) × Int) :=
  (lapp z12 ([v13] : List (List Int))).bind fun u20 => rec10 u20 (w64 (z11 + 1)) v14 v15 v16 v17 v18 v19
def X7b (kx10 : (List Int) → Int → Int → Int → Int → Int → Int → Option ((Int × Int × Int × (List (List Int))) × Int)) (z11 : ByteArray) (z12 : Int) (z13 : Int) (z14 : Int) (z15 : Int) (z16 : Int) (z17 : Int) (rec18 : (List Int) → Int → Option ((Int × Int × Int × (List (List Int))) × Int)) (v19 : List Int) (v20 : Int) : Option ((Int × Int × Int × (List (List Int))) × Int) :=
  if (v20 < (z11.size : Int)) then ((sidx z11 v20).bind fun u21 => (lapp v19 ([(w64 u21)] : List Int)).bind fun u22 => rec18 u22 (w64 (v20 + 1))) else
 kx10 v19 z12 z13 z14 z15 z16 z17
def X4n (kx10 : (List Int) → Int → Int → Int → Int → Int → Int → Option ((Int × Int × Int × (List (List Int))) × Int)) (z11 : ByteArray) (z12 : Int) (z13 : Int) (z14 : Int) (z15 : Int) (z16 : Int) (z17 : Int) : Nat → (List Int) → Int → Option ((Int × Int × Int × (List (List Int))) × Int)
  | 0, _, _ => none
  | n + 1, v18, v19 => X7b kx10 z11 z12 z13 z14 z15 z16 z17 (X4n kx10 z11 z12 z13 z14 z15 z16 z17 n) v18 v19
def X7c (kx10 : (List (List Int)) → Int → Int → Int → Int → Int → Int → Option ((Int × Int × Int × (List (List Int))) × Int)) (z11 : List (List (ByteArray × Int))) (rec12 : (List (List Int)) → Int → Int → Int → Int → Int → Int → Int → Option ((Int × Int × Int × (List (List Int))) × Int)) (v13 : List (List Int)) (v14 : Int) (v15 : Int) (v16 : Int) (v17 : Int) (v18 : Int) (v19 : Int) (v21 : Int) : Option ((Int × Int × Int × (List (List Int))) × Int) :=
  if (v14 < (z11.length : Int)) then ((lidx z11 v14).bind fun u22 => (X2l v19 u22).bind fun u23 => X4n (X3o rec12 v14 v13) u23.1 v15 v16 v17 v18 v19 v21 big ([] : List Int) 0) else
 kx10 v13 v15 v16 v17 v18 v19 v21
def X1o (kx10 : (List (List Int)) → Int → Int → Int → Int → Int → Int → Option ((Int × Int × Int × (List (List Int))) × Int)) (z11 : List (List (ByteArray × Int))) : Nat → (List (List Int)) → Int → Int → Int → Int → Int → Int → Int → Option ((Int × Int × Int × (List (List Int))) × Int)
  | 0, _, _, _, _, _, _, _, _ => none
  | n + 1, v12, v13, v14, v15, v16, v17, v18, v19 => X7c kx10 z11 (X1o kx10 z11 n) v12 v13 v14 v15 v16 v17 v18 v19
def X5c (x0 : Int) (x1 : Int) (x2 : ((Int × (List (Int × Int))) × Int × (List (List (ByteArray × Int))))) : Option ((Int × Int × Int × (List (List Int))) × Int) :=
  (X9q x2).bind fun u4 => if (u4 ≠ 0) then (some ((0, 0, 0, ([] : List (List Int))), u4)) else
(X4l x1).bind fun u11 => if ((u11 ≠ 0) ∨ (x1 < 257)) then (some ((0, 0, 0, ([] : List (List Int))), 9)) else
(X3z x2.2.1).bind fun u22 => if (64 < u22) then (some ((0, 0, 0, ([] : List (List Int))), 4)) else
 X1o (X15 x0) x2.2.2 big ([] : List (List Int)) 0 0 0 0 x2.1.1 x2.2.1 x1
def X7z (z29 : List Int) (rec22 : Option Bool) (x32 : Int) (i22 : Nat) : Option Bool :=
  (lidx z29 (i22 : Int)).bind fun u37 => if (x32 ≠ u37) then (some false) else
 rec22
def X5d (z29 : List Int) : (List Int) → Nat → Option Bool
  | [], i22 => some true
  | x32 :: xs, i22 => X7z z29 (X5d z29 xs (i22 + 1)) x32 i22
def Xae (x0 : (List Int)) (x1 : (List Int)) : Option Bool :=
  if ((x0.length : Int) ≠ (x1.length : Int)) then (some false) else
 X5d x1 x0 0
def X51 (z39 : List (List Int)) (rec32 : Option Bool) (x42 : (List Int)) (i32 : Nat) : Option Bool :=
  (lidx z39 (i32 : Int)).bind fun u50 => (Xae x42 u50).bind fun u58 => if ((!u58) = true) then (some false) else
 rec32
def X2o (z39 : List (List Int)) : (List (List Int)) → Nat → Option Bool
  | [], i32 => some true
  | x42 :: xs, i32 => X51 z39 (X2o z39 xs (i32 + 1)) x42 i32
def X8p (x0 : (List (List Int))) (x1 : (List (List Int))) : Option Bool :=
  if ((x0.length : Int) ≠ (x1.length : Int)) then (some false) else
 X2o x1 x0 0
def X9c (x0 : (Int × Int × Int × (List (List Int)))) (x1 : (Int × Int × Int × (List (List Int)))) : Option Bool :=
  (if (((x0.1 = x1.1) ∧ (x0.2.1 = x1.2.1)) ∧ (x0.2.2.1 = x1.2.2.1)) then ((X8p x0.2.2.2 x1.2.2.2).bind fun u23 => some u23) else some false).bind fun u17 => some u17
def X5w (x0 : (Int × (List (Int × Int)))) (x1 : ByteArray) : Option ((List Int) × Int) :=
  (X35 x0 x1).bind fun u2 => some (u2.1, u2.2)
def X80 (z27 : List Int) (z28 : List Int) (rec23 : Int → Option Bool) (v24 : Int) : Option Bool :=
  if (v24 < (z27.length : Int)) then ((lidx z27 v24).bind fun u33 => (lidx z28 v24).bind fun u38 => if (u33 ≠ u38) then (some false) else
 rec23 (w64 (v24 + 1))) else
 some true
def X5e (z27 : List Int) (z28 : List Int) : Nat → Int → Option Bool
  | 0, _ => none
  | n + 1, v24 => X80 z27 z28 (X5e z27 z28 n) v24
def X8d (x0 : (List Int)) (x1 : (List Int)) : Option Bool :=
  if ((x0.length : Int) ≠ (x1.length : Int)) then (some false) else
 X5e x0 x1 big 0
def X2h (z10 : Int) (z11 : ByteArray) (v12 : List (ByteArray × Int)) : Option ((List (ByteArray × Int)) × Int) :=
  (X2l z10 v12).bind fun u13 => if ((u13.2 ≠ 0) ∨ (u13.1 ≠ z11)) then (some (([] : List (ByteArray × Int)), 2)) else
 some (v12, 0)
def X6l (kx10 : (List (ByteArray × Int)) → Option ((List (ByteArray × Int)) × Int)) (z11 : Int) (z12 : ByteArray) (rec13 : (List (ByteArray × Int)) → Int → Option ((List (ByteArray × Int)) × Int)) (v14 : List (ByteArray × Int)) (v15 : Int) : Option ((List (ByteArray × Int)) × Int) :=
  if (v15 < z11) then ((ssub z12 (w64 (v15 * 37)) (w64 ((w64 (v15 + 1)) * 37))).bind fun u16 => (sidx u16 0).bind fun u17 => if ((0 < (w64 u17)) ∧ ((w64 u17) ≤ 32)) then ((sidx u16 (w64 (37 - 4))).bind fun u18 => (sidx u16 (w64 (37 - 3))).bind fun u19 => (sidx u16 (w64 (37 - 2))).bind fun u21 => (sidx u16 (w64 (37 - 1))).bind fun u22 => (ssub u16 1 (w64 (1 + (w64 u17)))).bind fun u23 => (lapp v14 ([(u23, (orI .i64 (orI .i64 (orI .i64 (w64 u18) (shlI .i64 (w64 u19) 8)) (shlI .i64 (w64 u21) 16)) (shlI .i64 (w64 u22) 24)))] : List (ByteArray × Int))).bind fun u24 => rec13 u24 (w64 (v15 + 1))) else
 rec13 v14 (w64 (v15 + 1))) else
 kx10 v14
def X41 (kx10 : (List (ByteArray × Int)) → Option ((List (ByteArray × Int)) × Int)) (z11 : Int) (z12 : ByteArray) : Nat → (List (ByteArray × Int)) → Int → Option ((List (ByteArray × Int)) × Int)
  | 0, _, _ => none
  | n + 1, v13, v14 => X6l kx10 z11 z12 (X41 kx10 z11 z12 n) v13 v14
def X90 (x0 : Int) (x1 : ByteArray) : Option ((List (ByteArray × Int)) × Int) :=
  if ((x0 < 1) ∨ (8 < x0)) then (some (([] : List (ByteArray × Int)), 1)) else
 if ((x1.size : Int) ≠ (w64 (x0 * 37))) then (some (([] : List (ByteArray × Int)), 2)) else
 X41 (X2h x0 x1) x0 x1 big ([] : List (ByteArray × Int)) 0
def X81 (rec56 : Option (Int × Bool × Int)) (z95 : ByteArray) (rec88 : Option (Int × Bool × Int)) (x10 : (ByteArray × Int)) : Option (Int × Bool × Int) :=
  if (x10.1 = z95) then (some (x10.2, true, 0)) else
 rec88
def X5f (rec56 : Option (Int × Bool × Int)) (z95 : ByteArray) : (List (ByteArray × Int)) → Option (Int × Bool × Int)
  | [] => rec56
  | x10 :: xs => X81 rec56 z95 (X5f rec56 z95 xs) x10
def Xar (z62 : ByteArray) (rec56 : Option (Int × Bool × Int)) (x66 : (List (ByteArray × Int))) : Option (Int × Bool × Int) :=
  X5f rec56 z62 x66
def X49 (z62 : ByteArray) : (List (List (ByteArray × Int))) → Option (Int × Bool × Int)
  | [] => some (0, false, 0)
  | x66 :: xs => Xar z62 (X49 z62 xs) x66
def Xaf (x0 : ByteArray) (x1 : (List (List (ByteArray × Int)))) : Option (Int × Bool × Int) :=
  (X70 x0).bind fun u1 => if ((!u1) = true) then (some (0, false, 1)) else
 X49 x0 x1
def X4a (z10 : ByteArray) (v11 : List (List (ByteArray × Int))) : Option (Int × Bool × Int) :=
  (Xaf z10 v11).bind fun u12 => some (u12.1, u12.2.1, u12.2.2)
def X82 (kx10 : (List (List (ByteArray × Int))) → Option (Int × Bool × Int)) (z11 : Int) (z12 : List ByteArray) (rec13 : (List (List (ByteArray × Int))) → Int → Option (Int × Bool × Int)) (v14 : List (List (ByteArray × Int))) (v15 : Int) : Option (Int × Bool × Int) :=
  if (v15 < (z12.length : Int)) then ((lidx z12 v15).bind fun u16 => (X90 z11 u16).bind fun u17 => if (u17.2 ≠ 0) then (some (0, false, u17.2)) else
(lapp v14 ([u17.1] : List (List (ByteArray × Int)))).bind fun u18 => rec13 u18 (w64 (v15 + 1))) else
 kx10 v14
def X5g (kx10 : (List (List (ByteArray × Int))) → Option (Int × Bool × Int)) (z11 : Int) (z12 : List ByteArray) : Nat → (List (List (ByteArray × Int))) → Int → Option (Int × Bool × Int)
  | 0, _, _ => none
  | n + 1, v13, v14 => X82 kx10 z11 z12 (X5g kx10 z11 z12 n) v13 v14
def X24 (z10 : Int) (z11 : ByteArray) (v12 : List ByteArray) : Option (Int × Bool × Int) :=
  X5g (X4a z11) z10 v12 big ([] : List (List (ByteArray × Int))) 0
def X4b (rec10 : (List ByteArray) → Int → Option (Int × Bool × Int)) (z11 : Int) (z12 : List ByteArray) (v13 : List Int) : Option (Int × Bool × Int) :=
  (lapp z12 ([(ofB v13)] : List ByteArray)).bind fun u14 => rec10 u14 (w64 (z11 + 1))
def X83 (kx10 : (List Int) → Option (Int × Bool × Int)) (z11 : Int) (z12 : List (Int × (List Int) × (List Int))) (rec13 : (List Int) → Int → Option (Int × Bool × Int)) (v14 : List Int) (v15 : Int) : Option (Int × Bool × Int) :=
  (lidx z12 z11).bind fun u16 => if (v15 < (u16.2.1.length : Int)) then ((lidx z12 z11).bind fun u17 => (lidx u17.2.1 v15).bind fun u18 => (if (u18 < 0) then (some true) else (lidx z12 z11).bind fun u19 => (lidx u19.2.1 v15).bind fun u20 => some (decide (255 < u20))).bind fun u21 => if (u21 = true) then (some (0, false, 2)) else
(lidx z12 z11).bind fun u22 => (lidx u22.2.1 v15).bind fun u23 => (lapp v14 ([(wu8 u23)] : List Int)).bind fun u24 => rec13 u24 (w64 (v15 + 1))) else
 kx10 v14
def X5h (kx10 : (List Int) → Option (Int × Bool × Int)) (z11 : Int) (z12 : List (Int × (List Int) × (List Int))) : Nat → (List Int) → Int → Option (Int × Bool × Int)
  | 0, _, _ => none
  | n + 1, v13, v14 => X83 kx10 z11 z12 (X5h kx10 z11 z12 n) v13 v14
def X84 (kx10 : (List ByteArray) → Option (Int × Bool × Int)) (z11 : List (Int × (List Int) × (List Int))) (rec12 : (List ByteArray) → Int → Option (Int × Bool × Int)) (v13 : List ByteArray) (v14 : Int) : Option (Int × Bool × Int) :=
  if (v14 < (z11.length : Int)) then (X5h (X4b rec12 v14 v13) v14 z11 big ([] : List Int) 0) else
 kx10 v13
def X25 (kx10 : (List ByteArray) → Option (Int × Bool × Int)) (z11 : List (Int × (List Int) × (List Int))) : Nat → (List ByteArray) → Int → Option (Int × Bool × Int)
  | 0, _, _ => none
  | n + 1, v12, v13 => X84 kx10 z11 (X25 kx10 z11 n) v12 v13
def X4c (z71 : Int) (z72 : ByteArray) (z73 : List (Int × (List Int) × (List Int))) : Option (Int × Bool × Int) :=
  X25 (X24 z71 z72) z73 big ([] : List ByteArray) 0
def X85 (kx69 : Option (Int × Bool × Int)) (z10 : List (Int × (List Int) × (List Int))) (rec11 : Int → Option (Int × Bool × Int)) (v12 : Int) : Option (Int × Bool × Int) :=
  if (v12 < (z10.length : Int)) then ((lidx z10 v12).bind fun u13 => if (u13.1 ≠ 0) then ((lidx z10 v12).bind fun u14 => some (0, false, u14.1)) else
 rec11 (w64 (v12 + 1))) else
 kx69
def X5i (kx69 : Option (Int × Bool × Int)) (z10 : List (Int × (List Int) × (List Int))) : Nat → Int → Option (Int × Bool × Int)
  | 0, _ => none
  | n + 1, v11 => X85 kx69 z10 (X5i kx69 z10 n) v11
def Xag (x0 : Int) (x1 : ByteArray) (x2 : (List (Int × (List Int) × (List Int)))) : Option (Int × Bool × Int) :=
  X5i (X4c x0 x1 x2) x2 big 0
def X4o (v10 : Int) (v11 : List ByteArray) (v12 : List Int) (v13 : Int) (v14 : Int) : Option ((Int × (List ByteArray)) × ((List Int) × Int)) :=
  some ((v10, v11), (v12, v13))
def X8q (kx10 : Int → (List ByteArray) → (List Int) → Int → Int → Option ((Int × (List ByteArray)) × ((List Int) × Int))) (z11 : Int) (rec12 : Int → (List ByteArray) → (List Int) → Int → Option ((Int × (List ByteArray)) × ((List Int) × Int))) (v13 : Int) (v14 : List ByteArray) (v15 : List Int) (v16 : Int) : Option ((Int × (List ByteArray)) × ((List Int) × Int)) :=
  (Xp (v15, v16) 12).bind fun u17 => if (v13 < (w64 (1 + u17.1))) then ((lapp v14 ([(ofB ([(wu8 (97 + (wu8 (w64 (2 * v13)))))] : List Int))] : List ByteArray)).bind fun u18 => rec12 (w64 (v13 + 1)) u18 u17.2.1 u17.2.2) else
 kx10 z11 v14 u17.2.1 u17.2.2 0
def X5x (kx10 : Int → (List ByteArray) → (List Int) → Int → Int → Option ((Int × (List ByteArray)) × ((List Int) × Int))) (z11 : Int) : Nat → Int → (List ByteArray) → (List Int) → Int → Option ((Int × (List ByteArray)) × ((List Int) × Int))
  | 0, _, _, _, _ => none
  | n + 1, v12, v13, v14, v15 => X8q kx10 z11 (X5x kx10 z11 n) v12 v13 v14 v15
def X9s (x0 : ((List Int) × Int)) : Option ((Int × (List ByteArray)) × ((List Int) × Int)) :=
  (Xp x0 3).bind fun u2 => X5x X4o (w64 (2 + u2.1)) big 0 ([] : List ByteArray) u2.2.1 u2.2.2
def X86 (z71 : List ByteArray) (rec65 : Option Bool) (x74 : ByteArray) (i65 : Nat) : Option Bool :=
  (X70 x74).bind fun u79 => (if ((!u79) = true) then (some true) else (if (0 < (i65 : Int)) then ((lidx z71 (w64 ((i65 : Int) - 1))).bind fun u10 => some (decide (¬ sLt u10 x74))) else some false).bind fun u11 => some u11).bind fun u12 => if (u12 = true) then (some false) else
 rec65
def X42 (z71 : List ByteArray) : (List ByteArray) → Nat → Option Bool
  | [], i65 => some true
  | x74 :: xs, i65 => X86 z71 (X42 z71 xs (i65 + 1)) x74 i65
def Xa0 (x0 : (List ByteArray)) : Option Bool :=
  X42 x0 x0 0
def X9t (x0 : (Int × (List ByteArray))) : Option Int :=
  (if ((((x0.1 < 2) ∨ (8 < x0.1)) ∨ ((x0.2.length : Int) < 1)) ∨ (256 < (x0.2.length : Int))) then (some true) else (Xa0 x0.2).bind fun u30 => some (!u30)).bind fun u20 => if (u20 = true) then (some 2) else
 some 0
def X2z (rec10 : (List ByteArray) → (List (List ByteArray)) → Int → Option ((List (List ByteArray)) × Int)) (z11 : List (List ByteArray)) (v12 : List ByteArray) (v13 : Int) : Option ((List (List ByteArray)) × Int) :=
  (lapp z11 ([v12] : List (List ByteArray))).bind fun u14 => rec10 v12 u14 v13
def X6m (kx10 : (List ByteArray) → Int → Option ((List (List ByteArray)) × Int)) (z11 : List ByteArray) (z12 : Int) (rec13 : (List ByteArray) → Int → Option ((List (List ByteArray)) × Int)) (v14 : List ByteArray) (v15 : Int) : Option ((List (List ByteArray)) × Int) :=
  if (v15 < (z11.length : Int)) then ((lidx z11 v15).bind fun u16 => (lapp v14 ([u16] : List ByteArray)).bind fun u17 => rec13 u17 (w64 (v15 + z12))) else
 kx10 v14 z12
def X52 (kx10 : (List ByteArray) → Int → Option ((List (List ByteArray)) × Int)) (z11 : List ByteArray) (z12 : Int) : Nat → (List ByteArray) → Int → Option ((List (List ByteArray)) × Int)
  | 0, _, _ => none
  | n + 1, v13, v14 => X6m kx10 z11 z12 (X52 kx10 z11 z12 n) v13 v14
def X6n (rec10 : (List ByteArray) → (List (List ByteArray)) → Int → Option ((List (List ByteArray)) × Int)) (v11 : List ByteArray) (v12 : List (List ByteArray)) (v13 : Int) : Option ((List (List ByteArray)) × Int) :=
  if (v13 < (v11.length : Int)) then (X52 (X2z rec10 v12) v11 v13 big ([] : List ByteArray) 0) else
 some (v12, 0)
def X1j : Nat → (List ByteArray) → (List (List ByteArray)) → Int → Option ((List (List ByteArray)) × Int)
  | 0, _, _, _ => none
  | n + 1, v10, v11, v12 => X6n (X1j n) v10 v11 v12
def X7m (x0 : (Int × (List ByteArray))) : Option ((List (List ByteArray)) × Int) :=
  (X9t x0).bind fun u2 => if (u2 ≠ 0) then (some (([] : List (List ByteArray)), u2)) else
(lapp ([] : List ByteArray) x0.2).bind fun u15 => X1j big u15 ([u15] : List (List ByteArray)) x0.1
def X87 (z10 : List (List ByteArray)) (z11 : Int) (rec90 : (List Int) → Int → Int → Option ((List Int) × Int)) (v91 : List Int) (v97 : Int) (v98 : Int) : Option ((List Int) × Int) :=
  if (0 ≤ v98) then ((lapp v91 ([v97] : List Int)).bind fun u12 => (lidx z10 v98).bind fun u13 => (nz z11).bind fun _ => rec90 u12 (w64 (v97 + (w64 (Int.tdiv (w64 ((w64 ((u13.length : Int) + z11)) - 1)) z11)))) (w64 (v98 - 1))) else
 some (v91, 0)
def X5j (z10 : List (List ByteArray)) (z11 : Int) : Nat → (List Int) → Int → Int → Option ((List Int) × Int)
  | 0, _, _, _ => none
  | n + 1, v91, v97, v98 => X87 z10 z11 (X5j z10 z11 n) v91 v97 v98
def X7n (x0 : (Int × (List ByteArray))) : Option ((List Int) × Int) :=
  (X7m x0).bind fun u2 => if (u2.2 ≠ 0) then (some (([] : List Int), u2.2)) else
 X5j u2.1 x0.1 big ([] : List Int) 0 (w64 ((u2.1.length : Int) - 1))
def Xk (z29 : List (List ByteArray)) (rec21 : Int → Option (List (Int × (List ByteArray)))) (v26 : Int) : Option (List (Int × (List ByteArray))) :=
  if (0 ≤ v26) then ((lidx z29 v26).bind fun u34 => yc (v26, u34) <| rec21 (w64 (v26 - 1))) else
 some []
def Xe (z29 : List (List ByteArray)) : Nat → Int → Option (List (Int × (List ByteArray)))
  | 0, _ => none
  | n + 1, v26 => Xk z29 (Xe z29 n) v26
def X1b (x1 : (List (List ByteArray))) : Option ((List (Int × (List ByteArray)))) :=
  Xe x1 big (w64 ((x1.length : Int) - 1))
def X13 (x0 : (List (List ByteArray))) : Option (List (Int × (List ByteArray))) :=
  (X1b x0).bind fun u7 => some u7
def X7d (z20 : Int → Option Bool) (rec15 : Int → Int → Option Int) (v16 : Int) (v17 : Int) : Option Int :=
  if (v16 < v17) then ((z20 (w64 ((IntKind.u64.wrap (w64 (v16 + v17))) / 2))).bind fun u25 => if ((!u25) = true) then (rec15 (w64 ((w64 ((IntKind.u64.wrap (w64 (v16 + v17))) / 2)) + 1)) v17) else
 rec15 v16 (w64 ((IntKind.u64.wrap (w64 (v16 + v17))) / 2))) else
 some v16
def X5y (z20 : Int → Option Bool) : Nat → Int → Int → Option Int
  | 0, _, _ => none
  | n + 1, v16, v17 => X7d z20 (X5y z20 n) v16 v17
def Xas (x0 : Int) (x1 : Int → Option Bool) : Option Int :=
  X5y x1 big 0 x0
def X53 (x0 : Int) (x1 : (List ByteArray)) (x2 : ByteArray) : Option Bool :=
  (lidx x1 x0).bind fun u1 => some (decide (sLt x2 u1))
def X91 (x0 : (List ByteArray)) (x1 : ByteArray) : Option Int :=
  (Xas (x0.length : Int) (fun y0 => X53 y0 x0 x1)).bind fun u13 => some u13
def Xah (x0 : (List ByteArray)) (x1 : ByteArray) : Option Int :=
  (X91 x0 x1).bind fun u1 => some (max 0 (w64 (u1 - 1)))
def X96 (x0 : (List ByteArray)) (x1 : Int) (x2 : Int) : Option (List ByteArray) :=
  (lsub x0 (w64 (x2 * x1)) (min (w64 ((w64 (x2 + 1)) * x1)) (x0.length : Int))).bind fun u1 => some u1
def X3p (z10 : ByteArray) (z11 : List ByteArray) (v12 : List Int) (v13 : Int) : Option ((List Int) × Int × Bool × Int) :=
  (lidx z11 v13).bind fun u14 => some (v12, v13, (decide (u14 = z10)), 0)
def X7e (kx10 : (List Int) → Int → Option ((List Int) × Int × Bool × Int)) (z11 : Int) (z12 : ByteArray) (rec13 : (List Int) → Int → Option ((List Int) × Int × Bool × Int)) (x14 : (Int × (List ByteArray))) (v15 : List Int) (v16 : Int) : Option ((List Int) × Int × Bool × Int) :=
  (lapp v15 ([v16] : List Int)).bind fun u17 => (X96 x14.2 z11 v16).bind fun u18 => (Xah u18 z12).bind fun u19 => rec13 u17 (w64 ((w64 (v16 * z11)) + u19))
def X3q (kx10 : (List Int) → Int → Option ((List Int) × Int × Bool × Int)) (z11 : Int) (z12 : ByteArray) : List (Int × (List ByteArray)) → (List Int) → Int → Option ((List Int) × Int × Bool × Int)
  | [], v13, v14 => kx10 v13 v14
  | x15 :: xs, v13, v14 => X7e kx10 z11 z12 (X3q kx10 z11 z12 xs) x15 v13 v14
def X9u (x0 : (Int × (List ByteArray))) (x1 : ByteArray) : Option ((List Int) × Int × Bool × Int) :=
  (X8c x0).bind fun u3 => if (u3 ≠ 0) then (some (([] : List Int), 0, false, u3)) else
(X7k x1).bind fun u11 => if ((!u11) = true) then (some (([] : List Int), 0, false, 1)) else
(X7l x0).bind fun u21 => (X13 u21).bind fun u39 => X3q (X3p x1 x0.2) x0.1 x1 u39 ([] : List Int) 0
def X7f (z10 : Int) (z11 : Bool) (z12 : List Int) (rec13 : (List Int) → Option ((List Int) × Int × Bool × Int)) (x14 : Int) (i13 : Nat) (v15 : List Int) : Option ((List Int) × Int × Bool × Int) :=
  (lidx z12 (i13 : Int)).bind fun u16 => (lidx v15 (i13 : Int)).bind fun u17 => (lidx v15 (i13 : Int)).bind fun u18 => (lupd v15 (i13 : Int) (w64 (u17 + u16))).bind fun u19 => rec13 u19
def X4p (z10 : Int) (z11 : Bool) (z12 : List Int) : (List Int) → Nat → (List Int) → Option ((List Int) × Int × Bool × Int)
  | [], i13, v14 => some (v14, z10, z11, 0)
  | x15 :: xs, i13, v14 => X7f z10 z11 z12 (X4p z10 z11 z12 xs (i13 + 1)) x15 i13 v14
def X6o (x0 : (Int × (List ByteArray))) (x1 : ByteArray) : Option ((List Int) × Int × Bool × Int) :=
  (X9u x0 x1).bind fun u2 => if (u2.2.2.2 ≠ 0) then (some (([] : List Int), 0, false, u2.2.2.2)) else
(X3x x0).bind fun u15 => if (u15.2 ≠ 0) then (some (([] : List Int), 0, false, u15.2)) else
(X2i u2.1).bind fun u33 => X4p u2.2.1 u2.2.2.1 u15.1 u33 0 u33
def X88 (z22 : ByteArray) (rec15 : Int → Option Int) (x26 : ByteArray) (i15 : Nat) (v19 : Int) : Option Int :=
  if (¬ sLt z22 x26) then (rec15 (i15 : Int)) else
 rec15 v19
def X5k (z22 : ByteArray) : (List ByteArray) → Nat → Int → Option Int
  | [], i15, v19 => some v19
  | x26 :: xs, i15, v19 => X88 z22 (X5k z22 xs (i15 + 1)) x26 i15 v19
def Xbo (x0 : (List ByteArray)) (x1 : ByteArray) : Option Int :=
  X5k x1 x0 0 0
def X3r (z10 : ByteArray) (z11 : List ByteArray) (v12 : List Int) (v13 : Int) (v14 : Int) : Option ((List Int) × Int × Bool × Int) :=
  (lidx z11 v13).bind fun u15 => some (v12, v13, (decide (u15 = z10)), 0)
def X7g (kx10 : (List Int) → Int → Int → Option ((List Int) × Int × Bool × Int)) (z11 : ByteArray) (z12 : Int) (z13 : List (List ByteArray)) (rec14 : (List Int) → Int → Int → Option ((List Int) × Int × Bool × Int)) (v15 : List Int) (v16 : Int) (v17 : Int) : Option ((List Int) × Int × Bool × Int) :=
  if (0 ≤ v17) then ((lapp v15 ([v16] : List Int)).bind fun u18 => (lidx z13 v17).bind fun u19 => (lsub u19 (w64 (v16 * z12)) (min (u19.length : Int) (w64 ((w64 (v16 + 1)) * z12)))).bind fun u20 => (Xbo u20 z11).bind fun u22 => rec14 u18 (w64 ((w64 (v16 * z12)) + u22)) (w64 (v17 - 1))) else
 kx10 v15 v16 z12
def X5z (kx10 : (List Int) → Int → Int → Option ((List Int) × Int × Bool × Int)) (z11 : ByteArray) (z12 : Int) (z13 : List (List ByteArray)) : Nat → (List Int) → Int → Int → Option ((List Int) × Int × Bool × Int)
  | 0, _, _, _ => none
  | n + 1, v14, v15, v16 => X7g kx10 z11 z12 z13 (X5z kx10 z11 z12 z13 n) v14 v15 v16
def X9v (x0 : (Int × (List ByteArray))) (x1 : ByteArray) : Option ((List Int) × Int × Bool × Int) :=
  (X7m x0).bind fun u2 => if (u2.2 ≠ 0) then (some (([] : List Int), 0, false, u2.2)) else
(X70 x1).bind fun u18 => if ((!u18) = true) then (some (([] : List Int), 0, false, 1)) else
 X5z (X3r x1 x0.2) x1 x0.1 u2.1 big ([] : List Int) 0 (w64 ((u2.1.length : Int) - 1))
def X89 (z10 : List Int) (z11 : Int) (z12 : Bool) (z13 : List Int) (rec95 : (List Int) → Int → Option ((List Int) × Int × Bool × Int)) (v96 : List Int) (v14 : Int) : Option ((List Int) × Int × Bool × Int) :=
  if (v14 < (z10.length : Int)) then ((lidx z13 v14).bind fun u15 => (lidx z10 v14).bind fun u16 => (lapp v96 ([(w64 (u15 + u16))] : List Int)).bind fun u17 => rec95 u17 (w64 (v14 + 1))) else
 some (v96, z11, z12, 0)
def X5l (z10 : List Int) (z11 : Int) (z12 : Bool) (z13 : List Int) : Nat → (List Int) → Int → Option ((List Int) × Int × Bool × Int)
  | 0, _, _ => none
  | n + 1, v96, v14 => X89 z10 z11 z12 z13 (X5l z10 z11 z12 z13 n) v96 v14
def X8e (x0 : (Int × (List ByteArray))) (x1 : ByteArray) : Option ((List Int) × Int × Bool × Int) :=
  (X9v x0 x1).bind fun u2 => if (u2.2.2.2 ≠ 0) then (some (([] : List Int), 0, false, u2.2.2.2)) else
(X7n x0).bind fun u17 => X5l u2.1 u2.2.1 u2.2.2.1 u17.1 big ([] : List Int) 0
def Xl (z10 : Int) (v11 : Int) (v12 : Int) (v13 : Int) (v14 : Int) (v15 : Int) (v16 : Int) (v17 : Int) (v18 : Int) (v19 : Int) (v20 : Int) (v21 : Int) (v22 : Int) : Option Bool :=
  (X46 (Int.tmod z10 1000)).bind fun u23 => (X3z (Int.tmod z10 1000)).bind fun u24 => some (decide (u23 = u24))
def X38 (rec10 : Int → Int → Int → Int → Int → Int → Int → Int → Int → Int → Int → Int → Option Bool) (z11 : Int) (z12 : List ByteArray) (z13 : Int) (z14 : Int) (z15 : Int) (z16 : Int) (z17 : Int) (z18 : Int) (z19 : Int) (z20 : Int) (z21 : Int) (z22 : Int) (z23 : Int) (z24 : Int) (rec25 : Option Bool) (x26 : ByteArray) : Option Bool :=
  (X6o (z11, z12) x26).bind fun u27 => (X8e (z11, z12) x26).bind fun u28 => (if (((u27.2.2.2 ≠ u28.2.2.2) ∨ (u27.2.1 ≠ u28.2.1)) ∨ (u27.2.2.1 ≠ u28.2.2.1)) then (some true) else (X8d u27.1 u28.1).bind fun u29 => some (!u29)).bind fun u30 => if (u30 = true) then (some false) else
 rec25
def X1u (rec10 : Int → Int → Int → Int → Int → Int → Int → Int → Int → Int → Int → Int → Option Bool) (z11 : Int) (z12 : List ByteArray) (z13 : Int) (z14 : Int) (z15 : Int) (z16 : Int) (z17 : Int) (z18 : Int) (z19 : Int) (z20 : Int) (z21 : Int) (z22 : Int) (z23 : Int) (z24 : Int) : (List ByteArray) → Option Bool
  | [] => rec10 z13 z14 z15 z16 z17 z18 z19 z20 z21 z22 z23 z24
  | x25 :: xs => X38 rec10 z11 z12 z13 z14 z15 z16 z17 z18 z19 z20 z21 z22 z23 z24 (X1u rec10 z11 z12 z13 z14 z15 z16 z17 z18 z19 z20 z21 z22 z23 z24 xs) x25
def X39 (kx10 : Int → Int → Int → Int → Int → Int → Int → Int → Int → Int → Int → Int → Option Bool) (z11 : ByteArray) (rec12 : Int → Int → Int → Int → Int → Int → Int → Int → Int → Int → Int → Int → Option Bool) (x13 : (Int × (List ByteArray))) (v14 : Int) (v15 : Int) (v16 : Int) (v17 : Int) (v18 : Int) (v19 : Int) (v20 : Int) (v21 : Int) (v22 : Int) (v23 : Int) (v24 : Int) (v25 : Int) : Option Bool :=
  (X3x x13).bind fun u26 => (X7n x13).bind fun u27 => (if (u26.2 ≠ u27.2) then (some true) else (X8d u26.1 u27.1).bind fun u28 => some (!u28)).bind fun u29 => if (u29 = true) then (some false) else
 X1u rec12 x13.1 x13.2 v14 v15 v16 v17 v18 v19 v20 v21 v22 v23 v24 v25 ([z11, ⟨#[98]⟩, ⟨#[107]⟩, ⟨#[122]⟩] : List ByteArray)
def Xt (kx10 : Int → Int → Int → Int → Int → Int → Int → Int → Int → Int → Int → Int → Option Bool) (z11 : ByteArray) : (List (Int × (List ByteArray))) → Int → Int → Int → Int → Int → Int → Int → Int → Int → Int → Int → Int → Option Bool
  | [], v12, v13, v14, v15, v16, v17, v18, v19, v20, v21, v22, v23 => kx10 v12 v13 v14 v15 v16 v17 v18 v19 v20 v21 v22 v23
  | x24 :: xs, v12, v13, v14, v15, v16, v17, v18, v19, v20, v21, v22, v23 => X39 kx10 z11 (Xt kx10 z11 xs) x24 v12 v13 v14 v15 v16 v17 v18 v19 v20 v21 v22 v23
def X5 (z10 : Int) (z11 : ByteArray) (z12 : List ByteArray) (v13 : Int) (v14 : Int) (v15 : Int) (v16 : Int) (v17 : Int) (v18 : Int) (v19 : Int) (v20 : List Int) (v21 : Int) (v22 : Int) (v23 : Int) (v24 : Int) (v25 : Int) : Option Bool :=
  (X9s (v20, v21)).bind fun u26 => Xt (Xl z10) z11 ([u26.1, (v22, z12)] : List (Int × (List ByteArray))) u26.2.2 v13 v14 v15 v16 v17 v18 v19 v22 v23 v24 v25
def X3a (rec10 : Int → Int → Int → Int → Int → Int → Int → Int → Int → Int → Int → Int → Option Bool) (z11 : ByteArray) (z12 : List (Int × (List Int) × (List Int))) (z13 : Int) (z14 : Int) (z15 : Int) (z16 : Int) (z17 : Int) (z18 : Int) (z19 : Int) (z20 : Int) (z21 : Int) (z22 : Int) (z23 : Int) (z24 : Int) (rec25 : Option Bool) (x26 : Int) : Option Bool :=
  (X9o x26 z11 z12).bind fun u27 => (Xag x26 z11 z12).bind fun u28 => if (((u27.1 ≠ u28.1) ∨ (u27.2.1 ≠ u28.2.1)) ∨ (u27.2.2 ≠ u28.2.2)) then (some false) else
 rec25
def X1v (rec10 : Int → Int → Int → Int → Int → Int → Int → Int → Int → Int → Int → Int → Option Bool) (z11 : ByteArray) (z12 : List (Int × (List Int) × (List Int))) (z13 : Int) (z14 : Int) (z15 : Int) (z16 : Int) (z17 : Int) (z18 : Int) (z19 : Int) (z20 : Int) (z21 : Int) (z22 : Int) (z23 : Int) (z24 : Int) : (List Int) → Option Bool
  | [] => rec10 z13 z14 z15 z16 z17 z18 z19 z20 z21 z22 z23 z24
  | x25 :: xs => X3a rec10 z11 z12 z13 z14 z15 z16 z17 z18 z19 z20 z21 z22 z23 z24 (X1v rec10 z11 z12 z13 z14 z15 z16 z17 z18 z19 z20 z21 z22 z23 z24 xs) x25
def X3b (rec10 : Int → Int → Int → Int → Int → Int → Int → (List Int) → Int → Int → Int → Int → Int → Option Bool) (z11 : Int) (z12 : ByteArray) (z13 : List Int) (rec14 : Int → Int → Int → Int → Int → Int → Int → Int → Int → Int → Int → Int → Option Bool) (x15 : (List (Int × (List Int) × (List Int)))) (v16 : Int) (v17 : Int) (v18 : Int) (v19 : Int) (v20 : Int) (v21 : Int) (v22 : Int) (v23 : Int) (v24 : Int) (v25 : Int) (v26 : Int) (v27 : Int) : Option Bool :=
  X1v rec14 z12 x15 v16 v17 v18 v19 v20 v21 v22 v23 v24 v25 v26 v27 ([1, z11] : List Int)
def Xm (rec10 : Int → Int → Int → Int → Int → Int → Int → (List Int) → Int → Int → Int → Int → Int → Option Bool) (z11 : Int) (z12 : ByteArray) (z13 : List Int) : (List (List (Int × (List Int) × (List Int)))) → Int → Int → Int → Int → Int → Int → Int → Int → Int → Int → Int → Int → Option Bool
  | [], v14, v15, v16, v17, v18, v19, v20, v21, v22, v23, v24, v25 => rec10 v15 v16 v17 v18 v19 v20 v21 z13 v14 v22 v23 v24 v25
  | x26 :: xs, v14, v15, v16, v17, v18, v19, v20, v21, v22, v23, v24, v25 => X3b rec10 z11 z12 z13 (Xm rec10 z11 z12 z13 xs) x26 v14 v15 v16 v17 v18 v19 v20 v21 v22 v23 v24 v25
def Xj (rec10 : Int → Int → Int → Int → Int → Int → Int → (List Int) → Int → Int → Int → Int → Int → Option Bool) (z11 : Int) (z12 : List (Int × (List Int) × (List Int))) (z13 : ByteArray) (z14 : Int) (z15 : Int) (z16 : Int) (z17 : Int) (z18 : Int) (z19 : Int) (z20 : Int) (z21 : Int) (z22 : Int) (z23 : Int) (z24 : Int) (v25 : List (Int × (List Int) × (List Int))) (v26 : List Int) (v27 : Int) : Option Bool :=
  Xm rec10 z11 z13 v26 ([v25, z12] : List (List (Int × (List Int) × (List Int)))) v27 z14 z15 z16 z17 z18 z19 z20 z21 z22 z23 z24
def Xz (rec10 : Int → Int → Int → Int → Int → Int → Int → (List Int) → Int → Int → Int → Int → Int → Option Bool) (z11 : Int) (z12 : List (Int × (List Int) × (List Int))) (z13 : ByteArray) (z14 : List Int) (v15 : List (Int × (List Int) × (List Int))) (v16 : Int) (v17 : Int) (v18 : Int) (v19 : Int) (v20 : Int) (v21 : Int) (v22 : Int) (v23 : Int) (v24 : Int) (v25 : Int) (v26 : Int) (v27 : Int) : Option Bool :=
  (Xp (z14, v23) 5).bind fun u28 => if (u28.1 = 0) then (if (0 < (v15.length : Int)) then ((lidx v15 0).bind fun u29 => (lupd v15 0 (12, u29.2.1, u29.2.2)).bind fun u30 => (Xj rec10 z11 z12 z13 v16 v17 v18 v19 v20 v21 v22 v24 v25 v26 v27) u30 u28.2.1 u28.2.2) else
(Xj rec10 z11 z12 z13 v16 v17 v18 v19 v20 v21 v22 v24 v25 v26 v27) v15 u28.2.1 u28.2.2) else
 if (u28.1 = 1) then (if (0 < (v15.length : Int)) then ((lidx v15 (w64 ((v15.length : Int) - 1))).bind fun u31 => (Xp u28.2 37).bind fun u32 => (Xp u32.2 257).bind fun u33 => (lidx u31.2.1 u32.1).bind fun u34 => (lupd u31.2.1 u32.1 u33.1).bind fun u36 => (lupd v15 (w64 ((v15.length : Int) - 1)) (u31.1, u36, u31.2.2)).bind fun u37 => (Xj rec10 z11 z12 z13 v16 v17 v18 v19 v20 v21 v22 v24 v25 v26 v27) u37 u33.2.1 u33.2.2) else
(Xj rec10 z11 z12 z13 v16 v17 v18 v19 v20 v21 v22 v24 v25 v26 v27) v15 u28.2.1 u28.2.2) else
 if (u28.1 = 2) then (if (0 < (v15.length : Int)) then ((lidx v15 0).bind fun u38 => (lidx u38.2.1 3).bind fun u39 => (lupd u38.2.1 3 256).bind fun u40 => (lupd v15 0 (u38.1, u40, u38.2.2)).bind fun u41 => (Xj rec10 z11 z12 z13 v16 v17 v18 v19 v20 v21 v22 v24 v25 v26 v27) u41 u28.2.1 u28.2.2) else
(Xj rec10 z11 z12 z13 v16 v17 v18 v19 v20 v21 v22 v24 v25 v26 v27) v15 u28.2.1 u28.2.2) else
(Xj rec10 z11 z12 z13 v16 v17 v18 v19 v20 v21 v22 v24 v25 v26 v27) v15 u28.2.1 u28.2.2
def X3c (kx10 : (List (Int × (List Int) × (List Int))) → Int → Int → Int → Int → Int → Int → Int → Int → Int → Int → Int → Int → Option Bool) (z11 : Int) (z12 : Int) (z13 : Int) (z14 : List (List Int)) (z15 : Int) (z16 : Int) (z17 : Int) (z18 : Int) (z19 : Int) (z20 : Int) (z21 : Int) (z22 : Int) (z23 : Int) (rec24 : (List (Int × (List Int) × (List Int))) → Option Bool) (x25 : Int) (v26 : List (Int × (List Int) × (List Int))) : Option Bool :=
  (lidx z14 x25).bind fun u27 => (lapp ([] : List Int) u27).bind fun u28 => (lapp v26 ([(0, u28, ([] : List Int))] : List (Int × (List Int) × (List Int)))).bind fun u29 => rec24 u29
def X1w (kx10 : (List (Int × (List Int) × (List Int))) → Int → Int → Int → Int → Int → Int → Int → Int → Int → Int → Int → Int → Option Bool) (z11 : Int) (z12 : Int) (z13 : Int) (z14 : List (List Int)) (z15 : Int) (z16 : Int) (z17 : Int) (z18 : Int) (z19 : Int) (z20 : Int) (z21 : Int) (z22 : Int) (z23 : Int) : (List Int) → (List (Int × (List Int) × (List Int))) → Option Bool
  | [], v24 => kx10 v24 z11 z12 z13 z15 z16 z17 z18 z19 z20 z21 z22 z23
  | x25 :: xs, v24 => X3c kx10 z11 z12 z13 z14 z15 z16 z17 z18 z19 z20 z21 z22 z23 (X1w kx10 z11 z12 z13 z14 z15 z16 z17 z18 z19 z20 z21 z22 z23 xs) x25 v24
def X30 (kx11 : Int → Int → Int → Int → Int → Int → Int → (List Int) → Int → Int → Int → Int → Int → Option Bool) (z12 : Int) (z13 : List (Int × (List Int) × (List Int))) (z14 : List (List Int)) (z15 : List (Int × Int)) (rec16 : Int → Int → Int → Int → Int → Int → Int → (List Int) → Int → Int → Int → Int → Int → Option Bool) (x17 : ByteArray) (v18 : Int) (v19 : Int) (v20 : Int) (v21 : Int) (v22 : Int) (v23 : Int) (v24 : Int) (v25 : List Int) (v26 : Int) (v27 : Int) (v28 : Int) (v29 : Int) (v30 : Int) : Option Bool :=
  (X5w (v23, z15) x17).bind fun u31 => X1w (Xz rec16 z12 z13 x17 v25) v18 v19 v20 z14 v21 v22 v23 v24 v26 v27 v28 v29 v30 u31.1 ([] : List (Int × (List Int) × (List Int)))
def X4 (kx11 : Int → Int → Int → Int → Int → Int → Int → (List Int) → Int → Int → Int → Int → Int → Option Bool) (z12 : Int) (z13 : List (Int × (List Int) × (List Int))) (z14 : List (List Int)) (z15 : List (Int × Int)) : (List ByteArray) → Int → Int → Int → Int → Int → Int → Int → (List Int) → Int → Int → Int → Int → Int → Option Bool
  | [], v16, v17, v18, v19, v20, v21, v22, v23, v24, v25, v26, v27, v28 => kx11 v16 v17 v18 v19 v20 v21 v22 v23 v24 v25 v26 v27 v28
  | x29 :: xs, v16, v17, v18, v19, v20, v21, v22, v23, v24, v25, v26, v27, v28 => X30 kx11 z12 z13 z14 z15 (X4 kx11 z12 z13 z14 z15 xs) x29 v16 v17 v18 v19 v20 v21 v22 v23 v24 v25 v26 v27 v28
def X9 (z12 : Int) (z13 : ByteArray) (z14 : List (Int × (List Int) × (List Int))) (z15 : List (Int × Int)) (z16 : List (List (ByteArray × Int))) (z17 : List Int) (z18 : List ByteArray) (v19 : Int) (v20 : Int) (v21 : Int) (v22 : Int) (v23 : Int) (v24 : Int) (v25 : Int) (v26 : Int) (v27 : Int) : Option Bool :=
  (X5c 3 257 ((v21, z15), v22, z16)).bind fun u28 => X4 (X5 z12 z13 z18) z12 z14 u28.1.2.2.2 z15 ([z13, ⟨#[97, 110, 116]⟩, ⟨#[99, 97, 116]⟩, ⟨#[122, 101, 98, 114, 97]⟩] : List ByteArray) u28.1.1 u28.1.2.1 u28.1.2.2.1 v19 v20 v21 v22 z17 v23 v24 v25 v26 v27
def X31 (rec10 : Int → Int → Int → Int → Int → Int → Int → Int → Int → Option Bool) (z11 : Int) (z13 : List (Int × Int)) (z14 : Int) (z15 : Int) (z16 : Int) (z17 : Int) (z18 : Int) (z19 : Int) (z20 : Int) (z21 : Int) (z22 : Int) (rec23 : Option Bool) (x24 : ByteArray) : Option Bool :=
  (X5b (z11, z13) x24).bind fun u25 => (X5w (z11, z13) x24).bind fun u26 => (if (u25.2 ≠ u26.2) then (some true) else (X8d u25.1 u26.1).bind fun u27 => some (!u27)).bind fun u28 => if (u28 = true) then (some false) else
 rec23
def X1k (rec10 : Int → Int → Int → Int → Int → Int → Int → Int → Int → Option Bool) (z11 : Int) (z13 : List (Int × Int)) (z14 : Int) (z15 : Int) (z16 : Int) (z17 : Int) (z18 : Int) (z19 : Int) (z20 : Int) (z21 : Int) (z22 : Int) : (List ByteArray) → Option Bool
  | [] => rec10 z14 z15 z16 z17 z18 z19 z20 z21 z22
  | x23 :: xs => X31 rec10 z11 z13 z14 z15 z16 z17 z18 z19 z20 z21 z22 (X1k rec10 z11 z13 z14 z15 z16 z17 z18 z19 z20 z21 z22 xs) x23
def X1l (rec10 : Int → Int → Int → Int → Int → Int → Int → Int → Int → Option Bool) (z11 : ByteArray) (z14 : List (Int × Int)) (v15 : Int) (v16 : Int) (v17 : Int) (v18 : Int) (v19 : Int) (v20 : Int) (v21 : Int) (v22 : Int) (v23 : Int) (v24 : Int) (v25 : Int) : Option Bool :=
  X1k rec10 v15 z14 v17 v18 v19 v20 v21 v22 v23 v24 v25 ([z11, ⟨#[97, 110, 116]⟩, ⟨#[122, 101, 98, 114, 97]⟩, ByteArray.empty] : List ByteArray)
def X32 (kx10 : Int → Int → Int → Int → Int → Int → Int → Int → Int → Int → Int → Option Bool) (z11 : Int) (z12 : Int) (z13 : List (Int × Int)) (z15 : Int) (z16 : List (List (ByteArray × Int))) (z17 : Int) (z18 : Int) (z19 : Int) (z20 : Int) (z21 : Int) (z22 : Int) (z23 : Int) (z24 : Int) (z25 : Int) (rec26 : Option Bool) (x27 : Int) : Option Bool :=
  (X68 z11 x27 ((z12, z13), z15, z16)).bind fun u28 => (X5c z11 x27 ((z12, z13), z15, z16)).bind fun u29 => (X68 3 x27 ((z12, z13), z15, z16)).bind fun u30 => (X5c 3 x27 ((z12, z13), z15, z16)).bind fun u31 => (if ((u28.2 ≠ u29.2) ∨ (u30.2 ≠ u31.2)) then (some true) else (X9c u28.1 u29.1).bind fun u32 => some (!u32)).bind fun u33 => (if (u33 = true) then (some true) else (X9c u30.1 u31.1).bind fun u34 => some (!u34)).bind fun u36 => if (u36 = true) then (some false) else
 rec26
def X1m (kx10 : Int → Int → Int → Int → Int → Int → Int → Int → Int → Int → Int → Option Bool) (z11 : Int) (z12 : Int) (z13 : List (Int × Int)) (z15 : Int) (z16 : List (List (ByteArray × Int))) (z17 : Int) (z18 : Int) (z19 : Int) (z20 : Int) (z21 : Int) (z22 : Int) (z23 : Int) (z24 : Int) (z25 : Int) : (List Int) → Option Bool
  | [] => kx10 z12 z15 z17 z18 z19 z20 z21 z22 z23 z24 z25
  | x26 :: xs => X32 kx10 z11 z12 z13 z15 z16 z17 z18 z19 z20 z21 z22 z23 z24 z25 (X1m kx10 z11 z12 z13 z15 z16 z17 z18 z19 z20 z21 z22 z23 z24 z25 xs) x26
def X33 (kx10 : Int → Int → Int → Int → Int → Int → Int → Int → Int → Option Bool) (z11 : Int) (z12 : ByteArray) (rec16 : Int → Int → Int → Int → Int → Int → Int → Int → Int → Option Bool) (x17 : ((Int × (List (Int × Int))) × Int × (List (List (ByteArray × Int))))) (v18 : Int) (v19 : Int) (v20 : Int) (v21 : Int) (v22 : Int) (v23 : Int) (v24 : Int) (v25 : Int) (v26 : Int) : Option Bool :=
  X1m (X1l rec16 z12 x17.1.2) z11 x17.1.1 x17.1.2 x17.2.1 x17.2.2 v18 v19 v20 v21 v22 v23 v24 v25 v26 ([v24, 257, 251, 65521] : List Int)
def Xa (kx10 : Int → Int → Int → Int → Int → Int → Int → Int → Int → Option Bool) (z11 : Int) (z12 : ByteArray) : (List ((Int × (List (Int × Int))) × Int × (List (List (ByteArray × Int))))) → Int → Int → Int → Int → Int → Int → Int → Int → Int → Option Bool
  | [], v13, v14, v16, v17, v18, v19, v20, v21, v22 => kx10 v13 v14 v16 v17 v18 v19 v20 v21 v22
  | x23 :: xs, v13, v14, v16, v17, v18, v19, v20, v21, v22 => X33 kx10 z11 z12 (Xa kx10 z11 z12 xs) x23 v13 v14 v16 v17 v18 v19 v20 v21 v22
def X6v (x0 : (List Int)) (x1 : ((Int × (List (Int × Int))) × Int × (List (List (ByteArray × Int))))) (x2 : Int) (x3 : Int) (x4 : Int) (x5 : ByteArray) (x6 : (List (Int × (List Int) × (List Int)))) (x7 : (Int × (List ByteArray))) : Option Bool :=
  (Xbm).bind fun u4 => if ((!u4) = true) then (some false) else
 if (((((6 < (x1.2.2.length : Int)) ∨ (5 < (x1.1.2.length : Int))) ∨ (40 < (x5.size : Int))) ∨ (4 < (x6.length : Int))) ∨ (10 < (x7.2.length : Int))) then (some true) else
(Xcb x0).bind fun u30 => (X7w u30).bind fun u38 => (X3v u38.1.1 2 u38.2.1).bind fun u59 => Xa (X9 x3 x5 x6 u38.1.1.2 u38.1.2.2 u38.2.2.1 x7.2) x2 x5 ([u38.1, x1, u59.1] : List ((Int × (List (Int × Int))) × Int × (List (List (ByteArray × Int))))) u59.1.1.1 u59.1.2.1 u38.1.1.1 u38.1.2.1 u38.2.2.2 x7.1 x4 x1.1.1 x1.2.1
end Go.Proofs.YtmfppphlhgneeaaGreat
end

section
namespace Go.Proofs.YtmfppphlhgneeaaGreat
open Go.RowKit Go.MapKept
set_option linter.unusedSectionVars false
set_option linter.unusedSimpArgs false
section
variable {α β : Type} [DecidableEq α]
def mEs (f : α → Value) (g : β → Value) : Nat → List (α × β) → List MapEntry
  | _, [] => []
  | n, x :: l => ⟨f x.1, g x.2, n⟩ :: mEs f g (n + 1) l
abbrev mObj (f : α → Value) (g : β → Value) (l : List (α × β)) : Obj := .map (mEs f g 0 l).toArray l.length
theorem Xja (f : α → Value) (g : β → Value) (x : α × β) : ∀ (n : Nat) (l : List (α × β)), mEs f g n (l ++ [x]) = mEs f g n l ++ [⟨f x.1, g x.2, n + l.length⟩]
  | n, [] => rfl
  | n, y :: l => by
    simp only [List.cons_append, mEs, List.length_cons, Xja f g x (n + 1) l]
    rw [show n + 1 + l.length = n + (l.length + 1) by omega]
theorem Xjb (f : α → Value) (g : β → Value) (k : α) (v : β) : ∀ (j n : Nat) (l : List (α × β)), j < l.length → (mEs f g n l).modify j (fun e => { e with key := f k, val := g v }) = mEs f g n (l.set j (k, v))
  | _, _, [], h => by simp at h
  | 0, n, y :: l, _ => by simp [mEs, List.modify]
  | j + 1, n, y :: l, h => by
    have := Xjb f g k v j (n + 1) l (by simpa using h)
    simp only [mEs, List.modify_succ_cons, List.set_cons_succ, this]
theorem Xf5 {d : TypeDesc} {f : α → Value} {g : β → Value} (hK : ∀ a, IsKey d (f a)) (hi : ∀ a b, f a = f b → a = b) (k : α) (v : β) : ∀ (l : List (α × β)) (n i : Nat),
    (mget l k = none ∧ Instr.findNow d (f k) (mEs f g n l) i = some none ∧ mput l k v = l ++ [(k, v)]) ∨
    ∃ b j, mget l k = some b ∧ Instr.findNow d (f k) (mEs f g n l) i = some (some (i + j, g b)) ∧ j < l.length ∧ mput l k v = l.set j (k, v) ∧ ∃ e, (mEs f g n l)[j]? = some e ∧ e.key = f k
  | [], n, i => .inl ⟨rfl, rfl, rfl⟩
  | (a, b) :: l, n, i => by
    obtain ⟨r, hr, hiff⟩ := sameNow_of_keys (hK k) (hK a)
    by_cases h : a = k
    · subst h
      have : r = true := hiff.2 rfl
      subst this
      exact .inr ⟨b, 0, by simp [mget], by simp [mEs, Instr.findNow, hr], by simp, by simp [mput], _, rfl, rfl⟩
    · have hr2 : r = false := by
        cases r with
        | false => rfl
        | true => exact absurd (hi _ _ (hiff.1 rfl)).symm h
      subst hr2
      rcases Xf5 (g := g) hK hi k v l (n + 1) (i + 1) with ⟨h1, h2, h3⟩ | ⟨b', j, h1, h2, h3, h4, e, h5, h6⟩
      · exact .inl ⟨by simp [mget, h, h1], by simp [mEs, Instr.findNow, hr, h2], by simp [mput, h, h3]⟩
      · exact .inr ⟨b', j + 1, by simp [mget, h, h1], by simp [mEs, Instr.findNow, hr, h2]; omega, by simpa using h3, by simp [mput, h, h4], e, by simpa [mEs] using h5, h6⟩
theorem Xlb {P : Program} {w : World} {t kt et : TypeId} {d : TypeDesc} {f : α → Value} {g : β → Value} (hm : P.underlying t = some (.map kt et)) (hd : P.underlying kt = some d) (hK : ∀ a, IsKey d (f a)) (hi : ∀ a b, f a = f b → a = b) {r : Nat} {l : List (α × β)} (hb : w.heap[r]? = some (mObj f g l)) (k : α) (v : β) :
    (Instr.mapUpdate t (.map (some r)) (f k) (g v)).run P w = .ok () { w with heap := w.heap.setIfInBounds r (mObj f g (mput l k v)) } := by
  rcases Xf5 hK hi (g := g) k v l 0 0 with ⟨_, h2, h3⟩ | ⟨b, j, _, h2, h3, h4, e, h5, h6⟩
  · rw [h3]
    simp [Instr.mapUpdate, run_underlying hm, MapKept.run_getObj_map hb, MapKept.run_checkKey hd (hK k), MapKept.run_findKey hd h2, MapKept.run_setObj_map _ hb]
    rw [mObj, Xja, List.length_append, Nat.zero_add]; rfl
  · rw [h4]
    have hk : (((mEs f g 0 l).toArray[j]?).map (·.key)).getD (f k) = f k := by simp [h5, h6]
    simp only [Nat.zero_add] at h2
    have e2 : (mEs f g 0 l).toArray.modify j (fun e => { e with key := f k, val := g v }) = (mEs f g 0 (l.set j (k, v))).toArray := by
      rw [← Xjb f g k v j 0 l h3]
      apply Array.ext'
      simp
    simp only [Instr.mapUpdate, Sem.run_bind, run_underlying hm, Result.andThen_ok, MapKept.run_getObj_map hb, MapKept.run_checkKey hd (hK k), MapKept.run_findKey hd h2, hk, MapKept.run_keyThatStays (hK k), e2]
    rw [mObj, List.length_set]
    exact MapKept.run_setObj_map _ hb
theorem Xlc {P : Program} {w : World} {t kt et : TypeId} {d : TypeDesc} {f : α → Value} {g : β → Value} {z : β} (hm : P.underlying t = some (.map kt et)) (hd : P.underlying kt = some d) (hK : ∀ a, IsKey d (f a)) (hi : ∀ a b, f a = f b → a = b) (hz : (P.info? et).bind (·.zero) = some (g z)) {r : Nat} {l : List (α × β)} (hb : w.heap[r]? = some (mObj f g l)) (k : α) :
    (Instr.lookup t (.map (some r)) (f k) false).run P w = .ok (g ((mget l k).getD z)) w := by
  have hzr : (zeroValue et).run P w = .ok (g z) w := by
    cases h1 : P.info? et with
    | none => rw [h1] at hz; cases hz
    | some i =>
      rw [h1] at hz
      cases h2 : i.zero with
      | none => rw [Option.bind_some, h2] at hz; cases hz
      | some u =>
        rw [Option.bind_some, h2] at hz
        obtain rfl := Option.some.inj hz
        simp [zeroValue, typeInfo, h1, h2]
  rcases Xf5 hK hi (g := g) k z l 0 0 with ⟨h1, h2, _⟩ | ⟨b, j, h1, h2, _⟩
  · simp [Instr.lookup, run_underlying hm, MapKept.run_getObj_map hb, MapKept.run_checkKey hd (hK k), MapKept.run_findKey hd h2, h1, hzr]
  · simp [Instr.lookup, run_underlying hm, MapKept.run_getObj_map hb, MapKept.run_checkKey hd (hK k), MapKept.run_findKey hd h2, h1]
end
section
variable {P : Program} {c : Cx} {R : Value → World → Prop} {nt : Nat} {w0 : World} {S0 : List Nat} {df : List Deferred} {ρ ρ' : Env} {Fs Fs' : List Hp} {bl bl' : Blks} {sl sl' : List OwnS}
  {K K' : Act → World → Prop} {k : List Item} {ty : TypeId} {α β : Type} [DecidableEq α]
theorem Cov.mkMap {d : Nat} {t : TypeId} (f : α → Value) (g : β → Value) (hs : Stp P K' ⟨some d, .makeMap t none, ty, none⟩ K) (hd : Nat.blt d nt = true)
    (hk : ∀ b, w0.heap.size ≤ b → Cov nt w0 S0 df ((d, .map (some b)) :: ρ) Fs ((b, mObj f g []) :: bl) sl K) : Cov nt w0 S0 df ρ Fs bl sl K' :=
  .new_ (fv := fun b => .map (some b)) hs (fun _ _ _ _ => X63 (s := Instr.makeMap t none) rfl) hd hk
theorem Cov.mapPut (i : Nat) {f : α → Value} {g : β → Value} {l : List (α × β)} {x : α} {y : β} {t kt et : TypeId} {dsc : TypeDesc} {m p q : Operand} {b : Nat} {op : Op} (hop : op = .mapUpdate t m p q ∨ op = .insert t m p q) (hs : Stp P K' ⟨none, op, ty, none⟩ K)
    (hm : ev ρ m = some (.map (some b))) (hp : ev ρ p = some (f x)) (hq : ev ρ q = some (g y)) (hb : bl[i]? = some (b, mObj f g l)) (ht : P.underlying t = some (.map kt et)) (hd : P.underlying kt = some dsc) (hK : ∀ a, IsKey dsc (f a)) (hi : ∀ a b, f a = f b → a = b)
    (bl' : Blks) (hbl : bl.set i (b, mObj f g (mput l x y)) = bl') (hk : Cov nt w0 S0 df ρ Fs bl' sl K) : Cov nt w0 S0 df ρ Fs bl sl K' := fun a w hf hinv => by
  refine hs a w ?_
  have hbw : w.heap[b]? = some (mObj f g l) := hinv.mem.own _ (List.mem_of_getElem? hb)
  have hr := Xlb (P := P) (w := w) ht hd hK hi hbw x y
  have hrun : (execOp a.eval (⟨none, op, ty, none⟩ : OpX).oper).run P w = .ok .skip { w with heap := w.heap.setIfInBounds b (mObj f g (mput l x y)) } := by
    rcases hop with rfl | rfl
    · refine Xiw (s := Instr.mapUpdate t (a.eval m) (a.eval p) (a.eval q)) ?_
      rw [Xv hf hm, Xv hf hp, Xv hf hq]; exact hr
    · refine Xiw (s := Instr.mapUpdate t (a.eval m) (a.eval p) (a.eval q)) ?_
      rw [Xv hf hm, Xv hf hp, Xv hf hq]; exact hr
  unfold Oper.wp
  rw [hrun]
  subst hbl
  have hlt : b < w.heap.size := (Array.getElem?_eq_some_iff.1 hbw).1
  exact hk _ _ (hf.put_none _) (hinv.set i hb ⟨rfl, rfl, rfl, by simp, fun z _ hz => by simp only [List.mem_singleton] at hz; simp [Ne.symm hz]⟩ (by simp [hlt]))
theorem QOp.mapGet (i : Nat) {f : α → Value} {g : β → Value} {l : List (α × β)} {x : α} {z : β} {t kt et : TypeId} {dsc : TypeDesc} {m p : Operand} {b : Nat} (hm : ev ρ m = some (.map (some b))) (hp : ev ρ p = some (f x)) (hb : bl[i]? = some (b, mObj f g l)) (ht : P.underlying t = some (.map kt et)) (hd : P.underlying kt = some dsc)
    (hK : ∀ a, IsKey dsc (f a)) (hi : ∀ a b, f a = f b → a = b) (hz : (P.info? et).bind (·.zero) = some (g z)) : QOp P ρ Fs bl sl (.lookup t m p false) ty (g ((mget l x).getD z)) := .of fun e he w hmem => by
  have hbw : w.heap[b]? = some (mObj f g l) := hmem.own _ (List.mem_of_getElem? hb)
  refine X63 (s := Instr.lookup t (e m) (e p) false) ?_
  rw [he m _ hm, he p _ hp]
  exact Xlc ht hd hK hi hz hbw x
end
theorem Xhn : ∀ a : ByteArray, IsKey .string (.string a) := fun _ => trivial
theorem Xho : ∀ a b : ByteArray, Value.string a = Value.string b → a = b := fun _ _ h => by cases h; rfl
end Go.Proofs.YtmfppphlhgneeaaGreat
end

section
namespace Go.Proofs.YtmfppphlhgneeaaGreat
open Go.RowKit
section
variable {P : Program} {c : Cx} {R : Value → World → Prop} {nt : Nat} {w0 : World} {S0 : List Nat} {df : List Deferred} {ρ ρ' : Env} {Fs Fs' Fin B : List Hp} {bl bl' : Blks} {sl sl' : List OwnS}
  {K K' : Act → World → Prop} {k : List Item} {ty : TypeId} {G : Hp} {α : Type}
theorem QOp.cap {t el : TypeId} {x : Operand} {a : Option Addr} {n m : Nat} (hx : ev ρ x = some (.slice a n m)) (ht : slOf P t = some el) : QOp P ρ Fs bl sl (.call ⟨.builtin .cap, #[x], #[t]⟩) ty (.int .i64 m) := .of fun e he w _ => by
  refine X57 (X63 ?_)
  have hu := X5o ht
  simp [Builtin.cap_, he x _ hx, run_underlying hu, goInt]
end
end Go.Proofs.YtmfppphlhgneeaaGreat
end

section
namespace Go.Proofs.YtmfppphlhgneeaaGreat
open Go.RowKit
def YieldsX (P : Program) (y : Value) (V : Nat → List Value → Prop) (Fs : List Hp) (𝒢 : Nat → Guest → Prop) (ℰ : Guest → Prop) : Prop :=
  ∃ l, y = .func (.yield l) #[] #[] ∧ ∀ (i : Nat) (v : List Value), V i v → ∀ R, 𝒢 i R → ∀ w, (∀ G ∈ Fs, HpIn G w) → R.holds w →
    ∃ f tmps as1 body, (Instr.yield l v.toArray).run P w = .ok (.round l f tmps as1 body) w ∧
      RoundV P l f tmps as1 body w fun r w' => ∃ R', ((r = .bool true ∧ 𝒢 (i + 1) R') ∨ (r = .bool false ∧ ℰ R')) ∧ R'.holds w' ∧ Keep w R.blks w' ∧ ∀ b ∈ R'.blks, b ∈ R.blks ∨ w.heap.size ≤ b
def IterX (P : Program) (f : FuncId) (cap : List Value) (Fs : List Hp) (N : Nat) (V : Nat → List Value → Prop) : Prop :=
  ∀ (y : Value) (𝒢 : Nat → Guest → Prop) (ℰ : Guest → Prop) (R0 : Guest), YieldsX P y V Fs 𝒢 ℰ → 𝒢 0 R0 → RetG P f (y :: cap).toArray Fs [] [.g R0] fun _ _ bl sl => bl = [] ∧ ∃ R, (𝒢 N R ∨ ℰ R) ∧ sl = [.g R]
def IterRX (P : Program) {α : Type} (Y : Yr α) (f : FuncId) (cap : List Value) (G : Hp) (l : List α) : Prop :=
  ∀ Fs G1, HpLe G G1 → G1 ∈ Fs → IterX P f cap Fs l.length (fun i v => ∃ x, l[i]? = some x ∧ Y.r G1 v x)
theorem IterRX.mono {P : Program} {α : Type} {Y : Yr α} {f : FuncId} {cap : List Value} {G G' : Hp} {l : List α} (hg : HpLe G G') (h : IterRX P Y f cap G l) : IterRX P Y f cap G' l := fun Fs G1 h1 h2 => h Fs G1 (hg.trans h1) h2
def doneObj (f : FuncId) (tmps : Array Value) (ps : Array Tmp) (as1 body : Code) (defers : Nat) (J : Code) : Obj := .loop { state := .done, pending := some J, fn := f, tmps := tmps, params := ps, assign := as1, body := body, defers := defers }
def RoundX {α β : Type} (FsD : α → List Hp) (blD : α → Blks) (slD : α → List OwnS) (FsE : β → List Hp) (blE : β → Blks) (slE : β → List OwnS) (FsS FinR : List Hp) (I1 : α → Prop) (IE : β → Prop) (l : Nat) (lo : Obj) (le : β → Obj) (w1 : World) (S1 : List Nat) (r : Value) (w' : World) : Prop :=
  (r = .bool true ∧ ∃ x', I1 x' ∧ (∀ G ∈ FsD x', Bd w1 S1 FinR G) ∧ Inv w1 S1 (FsD x' ++ FsS) (blD x' ++ [(l, lo)]) (slD x') w') ∨
  (r = .bool false ∧ ∃ y, IE y ∧ (∀ G ∈ FsE y, Bd w1 S1 FinR G) ∧ Inv w1 S1 (FsE y ++ FsS) (blE y ++ [(l, le y)]) (slE y) w')
section
variable {P : Program} {c : Cx} {R0 : Value → World → Prop} {nt : Nat} {w0 : World} {S0 : List Nat} {df : List Deferred} {ρ ρ' : Env} {Fs Fs' Fin : List Hp} {bl bl' bls : Blks} {sl sl' sls : List OwnS}
  {K K' : Act → World → Prop} {k : List Item} {ty : TypeId}
theorem Cov.yieldX {y : Value} {V : Nat → List Value → Prop} {F0 : List Hp} {𝒢 : Nat → Guest → Prop} {ℰ : Guest → Prop} {i : Nat} {R : Guest} {v : List Value} {d : Nat} {fop : Operand} {args : Array Operand} {ts : Array TypeId} {os : List OpX}
    (hy : YieldsX P y V F0 𝒢 ℰ) (hi : V i v) (hR : 𝒢 i R) (hF : ∀ G ∈ F0, G ∈ Fs) (hf : ev ρ fop = some y) (ha : args.toList.map (ev ρ) = v.map some) (hd : Nat.blt d nt = true)
    (hk : ∀ R', 𝒢 (i + 1) R' → Cov nt w0 S0 df ((d, .bool true) :: ρ) Fs bl (.g R' :: sl) (RO P c R0 os k))
    (he : ∀ R', ℰ R' → Cov nt w0 S0 df ((d, .bool false) :: ρ) Fs bl (.g R' :: sl) (RO P c R0 os k)) :
    Cov nt w0 S0 df ρ Fs bl (.g R :: sl) (RO P c R0 (⟨some d, .call ⟨.value fop, args, ts⟩, ty, none⟩ :: os) k) := fun a w hfi hinv => by
  simp only [RO, wantedT, if_true]
  refine .inr ?_
  obtain ⟨l, rfl, hy⟩ := hy
  obtain ⟨f, tmps, as1, body, hr, hround⟩ := hy i v hi R hR w (fun G hG => hinv.mem.fs G (hF G hG)) (hinv.mem.slh _ List.mem_cons_self)
  have key : ∀ (l : List Operand) (vl : List Value), l.map (ev ρ) = vl.map some → l.map a.eval = vl := by
    intro l
    induction l with
    | nil => intro vl h; cases vl <;> simp at h ⊢
    | cons x l ih =>
      intro vl h
      cases vl with
      | nil => simp at h
      | cons v vl =>
        simp only [List.map_cons, List.cons.injEq] at h
        simp only [List.map_cons, Xv hfi h.1, ih vl h.2]
  have h1 : args.map a.eval = v.toArray := by rw [← Array.toList_inj]; simpa using key _ _ ha
  refine ⟨l, f, tmps, as1, body, w, ?_, ?_⟩
  · simp only [OpX.oper, execOp, resolve, h1, Xv hfi hf, Deferred.ofValue]
    simp only [Sem.run_bind, Sem.run_pure, Result.andThen_ok, invoke]
    simpa using hr
  · intro cl cs
    obtain ⟨r, w', ⟨R', h2, h3, h4, h5⟩, hs⟩ := hround cl cs
    have hinv' := hinv.set_s 0 (s := .g R) (s' := .g R') rfl h4 h3 R'.nodup h5
    rcases h2 with ⟨rfl, h2⟩ | ⟨rfl, h2⟩
    · exact ⟨.bool true, w', hk R' h2 _ w' (hfi.put hd _) hinv', hs⟩
    · exact ⟨.bool false, w', he R' h2 _ w' (hfi.put hd _) hinv', hs⟩
section
variable {α β : Type} {FsD : α → List Hp} {blD : α → Blks} {slD : α → List OwnS} {FsE : β → List Hp} {blE : β → Blks} {slE : β → List OwnS} {FsS FinR : List Hp} {I1 : α → Prop} {IE : β → Prop} {l : Nat} {le : β → Obj} {f : FuncId} {tmps : Array Value} {ps : Array Tmp} {as1 body : Code} {D : Nat}
theorem Cov.round_endX (x' : α) (j : Nat) (hro : c.ro = some l) (hb : bl[j]? = some (l, loopObj .busy f tmps ps as1 body D)) (hI : I1 x')
    (hbl : bl.set j (l, loopObj .ready f tmps ps as1 body D) = blD x' ++ [(l, loopObj .ready f tmps ps as1 body D)]) (hsl : sl = slD x') (hFs : ∀ G ∈ FsD x' ++ FsS, G ∈ Fs) (hbd : ∀ G ∈ FsD x', Bd w0 S0 FinR G) :
    Cov nt w0 S0 [] ρ Fs bl sl (Run P c (RoundX FsD blD slD FsE blE slE FsS FinR I1 IE l (loopObj .ready f tmps ps as1 body D) le w0 S0) []) := fun a w hf hi => by
  subst hsl
  have hl := hi.mem.own _ (List.mem_of_getElem? hb)
  have hr := run_endRound (P := P) (w := w) (l := l) none hl
  have hi2 := hi.set j hb (Keep.putObj w l (loopObj .ready f tmps ps as1 body D)) (World.putObj_heap_same (X94 hl))
  rw [hbl] at hi2
  have hi3 := hi2.change (Fs' := FsD x' ++ FsS) (bl' := blD x' ++ [(l, loopObj .ready f tmps ps as1 body D)]) (sl' := slD x') [] (by simp) (Keep.refl _ []) (fun G hG => .inl (hFs G hG)) hi2.mem.own hi2.mem.slh hi2.nodup (fun _ hb => .inl hb)
  intro cs hcs
  refine ⟨.bool true, _, .inl ⟨rfl, x', hI, hbd, hi3⟩, ?_⟩
  unfold Done
  simp only [hro]
  cases cs with
  | nil => exact absurd rfl (hcs (by simp [hro]))
  | cons cl cs =>
    refine ⟨cl, cs, rfl, .one ?_⟩
    exact stepR_round_end (P := P) (b := c.fr a []) (a := a) (c := cl) (cs := cs) (w := w) hro rfl hr
end
def GstE {β : Type} (FsE : β → List Hp) (blE : β → Blks) (slE : β → List OwnS) (FsS : List Hp) (l : Nat) (le : β → Obj) (w0 : World) (S0 : List Nat) (IE : β → Prop) (R : Guest) : Prop := ∃ x, IE x ∧ PureOK FsE blE slE FsS l (le x) w0 S0 x ∧ ∃ B hB hnd, R = mkGuest FsE blE slE FsS l (le x) x B hB hnd
theorem Xjc {γ : Type} {FsX : γ → List Hp} {blX : γ → Blks} {slX : γ → List OwnS} {FsD1 FsS : List Hp} {l : Nat} {lo : Obj} {x' : γ} {w w' : World} {bin : List Nat} {B : List Nat} (hSB : ∀ b ∈ bin, b ∈ B) (hsz : w0.heap.size ≤ w.heap.size)
    (hbin : ∀ b ∈ bin, b ∈ S0 ∨ w0.heap.size ≤ b) (hF1 : ∀ G ∈ FsD1, Bd w0 S0 FsS G) (hFB : ∀ G ∈ FsD1, ∀ b o, G b = some o → (∃ F ∈ FsS, (F b).isSome = true) ∨ b ∈ B)
    (hbd : ∀ G ∈ FsX x', Bd w bin (FsD1 ++ FsS) G) (hinv' : Inv w bin (FsX x' ++ FsS) (blX x' ++ [(l, lo)]) (slX x') w') :
    PureOK FsX blX slX FsS l lo w0 S0 x' ∧ ∃ B' hB' hnd', (mkGuest FsX blX slX FsS l lo x' B' hB' hnd').holds w' ∧ Keep w B w' ∧ ∀ b ∈ B', b ∈ B ∨ w.heap.size ≤ b := by
  obtain ⟨B', hB', hnd', hh', hg'⟩ := Xd0 hinv'
  refine ⟨⟨hinv'.nodup, hinv'.apart, fun b hb => ?_, fun G hG b o ho => ?_⟩, B', hB', hnd', hh', ⟨hinv'.keep.os, hinv'.keep.tape, hinv'.keep.output, hinv'.keep.size, fun b hb hn => hinv'.keep.block b hb (fun h => hn (hSB b h))⟩, fun b hb => ?_⟩
  · rcases hinv'.mine b hb with h | h
    · exact hbin b h
    · exact .inr (Nat.le_trans hsz h)
  · rcases hbd G hG b o ho with h | h | ⟨F, hF, hf⟩
    · exact .inl (Nat.le_trans hsz h)
    · rcases hbin b h with h | h
      · exact .inr (.inl h)
      · exact .inl h
    · rcases List.mem_append.1 hF with hF | hF
      · exact hF1 F hF b o hf
      · exact .inr (.inr ⟨F, hF, hf⟩)
  · rcases hg' b hb with h | ⟨⟨G, hG, hs⟩, hn⟩
    · rcases hinv'.mine b h with h | h
      · exact .inl (hSB b h)
      · exact .inr h
    · obtain ⟨o, ho⟩ := Option.isSome_iff_exists.1 hs
      rcases hbd G hG b o ho with h | h | ⟨F, hF, hf⟩
      · exact .inr h
      · exact .inl (hSB b h)
      · rcases List.mem_append.1 hF with hF | hF
        · rcases hFB F hF b o hf with h | h
          · exact absurd h hn
          · exact .inl h
        · exact absurd ⟨F, hF, by rw [hf]; rfl⟩ hn
section
variable {α β : Type} {FsD : α → List Hp} {blD : α → Blks} {slD : α → List OwnS} {FsE : β → List Hp} {blE : β → Blks} {slE : β → List OwnS} {FsS : List Hp} {l : Nat} {lo : Obj} {le : β → Obj}
theorem Xim {c : Cx} {V : Nat → List Value → Prop} {ps : Array Tmp} {as1 body : Code} {tmps : Array Value} {D : Nat} (I : Nat → α → Prop) (IE : β → Prop) (hlo : lo = loopObj .ready c.fn tmps ps as1 body D) (hlb : w0.heap.size ≤ l)
    (hps : ∀ i v, V i v → v.length = ps.size) (hpt : ps.all (Nat.blt · nt) = true) (hfit : Fits nt [] ρ { tmps := tmps, defers := [] })
    (round : ∀ (i : Nat) (x : α) (v : List Value), V i v → I i x → ∀ w1 S1, w0.heap.size ≤ w1.heap.size → Cov nt w1 S1 [] ((ps.toList.zip v).reverse ++ ρ) (FsD x ++ FsS) (blD x ++ [(l, lo)]) (slD x)
      (Run P ⟨c.fn, some l⟩ (RoundX FsD blD slD FsE blE slE FsS (FsD x ++ FsS) (I (i + 1)) IE l lo le w1 S1) [.code as1, .beginRound, .code body])) :
    YieldsX P (.func (.yield l) #[] #[]) V FsS (Gst FsD blD slD FsS l lo w0 S0 I) (GstE FsE blE slE FsS l le w0 S0 IE) := by
  refine ⟨l, rfl, fun i v hv R hR w hFs hh => ?_⟩
  obtain ⟨x, hI, hp, B, hB, hnd, rfl⟩ := hR
  obtain ⟨hh1, hh2, hh3, hh4⟩ := hh
  have hl : w.heap[l]? = some lo := hh2 (l, lo) (List.mem_append_right _ List.mem_cons_self)
  have hl' := hl
  rw [hlo] at hl'
  have hvl := hps i v hv
  refine ⟨_, _, _, _, run_yield (P := P) (args := v.toArray) hl' (by simpa using hvl), fun cl cs => ?_⟩
  have hfold : ((ps.zip v.toArray).foldl (fun tmps (t, a) => tmps.setIfInBounds t a) tmps) = (ps.toList.zip v).foldl (fun t p => t.setIfInBounds p.1 p.2) tmps := by
    rw [← Array.foldl_toList]
    simp
  have hfit2 := Xby (ps.toList.zip v) (ds := []) hfit (fun p hp => by
    have h1 := (List.of_mem_zip hp).1
    have h2 := Array.all_eq_true'.1 hpt p.1 (by simpa using h1)
    exact h2) rfl
  have hSB : ∀ b ∈ blks (blD x ++ [(l, lo)]) (slD x), b ∈ B := fun b hb => hB b (.inl hb)
  have hinv : Inv w (blks (blD x ++ [(l, lo)]) (slD x)) (FsD x ++ FsS) (blD x ++ [(l, lo)]) (slD x) w :=
    ⟨⟨fun G hG => by
      rcases List.mem_append.1 hG with hG | hG
      · intro b o hb
        rcases hh1 G hG b o hb with ⟨F, hF, hf⟩ | ⟨_, h⟩
        · exact hFs F hF b o hf
        · exact h
      · exact hFs G hG, hh2, hh3⟩, Keep.refl _ _, hp.1, fun b hb => .inl hb, hp.2.1⟩
  have hsz : w0.heap.size ≤ w.heap.size := by have := X94 hl; omega
  have hFB : ∀ G ∈ FsD x, ∀ b o, G b = some o → (∃ F ∈ FsS, (F b).isSome = true) ∨ b ∈ B := fun G hG b o ho => by
    rcases hh1 G hG b o ho with ⟨F, hF, hf⟩ | ⟨h, _⟩
    · exact .inl ⟨F, hF, by rw [hf]; rfl⟩
    · exact .inr h
  obtain ⟨r, w', hX, hd⟩ := round i x v hv hI w _ hsz _ w hfit2 hinv (cl :: cs) (by simp)
  have hd2 : Steps P (lone (Frame.round l c.fn ((ps.zip v.toArray).foldl (fun tmps (t, a) => tmps.setIfInBounds t a) tmps) as1 body .normal) (cl :: cs) w) (lone (cl.finish r) cs w') := by
    unfold Done at hd
    simp only at hd
    obtain ⟨caller, cs', he, hs⟩ := hd
    obtain ⟨rfl, rfl⟩ := List.cons.inj he
    have : Frame.round l c.fn ((ps.zip v.toArray).foldl (fun tmps (t, a) => tmps.setIfInBounds t a) tmps) as1 body .normal = (⟨c.fn, some l⟩ : Cx).fr { tmps := (ps.toList.zip v).foldl (fun t p => t.setIfInBounds p.1 p.2) tmps, defers := [] } [.code as1, .beginRound, .code body] := by
      rw [hfold]; rfl
    rw [this]
    exact hs
  rcases hX with ⟨rfl, x', hI', hbd, hinv'⟩ | ⟨rfl, y', hI', hbd, hinv'⟩
  · obtain ⟨hp', B', hB', hnd', h1, h2, h3⟩ := Xjc hSB hsz hp.2.2.1 hp.2.2.2 hFB hbd hinv'
    exact ⟨.bool true, w', ⟨mkGuest FsD blD slD FsS l lo x' B' hB' hnd', .inl ⟨rfl, x', hI', hp', B', hB', hnd', rfl⟩, h1, h2, h3⟩, hd2⟩
  · obtain ⟨hp', B', hB', hnd', h1, h2, h3⟩ := Xjc hSB hsz hp.2.2.1 hp.2.2.2 hFB hbd hinv'
    exact ⟨.bool false, w', ⟨mkGuest FsE blE slE FsS l (le y') y' B' hB' hnd', .inr ⟨rfl, y', hI', hp', B', hB', hnd', rfl⟩, h1, h2, h3⟩, hd2⟩
end
theorem Xgg {γ : Type} {FsX : γ → List Hp} {blX : γ → Blks} {slX : γ → List OwnS} {FsS : List Hp} {x : γ} {lo : Obj} {l : Nat} {Fr : Hp} {w3 : World} {B : List Nat} {hB : ∀ b, gset FsX blX slX FsS l lo x b → b ∈ B} {hnd : B.Nodup}
    (hi6 : Inv w0 S0 (Fr :: FsS) ([] ++ bls) ([.g (mkGuest FsX blX slX FsS l lo x B hB hnd)] ++ sls) w3) (hpx : PureOK FsX blX slX FsS l lo w0 S0 x) (o' : Obj) : w3.heap[l]? = some lo ∧ Inv w0 S0 (FsX x ++ FsS) (blX x ++ bls) (slX x ++ sls) (w3.putObj l o') := by
  obtain ⟨hh1, hh2, hh3, hh4⟩ := hi6.mem.slh _ (List.mem_cons_self)
  have hpb6 : ∀ b, b ∈ B ∨ b ∈ blks bls sls → b ∈ blks ([] ++ bls) ([OwnS.g (mkGuest FsX blX slX FsS l lo x B hB hnd)] ++ sls) := fun b hb => by
    refine (X1f _ _ _ _ _).2 (hb.imp (fun h => ?_) id)
    simpa [blks, OwnS.blocks, mkGuest] using h
  have hnd6 := (X64 [] bls [OwnS.g (mkGuest FsX blX slX FsS l lo x B hB hnd)] sls).nodup_iff.1 hi6.nodup
  have hgb : blks [] [OwnS.g (mkGuest FsX blX slX FsS l lo x B hB hnd)] = B := by simp [blks, OwnS.blocks, mkGuest]
  rw [hgb, List.nodup_append] at hnd6
  have hxB : ∀ b ∈ blks (blX x ++ [(l, lo)]) (slX x), b ∈ B := fun b hb => hB b (.inl hb)
  have hi7 : Inv w0 S0 (FsX x ++ FsS) ((blX x ++ [(l, lo)]) ++ bls) (slX x ++ sls) w3 := by
    refine hi6.change [] (by simp) (Keep.refl w3 []) (fun G hG => ?_) (fun p hp => ?_) (fun s hs => ?_) ?_ (fun b hb => .inl ?_)
    · rcases List.mem_append.1 hG with hG | hG
      · refine .inr ⟨fun b o hb => ?_, fun b hb => ?_⟩
        · rcases hh1 G hG b o hb with ⟨F, hF, hf'⟩ | ⟨_, h⟩
          · exact hi6.mem.fs F (List.mem_cons_of_mem _ hF) b o hf'
          · exact h
        · rcases (X1f _ _ _ _ _).1 hb with h | h
          · exact hpx.2.1 b h G (List.mem_append_left _ hG)
          · cases hg' : G b with
            | none => rfl
            | some o =>
              rcases hh1 G hG b o hg' with ⟨F, hF, hf'⟩ | ⟨h1, _⟩
              · rw [hi6.apart b (hpb6 b (.inr h)) F (List.mem_cons_of_mem _ hF)] at hf'; cases hf'
              · exact absurd rfl (hnd6.2.2 b h1 b h)
      · exact .inl (List.mem_cons_of_mem _ hG)
    · rcases List.mem_append.1 hp with hp | hp
      · exact hh2 p hp
      · exact hi6.mem.own p (List.mem_append_right _ hp)
    · rcases List.mem_append.1 hs with hs | hs
      · exact hh3 s hs
      · exact hi6.mem.slh s (List.mem_append_right _ hs)
    · rw [(X64 _ _ (slX x) sls).nodup_iff, List.nodup_append]
      exact ⟨hpx.1, hnd6.2.1, fun a' ha b hb e => hnd6.2.2 a' (hxB a' ha) b hb e⟩
    · rcases (X1f _ _ _ _ _).1 hb with h | h
      · exact hpb6 b (.inl (hxB b h))
      · exact hpb6 b (.inr h)
  have hl3 : w3.heap[l]? = some lo := hi7.mem.own (l, lo) (List.mem_append_left _ (List.mem_append_right _ List.mem_cons_self))
  refine ⟨hl3, ?_⟩
  have hp8 : (blks ((blX x ++ [(l, lo)]) ++ bls) (slX x ++ sls)).Perm (l :: blks (blX x ++ bls) (slX x ++ sls)) := by
    simp only [blks, List.append_assoc, List.map_append, List.map_cons, List.map_nil, List.cons_append, List.nil_append]
    exact List.perm_middle
  have hnd8 := List.nodup_cons.1 (hp8.nodup_iff.1 hi7.nodup)
  have hk : ∀ b ∈ blks (blX x ++ bls) (slX x ++ sls), (w3.putObj l o').heap[b]? = w3.heap[b]? := fun b hb =>
    World.putObj_heap_other (fun e => hnd8.1 (e ▸ hb))
  refine hi7.change [l] (fun b hb => ?_) (Keep.putObj w3 _ _) (fun G hG => .inl hG) (fun p hp => ?_) (fun s hs => ?_) hnd8.2 (fun b hb => .inl (hp8.mem_iff.2 (List.mem_cons_of_mem _ hb)))
  · simp only [List.mem_singleton] at hb
    subst hb
    exact hp8.mem_iff.2 List.mem_cons_self
  · rw [hk p.1 (List.mem_append_left _ (List.mem_map.2 ⟨p, hp, rfl⟩))]
    refine hi7.mem.own p ?_
    rcases List.mem_append.1 hp with hp | hp
    · exact List.mem_append_left _ (List.mem_append_left _ hp)
    · exact List.mem_append_right _ hp
  · exact OwnS.same (hi7.mem.slh s hs) fun b hb => hk b (List.mem_append_right _ (List.mem_flatMap.2 ⟨s, hs, hb⟩))
theorem rangeCore {α β : Type} {FsD : α → List Hp} {blD : α → Blks} {slD : α → List OwnS} {FsE : β → List Hp} {blE : β → Blks} {slE : β → List OwnS} {J : β → Code} {I : Nat → α → Prop} {IE : β → Prop} {x0 : α} {g : Operand} {ps : Array Tmp} {as1 body : Code} {f : FuncId} {cap : List Value} {N : Nat} {V : Nat → List Value → Prop} {FsS : List Hp}
    {a : Act} {w w1 : World} {D : Nat} {mark : List Deferred} {l : Nat} (hf : Fits nt df ρ a) (he : (Instr.enterLoop c.fn a.tmps ps as1 body c.ro).run P w = .ok (l, mark) w1)
    (hi3 : Inv w0 S0 (FsD x0 ++ FsS) ((blD x0 ++ [(l, loopObj .ready c.fn a.tmps ps as1 body D)]) ++ bls) (slD x0 ++ sls) w1) (hlb : w0.heap.size ≤ l)
    (hg : ev ρ g = some (.func (.func f) #[] cap.toArray)) (hcall : ∀ args w, (callFunc f args).run P w = .ok (.enter f args) w) (hF0 : ∀ G ∈ FsD x0, ∀ b, G b = none)
    (hit : IterX P f cap FsS N V) (hps : ∀ i v, V i v → v.length = ps.size) (hpt : ps.all (Nat.blt · nt) = true) (hI : I 0 x0)
    (round : ∀ (i : Nat) (x : α) (v : List Value), V i v → I i x → ∀ w1 S1, w0.heap.size ≤ w1.heap.size →
      Cov nt w1 S1 [] ((ps.toList.zip v).reverse ++ ρ) (FsD x ++ FsS) (blD x ++ [(l, loopObj .ready c.fn a.tmps ps as1 body D)]) (slD x)
        (Run P ⟨c.fn, some l⟩ (RoundX FsD blD slD FsE blE slE FsS (FsD x ++ FsS) (I (i + 1)) IE l (loopObj .ready c.fn a.tmps ps as1 body D) (fun y => doneObj c.fn a.tmps ps as1 body D (J y)) w1 S1) [.code as1, .beginRound, .code body]))
    (after : ∀ x, I N x → (∀ G ∈ FsD x, Bd w0 S0 FsS G) → Cov nt w0 S0 (mark ++ df) ρ (FsD x ++ FsS) (blD x ++ bls) (slD x ++ sls) (Run P c R0 k))
    (exit : ∀ y, IE y → (∀ G ∈ FsE y, Bd w0 S0 FsS G) → Cov nt w0 S0 (mark ++ df) ρ (FsE y ++ FsS) (blE y ++ bls) (slE y ++ sls) (Run P c R0 (.code (J y) :: k))) :
    Run P c R0 (.code (.rangeFunc g ps as1 body) :: k) a w := by
  have hnd3 := (X64 (blD x0 ++ [(l, loopObj .ready c.fn a.tmps ps as1 body D)]) bls (slD x0) sls).nodup_iff.1 hi3.nodup
  have hin : ∀ b ∈ blks (blD x0 ++ [(l, loopObj .ready c.fn a.tmps ps as1 body D)]) (slD x0), b ∈ blks ((blD x0 ++ [(l, loopObj .ready c.fn a.tmps ps as1 body D)]) ++ bls) (slD x0 ++ sls) := fun b hb => (X1f _ _ _ _ _).2 (.inl hb)
  have hi4 : Inv w0 S0 (FsD x0 ++ FsS) (blD x0 ++ [(l, loopObj .ready c.fn a.tmps ps as1 body D)]) (slD x0) w1 :=
    hi3.change [] (by simp) (Keep.refl _ _) (fun G hG => .inl hG) (fun p hp => hi3.mem.own p (List.mem_append_left _ hp)) (fun s hs => hi3.mem.slh s (List.mem_append_left _ hs)) (List.nodup_append.1 hnd3).1 (fun b hb => .inl (hin b hb))
  obtain ⟨B, hB, hndB, hh, hgB⟩ := Xd0 hi4
  have hB2 : ∀ b ∈ B, b ∈ blks (blD x0 ++ [(l, loopObj .ready c.fn a.tmps ps as1 body D)]) (slD x0) := fun b hb => by
    rcases hgB b hb with h | ⟨⟨G, hG, hs⟩, _⟩
    · exact h
    · rw [hF0 G hG b] at hs; cases hs
  have hpure : PureOK FsD blD slD FsS l (loopObj .ready c.fn a.tmps ps as1 body D) w0 S0 x0 := ⟨hi4.nodup, hi4.apart, hi4.mine, fun G hG b o ho => by rw [hF0 G hG b] at ho; cases ho⟩
  have hfit0 : Fits nt [] ρ { tmps := a.tmps, defers := [] } := ⟨rfl, hf.2.1, hf.2.2⟩
  have hy := Xim (P := P) (nt := nt) (w0 := w0) (S0 := S0) (ρ := ρ) (FsD := FsD) (blD := blD) (slD := slD) (FsE := FsE) (blE := blE) (slE := slE) (FsS := FsS) (l := l) (lo := loopObj .ready c.fn a.tmps ps as1 body D) (le := fun y => doneObj c.fn a.tmps ps as1 body D (J y)) (c := c) (V := V) I IE rfl hlb hps hpt hfit0 round
  have hcon := hit _ _ _ (mkGuest FsD blD slD FsS _ _ x0 B hB hndB) hy ⟨x0, hI, hpure, B, hB, hndB, rfl⟩
  -- the state at the call
  have hi5 : Inv w0 S0 FsS ([] ++ bls) ([.g (mkGuest FsD blD slD FsS _ _ x0 B hB hndB)] ++ sls) w1 := by
    have hpb : ∀ b, b ∈ blks ([] ++ bls) ([.g (mkGuest FsD blD slD FsS _ _ x0 B hB hndB)] ++ sls) → b ∈ B ∨ b ∈ blks bls sls := fun b hb => by
      rcases (X1f _ _ _ _ _).1 hb with h | h
      · simp only [blks, List.map_nil, List.nil_append, List.flatMap_cons, List.flatMap_nil, List.append_nil] at h
        exact .inl h
      · exact .inr h
    refine hi3.change [] (by simp) (Keep.refl _ _) (fun G hG => .inl (List.mem_append_right _ hG)) (fun p hp => hi3.mem.own p (List.mem_append_right _ hp)) (fun s hs => ?_) ?_ (fun b hb => .inl ?_)
    · rcases List.mem_cons.1 hs with rfl | hs
      · exact hh
      · exact hi3.mem.slh s (List.mem_append_right _ hs)
    · rw [(X64 [] _ [.g (mkGuest FsD blD slD FsS _ _ x0 B hB hndB)] sls).nodup_iff, List.nodup_append]
      have hgb : blks [] [OwnS.g (mkGuest FsD blD slD FsS l (loopObj .ready c.fn a.tmps ps as1 body D) x0 B hB hndB)] = B := by simp [blks, OwnS.blocks, mkGuest]
      rw [hgb]
      exact ⟨hndB, (List.nodup_append.1 hnd3).2.1, fun x hx y hy e => (List.nodup_append.1 hnd3).2.2 x (hB2 x hx) y hy e⟩
    · rcases hpb b hb with h | h
      · exact hin b (hB2 b h)
      · exact (X1f _ _ _ _ _).2 (.inr h)
  intro cs hcs
  have s1 := stepR_rangeFunc (P := P) (b := c.fr a []) (a := a) (k := k) (cs := cs) (w := w) (g := g) (ps := ps) (assign := as1) (body := body) (l := l) (mark := mark)
    (d := { target := .fn (.func f) cap.toArray, args := #[.func (.yield l) #[] #[]] }) (f := f) (args := (Value.func (.yield l) #[] #[] :: cap).toArray)
    (w₁ := w1) (w₁' := w1) (w₂ := w1) he
    (by
      simp only [rangeCall, resolve, Xv hf hg, Deferred.ofValue]
      simp [Act.eval])
    (by
      simp only [invoke]
      simpa using hcall (Value.func (.yield l) #[] #[] :: cap).toArray _)
  obtain ⟨e, w3, fr, ⟨v, rfl, Fr, bo, so, hfr, ho, rfl, R, hR, rfl⟩, hcomes, hfn, hleave⟩ := hcon.use hi5 ((c.fr { a with defers := mark ++ a.defers } (.inRangeFunc l :: k)) :: cs)
  have hi6 := hi5.calledG hfr ho
  have hfit : Fits nt (mark ++ df) ρ { a with defers := mark ++ a.defers } := ⟨by simp [hf.1], hf.2.1, hf.2.2⟩
  rcases hR with ⟨x, hIx, hpx, B', hB', hnd', rfl⟩ | ⟨y, hIy, hpy, B', hB', hnd', rfl⟩
  · obtain ⟨hl3, hi8⟩ := Xgg hi6 hpx (.loop { state := .exhausted, pending := none, fn := c.fn, tmps := a.tmps, params := ps, assign := as1, body := body, defers := D })
    have hend := run_endLoop (P := P) (w := w3) hl3 (by intro h; cases h)
    obtain ⟨v', w5, hR5, hd5⟩ := after x hIx hpx.2.2.2 _ _ hfit hi8 cs hcs
    refine ⟨v', w5, hR5, hd5.of_steps (.head s1 (Steps.trans hcomes (.head (step_leave_returned hleave) (.one ?_))))⟩
    exact stepR_endRangeFunc (P := P) (b := c.fr a []) (a := { a with defers := mark ++ a.defers }) (k := k) (cs := cs) hend
  · obtain ⟨hl3, hi8⟩ := Xgg hi6 hpy (.loop { state := .exhausted, pending := some (J y), fn := c.fn, tmps := a.tmps, params := ps, assign := as1, body := body, defers := D })
    have hend := run_endLoop (P := P) (w := w3) hl3 (by intro h; cases h)
    obtain ⟨v', w5, hR5, hd5⟩ := exit y hIy hpy.2.2.2 _ _ hfit hi8 cs hcs
    refine ⟨v', w5, hR5, hd5.of_steps (.head s1 (Steps.trans hcomes (.head (step_leave_returned hleave) (.one ?_))))⟩
    exact stepR_endRangeFunc (P := P) (b := c.fr a []) (a := { a with defers := mark ++ a.defers }) (k := k) (cs := cs) hend
theorem Cov.rangeX {α β : Type} (FsD : α → List Hp) (blD : α → Blks) (slD : α → List OwnS) (FsE : β → List Hp) (blE : β → Blks) (slE : β → List OwnS) (J : β → Code) (I : Nat → α → Prop) (IE : β → Prop) (x0 : α) {g : Operand} {ps : Array Tmp} {as1 body : Code} {f : FuncId} (cap : List Value) {N : Nat} {V : Nat → List Value → Prop} {FsS : List Hp}
    (hro : c.ro = none) (hg : ev ρ g = some (.func (.func f) #[] cap.toArray)) (hcall : ∀ args w, (callFunc f args).run P w = .ok (.enter f args) w) (hF : Fs = FsD x0 ++ FsS) (hF0 : ∀ G ∈ FsD x0, ∀ b, G b = none) (hb : bl = blD x0 ++ bls) (hs : sl = slD x0 ++ sls)
    (hit : IterX P f cap FsS N V) (hps : ∀ i v, V i v → v.length = ps.size) (hpt : ps.all (Nat.blt · nt) = true) (hI : I 0 x0)
    (round : ∀ (l : Nat) (tmps : Array Value) (D : Nat) (i : Nat) (x : α) (v : List Value), V i v → I i x → ∀ w1 S1, w0.heap.size ≤ w1.heap.size →
      Cov nt w1 S1 [] ((ps.toList.zip v).reverse ++ ρ) (FsD x ++ FsS) (blD x ++ [(l, loopObj .ready c.fn tmps ps as1 body D)]) (slD x)
        (Run P ⟨c.fn, some l⟩ (RoundX FsD blD slD FsE blE slE FsS (FsD x ++ FsS) (I (i + 1)) IE l (loopObj .ready c.fn tmps ps as1 body D) (fun y => doneObj c.fn tmps ps as1 body D (J y)) w1 S1) [.code as1, .beginRound, .code body]))
    (after : ∀ r x, I N x → (∀ G ∈ FsD x, Bd w0 S0 FsS G) → Cov nt w0 S0 ({ target := .collected r, args := #[] } :: df) ρ (FsD x ++ FsS) (blD x ++ (r, .deferred (some [])) :: bls) (slD x ++ sls) (Run P c R0 k))
    (exit : ∀ r y, IE y → (∀ G ∈ FsE y, Bd w0 S0 FsS G) → Cov nt w0 S0 ({ target := .collected r, args := #[] } :: df) ρ (FsE y ++ FsS) (blE y ++ (r, .deferred (some [])) :: bls) (slE y ++ sls) (Run P c R0 (.code (J y) :: k))) :
    Cov nt w0 S0 df ρ Fs bl sl (Run P c R0 (.code (.rangeFunc g ps as1 body) :: k)) := fun a w hf hi => by
  subst hF hb hs
  have he := run_enterLoop_outer (P := P) (w := w) c.fn a.tmps ps as1 body
  rw [← hro] at he
  have hi1 := hi.alloc (.deferred (some []))
  have hi2 := hi1.alloc (loopObj .ready c.fn a.tmps ps as1 body w.heap.size)
  have hl : (w.alloc (.deferred (some []))).heap.size = w.heap.size + 1 := World.size_alloc ..
  rw [hl] at hi2
  have hperm : ((w.heap.size + 1, loopObj .ready c.fn a.tmps ps as1 body w.heap.size) :: (w.heap.size, Obj.deferred (some [])) :: (blD x0 ++ bls)).Perm ((blD x0 ++ [(w.heap.size + 1, loopObj .ready c.fn a.tmps ps as1 body w.heap.size)]) ++ (w.heap.size, Obj.deferred (some [])) :: bls) := by
    rw [List.append_assoc]
    refine List.Perm.trans ?_ List.perm_append_comm
    simp only [List.cons_append, List.nil_append]
    refine List.Perm.cons _ (List.Perm.cons _ ?_)
    exact List.perm_append_comm
  have hi3 := hi2.perm hperm (List.Perm.refl _)
  have hlb : w0.heap.size ≤ w.heap.size + 1 := by have := hi.keep.size; omega
  exact rangeCore (FsD := FsD) (blD := blD) (slD := slD) (FsE := FsE) (blE := blE) (slE := slE) (J := J) (I := I) (IE := IE) (x0 := x0) hf he hi3 hlb hg hcall hF0 hit hps hpt hI (fun i x v => round _ _ _ i x v) (fun x h1 h2 => after _ x h1 h2) (fun y h1 h2 => exit _ y h1 h2)
end
end Go.Proofs.YtmfppphlhgneeaaGreat
end

section
namespace Go.Proofs.YtmfppphlhgneeaaGreat
open Go.RowKit
def viewG (b : Option Nat) (T : TypeId) (pre cs post : List Value) : Guest where
  blks := b.toList
  nodup := by cases b <;> simp
  holds w := ∀ g, b = some g → w.heap[g]? = some (.cells (pre ++ cs ++ post).toArray T (0, 0))
  lt w h x hx := by
    cases b with
    | none => simp at hx
    | some g => simp at hx; subst hx; exact X94 (h _ rfl)
  same w w' h e g hg := by subst hg; rw [e g (by simp)]; exact h g rfl
def VA (a : Option Addr) (b : Option Nat) (n k : Nat) (pre cs : List Value) : Prop := n ≤ k ∧ (cs ≠ [] → ∃ g, b = some g ∧ a = some ⟨g, pre.length, none⟩)
def VB (a : Option Addr) (b : Option Nat) (n k sz : Nat) (post : List Value) : Prop :=
  (a = none ∧ b = none ∧ n = 0 ∧ k = 0) ∨ ∃ g, a = some ⟨g, 0, none⟩ ∧ b = some g ∧ n ≤ k ∧ k ≤ maxLen ∧ n * sz + post.length = k * sz
theorem Xf6 {sz : Nat} : ∀ {xs : List (List Value)}, (∀ x ∈ xs, x.length = sz) → xs.flatten.length = xs.length * sz
  | [], _ => by simp
  | x :: xs, h => by simp only [List.flatten_cons, List.length_append, List.length_cons, Nat.add_mul]; rw [h x List.mem_cons_self, Xf6 fun y hy => h y (List.mem_cons_of_mem _ hy)]; omega
theorem OL.clen {α : Type} {Q : Rep α} {G : Hp} {cs : List Value} {l : List α} (h : OL Q G cs l) : cs.length = l.length * Q.sz := by
  obtain ⟨_, xs, rfl, h3, h4⟩ := h
  rw [Xf6 h3, h4.1]
theorem VA.len {a : Option Addr} {b : Option Nat} {n n' k : Nat} {pre cs cs' : List Value} (h : VA a b n k pre cs) (hn : n' = n) (hc : cs'.length = cs.length) : VA a b n' k pre cs' :=
  ⟨hn ▸ h.1, fun hne => h.2 fun e => hne (by rw [e] at hc; exact List.eq_nil_of_length_eq_zero hc)⟩
theorem VA.call {α : Type} {Q : Rep α} {G G' : Hp} {a : Option Addr} {b : Option Nat} {k : Nat} {pre cs cs' : List Value} {l l' : List α} (h : VA a b l.length k pre cs) (ho : OL Q G cs l) (ho' : OL Q G' cs' l') (hl : l'.length = l.length) : VA a b l'.length k pre cs' :=
  h.len hl (by rw [ho.clen, ho'.clen, hl])
theorem Xem {w : World} {a : Option Addr} {b : Option Nat} {n k : Nat} {T : TypeId} {pre cs post : List Value} (h : (viewG b T pre cs post).holds w) (va : VA a b n k pre cs) (hn : 0 < cs.length) :
    ∃ g, a = some ⟨g, pre.length, none⟩ ∧ b = some g ∧ w.heap[g]? = some (.cells (pre ++ cs ++ post).toArray T (0, 0)) ∧ ∀ (q : Nat) (v : Value), cs[q]? = some v → w.cell? ⟨g, pre.length + q, none⟩ = some v := by
  obtain ⟨g, hb, ha⟩ := va.2 (by rintro rfl; simp at hn)
  have hw := h g hb
  refine ⟨g, ha, hb, hw, fun q v hq => ?_⟩
  rw [cell_of_row w g _ _ T (0, 0) hw]
  have hl : q < cs.length := (List.getElem?_eq_some_iff.1 hq).1
  simp only [List.getElem?_toArray]
  rw [List.append_assoc, List.getElem?_append_right (by omega), Nat.add_sub_cancel_left, List.getElem?_append_left hl]
  exact hq
def Rd (s : OwnS) (G : Hp) : Prop := ∃ w, s.holds w ∧ ∀ b ∈ s.blocks, G b = w.heap[b]?
def Rep.flat {α : Type} (Q : Rep α) : Prop := ∀ (G G' : Hp) (c : List Value) (x : α), Q.r G c x → Q.r G' c x
theorem Rep.flat_int (k : IntKind) : (Rep.int k).flat := fun _ _ _ _ h => h
theorem Rep.flat_bool : Rep.bool.flat := fun _ _ _ _ h => h
theorem OL.flat {α : Type} {Q : Rep α} (hf : Q.flat) {G G' : Hp} {cs : List Value} {l : List α} (h : OL Q G' cs l) : OL Q G cs l := by
  obtain ⟨hb, xs, h1, h3, h4, h5⟩ := h
  exact ⟨hb, xs, h1, h3, h4, fun i c x hc hx => hf _ _ _ _ (h5 i c x hc hx)⟩
section
variable {P : Program} {c : Cx} {R : Value → World → Prop} {nt : Nat} {w0 : World} {S0 : List Nat} {df : List Deferred} {ρ ρ' : Env} {Fs Fs' Fin B : List Hp} {bl bl' : Blks} {sl sl' : List OwnS}
  {K K' : Act → World → Prop} {k : List Item} {ty : TypeId} {α : Type} {G : Hp}
theorem QOp.idxV (q : Nat) {Q : Rep α} {a : Option Addr} {b : Option Nat} {m T sz : Nat} {l : List α} {pre cs post : List Value} {i : Int} {u : α} {kk : IntKind} {t el : TypeId} {x j : Operand} (hs : sl[q]? = some (.g (viewG b T pre cs post))) (va : VA a b l.length m pre cs) (ho : OL Q G cs l)
    (hx : ev ρ x = some (.slice a l.length m)) (hj : ev ρ j = some (.int kk i)) (he : lidx l i = some u) (ht : slOf P t = some el) (hz : szOf P el = some sz) (hn : sz = Q.sz) (h0 : Nat.blt 0 sz = true) : QOp P ρ Fs bl sl (.indexAddr t x j) ty (elemPtr (.slice a l.length m) i.toNat sz) := .of fun e he' w hm => by
  obtain ⟨h3, h4, _⟩ := X45 he
  have h0' : 0 < sz := by simpa [Nat.blt_eq] using h0
  have hpos : 0 < cs.length := by rw [ho.clen, ← hn]; exact Nat.mul_pos (by omega) h0'
  obtain ⟨g, rfl, _⟩ := Xem (hm.slh _ (List.mem_of_getElem? hs)) va hpos
  refine X63 (s := Instr.indexAt t (e x) (e j)) ?_
  rw [he' x _ hx, he' j _ hj]
  exact Xan ht hz h3 h4
theorem Xdi {w : World} {Q : Rep α} {a : Option Addr} {b : Option Nat} {m T sz n : Nat} {l : List α} {pre cs post d : List Value} (h : (viewG b T pre cs post).holds w) (va : VA a b l.length m pre cs) (ho : OL Q G cs l) (hq : sz = Q.sz) (h0 : Nat.blt 0 sz = true) (hn : n < l.length) (he : Elem sz cs n d) :
    ∃ g, a = some ⟨g, pre.length, none⟩ ∧ b = some g ∧ w.heap[g]? = some (.cells (pre ++ cs ++ post).toArray T (0, 0)) ∧ ∀ (q : Nat) (v : Value), d[q]? = some v → w.cell? ⟨g, pre.length + (n * sz + q), none⟩ = some v := by
  have h0' : 0 < sz := by simpa [Nat.blt_eq] using h0
  have hpos : 0 < cs.length := by rw [ho.clen, ← hq]; exact Nat.mul_pos (by omega) h0'
  obtain ⟨g, ha, hb, hw, hc⟩ := Xem h va hpos
  exact ⟨g, ha, hb, hw, fun q v hv => hc _ _ (he.2 q v hv)⟩
theorem QOp.loadV (q off : Nat) {Q : Rep α} {a : Option Addr} {b : Option Nat} {m T sz s bytes : Nat} {l : List α} {pre cs post d z : List Value} {i : Int} {u : α} {t : TypeId} {x : Operand} {p v : Value} (hs : sl[q]? = some (.g (viewG b T pre cs post))) (va : VA a b l.length m pre cs) (ho : OL Q G cs l) (hn : sz = Q.sz) (h0 : Nat.blt 0 sz = true)
    (he : lidx l i = some u) (hd : Elem sz cs i.toNat d) (hx : ev ρ x = some p) (hp : PtrO p a l.length m i.toNat sz off) (ht : TyI P t false s bytes z) (hv : d[off]? = some v) : QOp P ρ Fs bl sl (.load t x) ty v := .of fun e he' w hm => by
  obtain ⟨h3, h4, _⟩ := X45 he
  obtain ⟨g, rfl, _, _, hc⟩ := Xdi (hm.slh _ (List.mem_of_getElem? hs)) va ho hn h0 (by omega) hd
  refine X63 (s := Instr.loadAt t (e x)) ?_
  rw [he' x _ hx]
  rcases hp with ⟨rfl, rfl⟩ | rfl
  · simp only [elemPtr, X1e]
    exact X56 (X4s ht.agg) (by simpa using hc 0 v hv)
  · simp only [elemPtr, ptrAdd, X1e]
    exact X56 (X4s ht.agg) (by rw [Nat.add_assoc]; exact hc off v hv)
theorem OL.upd {Q : Rep α} {sz off : Nat} {cs dc cv : List Value} {l l' : List α} {i : Int} {y : α} (ho : OL Q G cs l) (hn : sz = Q.sz) (hl : lupd l i y = some l') (hd : Elem sz cs i.toNat dc) (hfit : off + cv.length ≤ sz) (hy : Q.r G (dc.take off ++ cv ++ dc.drop (off + cv.length)) y) :
    OL Q G (cs.take (i.toNat * sz + off) ++ cv ++ cs.drop (i.toNat * sz + off + cv.length)) l' ∧ l'.length = l.length ∧ i.toNat < l.length ∧ (cs.take (i.toNat * sz + off) ++ cv ++ cs.drop (i.toNat * sz + off + cv.length)).length = cs.length := by
  subst hn
  obtain ⟨hi0, hil, rfl⟩ := X6y hl
  have hcl := ho.clen
  obtain ⟨hb1, xs, rfl, h3, h4⟩ := ho
  have hxs : ∃ ys : List { c : List Value // c.length = Q.sz }, xs = ys.map (·.1) := ⟨xs.attach.map fun c => ⟨c.1, h3 _ c.2⟩, by simp⟩
  obtain ⟨ys, rfl⟩ := hxs
  have e1 : ys.length = l.length := by have := h4.1; simpa using this
  have hj : i.toNat < ys.length := by omega
  have hdc : (ys[i.toNat]).1 = dc := by
    apply List.ext_getElem?
    intro j
    rcases Nat.lt_or_ge j dc.length with h | h
    · have hjl : j < (ys[i.toNat]).1.length := by rw [(ys[i.toNat]).2, ← hd.1]; exact h
      have g1 := X58 (ys.map (·.1)) i.toNat (ys[i.toNat]).1 j _ h3 (by rw [List.getElem?_map, List.getElem?_eq_getElem hj]; rfl) (List.getElem?_eq_getElem hjl)
      have g2 := hd.2 j _ (List.getElem?_eq_getElem h)
      rw [g1] at g2
      rw [List.getElem?_eq_getElem hjl, g2, List.getElem?_eq_getElem h]
    · rw [List.getElem?_eq_none h, List.getElem?_eq_none (by rw [(ys[i.toNat]).2, ← hd.1]; exact h)]
  have hlen : (dc.take off ++ cv ++ dc.drop (off + cv.length)).length = Q.sz := by
    simp only [List.length_append, List.length_take, List.length_drop, hd.1]; omega
  have hgd : ys.getD i.toNat ys[i.toNat] = ys[i.toNat] := by rw [List.getD_eq_getElem?_getD, List.getElem?_eq_getElem hj]; rfl
  have hset := Xf3 (f := fun c : { c : List Value // c.length = Q.sz } => c.1) (sz := Q.sz) (fun c => c.2) (ys[i.toNat]) (off := off) (c := cv) hfit (y := ⟨_, hlen⟩) ys i.toNat hj (by rw [hgd, hdc])
  have hle : (i.toNat + 1) * Q.sz ≤ l.length * Q.sz := Nat.mul_le_mul_right _ (by omega)
  rw [Nat.add_mul] at hle
  refine ⟨?_, List.length_set, by omega, by simp only [List.length_append, List.length_take, List.length_drop]; omega⟩
  rw [hset]
  refine ⟨by simp; omega, _, rfl, fun c hc => by obtain ⟨c', _, rfl⟩ := List.mem_map.1 hc; exact c'.2, by simp [e1], fun j c x hc hx => ?_⟩
  simp only [List.getElem?_map, List.getElem?_set] at hc hx
  by_cases hij : i.toNat = j
  · subst hij
    rw [if_pos rfl] at hc hx
    simp [hj, show i.toNat < l.length by omega] at hc hx
    subst hc hx
    simpa only [List.append_assoc] using hy
  · rw [if_neg hij] at hc hx
    exact h4.2 j c x (by rw [List.getElem?_map]; exact hc) hx
theorem Cov.storeV (q : Nat) (off : Nat) {Q : Rep α} {a : Option Addr} {b : Option Nat} {m T sz : Nat} {l l' : List α} {pre cs post dc : List Value} {i : Int} {y : α} {t : TypeId} {x u : Operand} {v p : Value} {agg : Bool} {bytes : Nat} {z : List Value} (hs : Stp P K' ⟨none, .store t x u, ty, none⟩ K)
    (hi : sl[q]? = some (.g (viewG b T pre cs post))) (va : VA a b l.length m pre cs) (hn : sz = Q.sz) (h0 : Nat.blt 0 sz = true) (ho : OL Q G cs l) (hl : lupd l i y = some l') (hx : ev ρ x = some p) (hp : PtrO p a l.length m i.toNat sz off) (hu : ev ρ u = some v) (ht : TyI P t agg (cellsL v).length bytes z) (hd : Elem sz cs i.toNat dc)
    (hy : Q.r G (dc.take off ++ cellsL v ++ dc.drop (off + (cellsL v).length)) y) (h1 : (cellsL v).all (·.oneCell') = true) (hfit : Nat.ble (off + (cellsL v).length) sz = true)
    (hk : ∀ cs', l'.length = l.length → OL Q G cs' l' → VA a b l'.length m pre cs' → Cov nt w0 S0 df ρ Fs bl (sl.set q (.g (viewG b T pre cs' post))) K) : Cov nt w0 S0 df ρ Fs bl sl K' := fun aa w hfi hinv => by
  refine hs aa w ?_
  have hfit' : off + (cellsL v).length ≤ sz := by simpa [Nat.ble_eq] using hfit
  obtain ⟨ho', hll, hil, hcl⟩ := ho.upd hn hl hd hfit' hy
  obtain ⟨g, rfl, rfl, hw, _⟩ := Xdi (hinv.mem.slh _ (List.mem_of_getElem? hi)) va ho hn h0 hil hd
  have hle : i.toNat * sz + off + (cellsL v).length ≤ cs.length := by
    rw [ho.clen, ← hn]
    have : (i.toNat + 1) * sz ≤ l.length * sz := Nat.mul_le_mul_right _ hil
    rw [Nat.add_mul] at this
    omega
  obtain ⟨w', hr, kw, hb'⟩ := Xbb (P := P) (cs := pre ++ cs ++ post) (o := pre.length + (i.toNat * sz + off)) (cs' := pre ++ (cs.take (i.toNat * sz + off) ++ cellsL v ++ cs.drop (i.toNat * sz + off + (cellsL v).length)) ++ post) ht hw h1 (by simp only [List.length_append]; omega) (by
    have e1 : (pre ++ cs ++ post).take (pre.length + (i.toNat * sz + off)) = pre ++ cs.take (i.toNat * sz + off) := by
      rw [List.append_assoc, List.take_append, Nat.add_sub_cancel_left, List.take_of_length_le (l := pre) (by omega), List.take_append_of_le_length (by omega)]
    have e2 : (pre ++ cs ++ post).drop (pre.length + (i.toNat * sz + off) + (cellsL v).length) = cs.drop (i.toNat * sz + off + (cellsL v).length) ++ post := by
      rw [List.append_assoc, Nat.add_assoc, List.drop_append, Nat.add_sub_cancel_left, List.drop_of_length_le (l := pre) (by omega), List.nil_append, List.drop_append_of_le_length (by omega)]
    rw [e1, e2]
    simp only [List.append_assoc])
  have hrun : (execOp aa.eval (⟨none, .store t x u, ty, none⟩ : OpX).oper).run P w = .ok .skip w' := by
    refine Xiw (s := Instr.storeAt t (aa.eval x) (aa.eval u)) ?_
    rw [Xv hfi hx, Xv hfi hu]
    rcases hp with ⟨rfl, rfl⟩ | rfl
    · simp only [elemPtr, X1e]
      exact hr
    · simp only [elemPtr, ptrAdd, X1e, Nat.add_assoc] at hr ⊢
      exact hr
  unfold Oper.wp
  rw [hrun]
  refine hk _ hll ho' (va.len hll hcl) _ _ (hfi.put_none _) (hinv.set_s q hi (s' := .g (viewG (some g) T pre _ post)) (by simpa [OwnS.blocks, viewG] using kw) ?_ (by simp [OwnS.blocks, viewG]) (fun b hb => .inl (by simpa [OwnS.blocks, viewG] using hb)))
  intro g' hg'
  cases hg'
  exact hb'
theorem Inv.set_same {w : World} (h : Inv w0 S0 Fs bl sl w) (i : Nat) {s s' : OwnS} (hi : sl[i]? = some s) (hs : s'.holds w) (hnd : s'.blocks.Nodup) (hb : ∀ b ∈ s'.blocks, b ∈ s.blocks) : Inv w0 S0 Fs bl (sl.set i s') w :=
  h.set_s i hi (Keep.refl w _) hs hnd fun b h => .inl (hb b h)
theorem Cov.toV (q : Nat) {a : Option Addr} {n m T sz : Nat} {cs : List Value} (hi : sl[q]? = some (.s (.slice a n m) T sz n cs))
    (hk : ∀ b post, VA a b n m [] cs → VB a b n m sz post → Cov nt w0 S0 df ρ Fs bl (sl.set q (.g (viewG b T [] cs post))) K) : Cov nt w0 S0 df ρ Fs bl sl K := fun aa w hfi hinv => by
  have hown : w.ownsRow 0 T sz (.slice a n m) n cs := hinv.mem.slh _ (List.mem_of_getElem? hi)
  rcases hown.2 with ⟨hv, h0⟩ | ⟨g, cap, cur, hv, _, hg, hnc, hm2, hcs, htk⟩
  · cases hv
    have hc0 : cs = [] := List.eq_nil_of_length_eq_zero (by rw [hown.1]; simp)
    subst hc0
    exact hk none [] ⟨Nat.le_refl _, fun h => absurd rfl h⟩ (.inl ⟨rfl, rfl, rfl, rfl⟩) _ _ hfi (hinv.set_same q hi (s' := .g (viewG none T [] [] [])) (fun g hg => by cases hg) (by simp [OwnS.blocks, viewG]) (by simp [OwnS.blocks, viewG]))
  · cases hv
    have hcur : cur = ([] ++ cs ++ cur.toList.drop (n * sz)).toArray := by rw [← htk]; simp
    refine hk (some g) (cur.toList.drop (n * sz)) ⟨hnc, fun _ => ⟨g, rfl, rfl⟩⟩ (.inr ⟨g, rfl, rfl, hnc, hm2, ?_⟩) _ _ hfi (hinv.set_same q hi (s' := .g (viewG (some g) T [] cs (cur.toList.drop (n * sz)))) (fun g' hg' => ?_) (by simp [OwnS.blocks, viewG]) (by simp [OwnS.blocks, viewG, Value.ownBlock]))
    · have : n * sz ≤ m * sz := Nat.mul_le_mul_right _ hnc
      simp only [List.length_drop, Array.length_toList, hcs]; omega
    · cases hg'; rw [hg]; exact congrArg (fun c => some (Obj.cells c T (0, 0))) hcur
theorem Cov.ofV (q : Nat) {Q : Rep α} {a : Option Addr} {b : Option Nat} {n m T sz : Nat} {cs post : List Value} {l : List α} (hi : sl[q]? = some (.g (viewG b T [] cs post))) (vb : VB a b n m sz post) (hl : l.length = n) (ho : OL Q G cs l) (hn : sz = Q.sz)
    (hk : Cov nt w0 S0 df ρ Fs bl (sl.set q (.s (.slice a l.length m) T sz l.length cs)) K) : Cov nt w0 S0 df ρ Fs bl sl K := fun aa w hfi hinv => by
  subst hl
  have hh : (viewG b T [] cs post).holds w := hinv.mem.slh _ (List.mem_of_getElem? hi)
  have hcl := ho.clen
  rcases vb with ⟨rfl, rfl, h0, rfl⟩ | ⟨g, rfl, rfl, h1, h2, h3⟩
  · have hc0 : cs = [] := List.eq_nil_of_length_eq_zero (by rw [hcl, h0]; simp)
    refine hk _ _ hfi (hinv.set_same q hi (s' := .s (.slice none l.length 0) T sz l.length cs) ?_ (by simp [OwnS.blocks, Value.ownBlock]) (by simp [OwnS.blocks, Value.ownBlock]))
    rw [hc0, h0]
    exact World.ownsRow_nil w 0 T sz
  · refine hk _ _ hfi (hinv.set_same q hi (s' := .s (.slice (some ⟨g, 0, none⟩) l.length m) T sz l.length cs) ?_ (by simp [OwnS.blocks, Value.ownBlock]) (by simp [OwnS.blocks, Value.ownBlock, viewG]))
    refine ⟨by rw [hcl, hn], .inr ⟨g, m, _, rfl, Nat.zero_le _, hh g rfl, h1, h2, ?_, ?_⟩⟩
    · simp only [List.nil_append, List.size_toArray, List.length_append, hcl, ← hn]; exact h3
    · simp only [List.nil_append]
      exact List.take_left' (by rw [hcl, hn])
theorem SlR.rd {Q : Rep α} {G' : Hp} {a : Option Addr} {m T sz : Nat} {l : List α} {cs : List Value} (ho : OL Q G cs l) (hn : sz = Q.sz) (hle : HpLe G G') (h : Rd (.s (.slice a l.length m) T sz l.length cs) G') : SlR Q G' a m l := by
  obtain ⟨w, hh, hb⟩ := h
  have hown : w.ownsRow 0 T sz (.slice a l.length m) l.length cs := hh
  have hlb := ho.1
  obtain ⟨_, xs, rfl, h3, h4⟩ := ho
  have e1 : xs.length = l.length := h4.1
  refine ⟨by omega, xs, ⟨a, m, by rw [e1], ?_, fun x hx => h3 x hx, fun hne => ?_⟩, h4.mono hle⟩
  · rw [e1]
    rcases hown.2 with ⟨hv, h0⟩ | ⟨g, cap, cur, hv, _, hg, hnc, hm2, hcs, htk⟩
    · simp only [Value.slice.injEq] at hv; omega
    · simp only [Value.slice.injEq] at hv; omega
  · rcases hown.2 with ⟨hv, h0⟩ | ⟨g, cap, cur, hv, _, hg, hnc, hm2, hcs, htk⟩
    · rw [h0] at e1; exact absurd (List.eq_nil_of_length_eq_zero e1) hne
    · cases hv
      refine ⟨g, 0, rfl, fun i x hx j v hj => ?_⟩
      have := hb g (by simp [OwnS.blocks, Value.ownBlock])
      unfold rcell
      rw [this, hg]
      have hfl := X58 xs i x j v h3 hx hj
      have hlt : i * Q.sz + j < l.length * Q.sz := by
        have hi : i < xs.length := (List.getElem?_eq_some_iff.1 hx).1
        have hj' : j < Q.sz := by rw [← h3 x (List.mem_of_getElem? hx)]; exact (List.getElem?_eq_some_iff.1 hj).1
        have : (i + 1) * Q.sz ≤ l.length * Q.sz := Nat.mul_le_mul_right _ (by omega)
        rw [Nat.add_mul] at this
        omega
      rw [← htk, hn, List.getElem?_take_of_lt hlt] at hfl
      simpa using hfl
theorem RetW.flat {f : FuncId} {args : Array Value} {bin : Blks} {sin : List OwnS} {Q : Value → Blks → List OwnS → Hp → Prop} (h : RetW P f args Fs bin sin Q) : RetG P f args Fs bin sin fun v _ bo so => ∃ G2, Q v bo so G2 :=
  fun w h1 h2 h3 h4 h5 => (h w h1 h2 h3 h4 h5).mono fun _ w' ⟨Fr, bo, so, a, b, d⟩ => ⟨Fr, bo, so, a, b, whole w', d _ fun F hF x o hx => b.mem.fs F hF x o hx⟩
theorem Inv.lendB {w : World} {s1 sB s2 : List OwnS} (hi : Inv w0 S0 (G :: B) bl (s1 ++ (sB ++ s2)) w) : ∃ G', HpLe G G' ∧ (∀ s ∈ sB, Rd s G') ∧ Inv w0 S0 (G' :: G :: B) bl (s1 ++ s2) w ∧ (∀ Fin, Bd w0 S0 Fin G → Bd w0 S0 Fin G') ∧
    ∀ w' Fs2 bo so, Inv w0 S0 (Fs2 ++ G' :: G :: B) bo (so ++ s2) w' → Inv w0 S0 (G :: B) bo (so ++ (sB ++ s2)) w' := by
  classical
  let G' : Hp := fun b => if b ∈ sB.flatMap OwnS.blocks then w.heap[b]? else G b
  have hblk : ∀ b, b ∈ blks bl (s1 ++ (sB ++ s2)) ↔ b ∈ blks bl (s1 ++ s2) ∨ b ∈ sB.flatMap OwnS.blocks := fun b => by
    simp only [blks, List.flatMap_append, List.mem_append]
    constructor
    · rintro (h | h | h | h) <;> simp [h]
    · rintro ((h | h | h) | h) <;> simp [h]
  have hperm : (blks bl (s1 ++ (sB ++ s2))).Perm (sB.flatMap OwnS.blocks ++ blks bl (s1 ++ s2)) := by
    simp only [blks, List.flatMap_append]
    have e1 : (s1.flatMap OwnS.blocks ++ (sB.flatMap OwnS.blocks ++ s2.flatMap OwnS.blocks)).Perm (sB.flatMap OwnS.blocks ++ (s1.flatMap OwnS.blocks ++ s2.flatMap OwnS.blocks)) := by
      rw [← List.append_assoc, ← List.append_assoc]; exact List.perm_append_comm.append_right _
    exact (e1.append_left _).trans (List.perm_append_comm_assoc _ _ _)
  have hnd := List.nodup_append.1 (hperm.nodup_iff.1 hi.nodup)
  have hmine : ∀ b ∈ sB.flatMap OwnS.blocks, b ∈ blks bl (s1 ++ (sB ++ s2)) := fun b hb => (hblk b).2 (.inr hb)
  have hapG : ∀ b ∈ sB.flatMap OwnS.blocks, ∀ F ∈ G :: B, F b = none := fun b hb F hF => hi.apart b (hmine b hb) F hF
  have hle : HpLe G G' := fun b o hb => by
    show (if _ then _ else _) = _
    rw [if_neg fun h => by rw [hapG b h G List.mem_cons_self] at hb; cases hb]; exact hb
  have hG'w : HpIn G' w := fun b o hb => by
    have hb' : (if b ∈ sB.flatMap OwnS.blocks then w.heap[b]? else G b) = some o := hb
    split at hb'
    · exact hb'
    · exact hi.mem.fs G List.mem_cons_self b o hb'
  have hval : ∀ b ∈ sB.flatMap OwnS.blocks, G' b = w.heap[b]? := fun b hb => by show (if _ then _ else _) = _; rw [if_pos hb]
  have hhold : ∀ s ∈ sB, s.holds w := fun s hs => hi.mem.slh s (List.mem_append_right _ (List.mem_append_left _ hs))
  refine ⟨G', hle, fun s hs => ⟨w, hhold s hs, fun b hb => hval b (List.mem_flatMap.2 ⟨s, hs, hb⟩)⟩, ?_, fun Fin hbd b o hb => ?_, ?_⟩
  · refine hi.change [] (by simp) (Keep.refl w []) (fun F hF => ?_) hi.mem.own (fun s hs => hi.mem.slh s ?_) hnd.2.1 (fun b hb => .inl ((hblk b).2 (.inl hb)))
    · rcases List.mem_cons.1 hF with rfl | hF
      · refine .inr ⟨hG'w, fun b hb => ?_⟩
        have hn : b ∉ sB.flatMap OwnS.blocks := fun h => hnd.2.2 b h b hb rfl
        show (if _ then _ else _) = _
        rw [if_neg hn]
        exact hi.apart b ((hblk b).2 (.inl hb)) G List.mem_cons_self
      · exact .inl hF
    · rcases List.mem_append.1 hs with h | h
      · exact List.mem_append_left _ h
      · exact List.mem_append_right _ (List.mem_append_right _ h)
  · by_cases hm : b ∈ sB.flatMap OwnS.blocks
    · rcases hi.mine b (hmine b hm) with h | h
      · exact .inr (.inl h)
      · exact .inl h
    · refine hbd b o ?_
      have hb' : (if b ∈ sB.flatMap OwnS.blocks then w.heap[b]? else G b) = some o := hb
      rwa [if_neg hm] at hb'
  · intro w' Fs2 bo so hi'
    have hG'm : G' ∈ Fs2 ++ G' :: G :: B := List.mem_append_right _ List.mem_cons_self
    have hblk' : ∀ b, b ∈ blks bo (so ++ (sB ++ s2)) ↔ b ∈ blks bo (so ++ s2) ∨ b ∈ sB.flatMap OwnS.blocks := fun b => by
      simp only [blks, List.flatMap_append, List.mem_append]
      constructor
      · rintro (h | h | h | h) <;> simp [h]
      · rintro ((h | h | h) | h) <;> simp [h]
    have hperm' : (blks bo (so ++ (sB ++ s2))).Perm (sB.flatMap OwnS.blocks ++ blks bo (so ++ s2)) := by
      simp only [blks, List.flatMap_append]
      have e1 : (so.flatMap OwnS.blocks ++ (sB.flatMap OwnS.blocks ++ s2.flatMap OwnS.blocks)).Perm (sB.flatMap OwnS.blocks ++ (so.flatMap OwnS.blocks ++ s2.flatMap OwnS.blocks)) := by
        rw [← List.append_assoc, ← List.append_assoc]; exact List.perm_append_comm.append_right _
      exact (e1.append_left _).trans (List.perm_append_comm_assoc _ _ _)
    have hlt : ∀ b ∈ sB.flatMap OwnS.blocks, ∃ o, w.heap[b]? = some o := fun b hb => by
      obtain ⟨s, hs, hb⟩ := List.mem_flatMap.1 hb
      exact ⟨_, Array.getElem?_eq_getElem (OwnS.lt (hhold s hs) b hb)⟩
    have hsame : ∀ b ∈ sB.flatMap OwnS.blocks, w'.heap[b]? = w.heap[b]? := fun b hb => by
      obtain ⟨o, ho⟩ := hlt b hb
      rw [ho]; exact hi'.mem.fs G' hG'm b o (by rw [hval b hb]; exact ho)
    refine ⟨⟨fun F hF => hi'.mem.fs F (List.mem_append_right _ (List.mem_cons_of_mem _ hF)), hi'.mem.own, fun s hs => ?_⟩, hi'.keep, ?_, fun b hb => ?_, fun b hb F hF => ?_⟩
    · rcases List.mem_append.1 hs with h | h
      · exact hi'.mem.slh s (List.mem_append_left _ h)
      · rcases List.mem_append.1 h with h | h
        · exact OwnS.same (hhold s h) fun b hb => hsame b (List.mem_flatMap.2 ⟨s, h, hb⟩)
        · exact hi'.mem.slh s (List.mem_append_right _ h)
    · rw [hperm'.nodup_iff, List.nodup_append]
      refine ⟨hnd.1, hi'.nodup, fun a ha b hb e => ?_⟩
      subst e
      have h1 := hi'.apart a hb G' hG'm
      obtain ⟨o, ho⟩ := hlt a ha
      rw [hval a ha, ho] at h1
      cases h1
    · rcases (hblk' b).1 hb with h | h
      · exact hi'.mine b h
      · exact hi.mine b (hmine b h)
    · rcases (hblk' b).1 hb with h | h
      · exact hi'.apart b h F (List.mem_append_right _ (List.mem_cons_of_mem _ hF))
      · exact hapG b h F hF
theorem Cov.callB {b1 b2 : Blks} {s1 sB s2 : List OwnS} (vs cap : List Value) {d : Nat} {f : FuncId} {fop : Operand} {args : Array Operand} {ts : Array TypeId} {Q : Value → Blks → List OwnS → Prop} (hs : Stp P K' ⟨some d, .call ⟨.value fop, args, ts⟩, ty, none⟩ K)
    (hf : ev ρ fop = some (.func (.func f) #[] cap.toArray)) (ha : args.toList.map (ev ρ) = vs.map some) (hcall : ∀ args w, (callFunc f args).run P w = .ok (.enter f args) w) (hbl : bl = b1 ++ b2) (hsl : sl = s1 ++ (sB ++ s2))
    (hr : ∀ Fs' G', HpLe G G' → (∀ s ∈ sB, Rd s G') → G' ∈ Fs' → RetG P f (vs ++ cap).toArray Fs' b1 s1 (fun v _ bo so => Q v bo so)) (hd : Nat.blt d nt = true)
    (hk : ∀ v bo so, Q v bo so → Cov nt w0 S0 df ((d, v) :: ρ) (G :: B) (bo ++ b2) (so ++ (sB ++ s2)) K) : Cov nt w0 S0 df ρ (G :: B) bl sl K' := fun a w hfi hi => by
  subst hsl
  obtain ⟨G', hle, hrd, hi2, _, hback⟩ := hi.lendB
  exact Cov.callg vs cap hs hf ha hcall hbl rfl (hr (G' :: G :: B) G' hle hrd List.mem_cons_self) hd (fun v Fr bo so _ hq a' w' hf' hi' => hk v bo so hq a' w' hf' (hback w' [Fr] _ _ hi')) a w hfi hi2
end
end Go.Proofs.YtmfppphlhgneeaaGreat
end

section
namespace Go.Proofs.YtmfppphlhgneeaaGreat
open Go.RowKit
structure NE where
  a : Option Addr
  n : Nat
  k : Nat
  cs : List Value
def NE.nil : NE := ⟨none, 0, 0, []⟩
def NE.h (e : NE) : Option Addr × Nat × Nat := (e.a, e.n, e.k)
def NE.s (T : TypeId) (m : Nat) (e : NE) : OwnS := .s (.slice e.a e.n e.k) T m e.n e.cs
def nblks (T : TypeId) (m : Nat) (es : List NE) : List Nat := es.flatMap fun e => (e.s T m).blocks
def packG (T : TypeId) (m : Nat) (es : List NE) : Guest where
  blks := if (nblks T m es).Nodup then nblks T m es else []
  nodup := by split; assumption; simp
  holds w := (nblks T m es).Nodup ∧ ∀ e ∈ es, (e.s T m).holds w
  lt w h b hb := by
    rw [if_pos h.1] at hb
    obtain ⟨e, he, hb⟩ := List.mem_flatMap.1 hb
    exact OwnS.lt (h.2 e he) b hb
  same w w' h hs := ⟨h.1, fun e he => OwnS.same (h.2 e he) fun b hb => hs b (by rw [if_pos h.1]; exact List.mem_flatMap.2 ⟨e, he, hb⟩)⟩
def Rep.hdr : Rep (Option Addr × Nat × Nat) where
  sz := 1
  r _ c x := c = [.slice x.1 x.2.1 x.2.2]
  len h := by rw [h]; rfl
  mono _ h := h
  one h := by rw [h]; rfl
def NL {α : Type} (Q : Rep α) (G : Hp) (es : List NE) (cs : List Value) (x : List (List α)) : Prop :=
  OL Rep.hdr G cs (es.map NE.h) ∧ es.length = x.length ∧ ∀ (i : Nat) (e : NE) (y : List α), es[i]? = some e → x[i]? = some y → e.n = y.length ∧ OL Q G e.cs y
theorem NL.mono {α : Type} {Q : Rep α} {G G' : Hp} {es : List NE} {cs : List Value} {x : List (List α)} (hg : HpLe G G') (h : NL Q G es cs x) : NL Q G' es cs x :=
  ⟨h.1.mono hg, h.2.1, fun i e y h1 h2 => ⟨(h.2.2 i e y h1 h2).1, (h.2.2 i e y h1 h2).2.mono hg⟩⟩
theorem Rep.flat_hdr : Rep.hdr.flat := fun _ _ _ _ h => h
theorem NL.flat {α : Type} {Q : Rep α} (hf : Q.flat) {G G' : Hp} {es : List NE} {cs : List Value} {x : List (List α)} (h : NL Q G' es cs x) : NL Q G es cs x :=
  ⟨OL.flat Rep.flat_hdr h.1, h.2.1, fun i e y h1 h2 => ⟨(h.2.2 i e y h1 h2).1, OL.flat hf (h.2.2 i e y h1 h2).2⟩⟩
theorem NL.len' {α : Type} {Q : Rep α} {G : Hp} {es : List NE} {cs : List Value} {x : List (List α)} (h : NL Q G es cs x) : x.length ≤ 9223372036854775807 := by
  have := h.1.len'; rw [List.length_map, h.2.1] at this; exact this
theorem NL.get {α : Type} {Q : Rep α} {G : Hp} {es : List NE} {cs : List Value} {x : List (List α)} (h : NL Q G es cs x) {i : Int} {y : List α} (hx : lidx x i = some y) :
    ∃ e, es[i.toNat]? = some e ∧ e.n = y.length ∧ OL Q G e.cs y ∧ Elem 1 cs i.toNat [.slice e.a y.length e.k] := by
  obtain ⟨h3, h4, h5⟩ := X45 hx
  have hlt : i.toNat < es.length := by rw [h.2.1]; omega
  have he : es[i.toNat]? = some es[i.toNat] := List.getElem?_eq_getElem hlt
  obtain ⟨hn, ho⟩ := h.2.2 _ _ _ he h5
  refine ⟨es[i.toNat], he, hn, ho, ?_⟩
  obtain ⟨c, hc1, hc2⟩ := h.1.get (i := i) (x := es[i.toNat].h) (by
    unfold lidx
    rw [if_pos h3, List.getElem?_map, he]; rfl)
  have : c = [.slice es[i.toNat].a es[i.toNat].n es[i.toNat].k] := hc2
  rw [this, hn] at hc1
  exact hc1
section
variable {P : Program} {c : Cx} {R : Value → World → Prop} {nt : Nat} {w0 : World} {S0 : List Nat} {df : List Deferred} {ρ ρ' : Env} {Fs Fs' Fin B : List Hp} {bl bl' : Blks} {sl sl' : List OwnS}
  {K K' : Act → World → Prop} {k : List Item} {ty : TypeId} {α : Type} {G : Hp}
theorem QOp.inN (q : Nat) {T : TypeId} {m : Nat} {es : List NE} {i : Nat} {e : NE} {n : Nat} {op : Op} {v : Value} (hs : sl[q]? = some (.g (packG T m es))) (he : es[i]? = some e) (hn : e.n = n)
    (h : QOp P ρ Fs bl [.s (.slice e.a n e.k) T m n e.cs] op ty v) : QOp P ρ Fs bl sl op ty v := fun nt df a w hf hm => by
  subst hn
  refine h nt df a w hf ⟨hm.fs, hm.own, fun s hs' => ?_⟩
  rw [List.mem_singleton.1 hs']
  exact (hm.slh _ (List.mem_of_getElem? hs)).2 e (List.mem_of_getElem? he)
theorem Xms (T : TypeId) (m : Nat) : (NE.nil.s T m).blocks = [] := rfl
theorem Xgh (w : World) (T : TypeId) (m : Nat) : (NE.nil.s T m).holds w := World.ownsRow_nil w 0 T m
theorem Xdj (T : TypeId) (m : Nat) : ∀ (es : List NE) (i : Nat) (e e' : NE), es[i]? = some e → ((nblks T m (es.set i e')) ++ (e.s T m).blocks).Perm ((e'.s T m).blocks ++ nblks T m es)
  | [], i, e, e', h => by simp at h
  | x :: es, 0, e, e', h => by
    simp at h; subst h
    simp only [List.set_cons_zero, nblks, List.flatMap_cons]
    rw [List.append_assoc]
    exact List.Perm.append_left _ List.perm_append_comm
  | x :: es, i + 1, e, e', h => by
    have ih := Xdj T m es i e e' (by simpa using h)
    simp only [List.set_cons_succ, nblks, List.flatMap_cons] at ih ⊢
    rw [List.append_assoc]
    exact (ih.append_left _).trans (List.perm_append_comm_assoc _ _ _)
theorem Cov.takeN (q : Nat) {T : TypeId} {m : Nat} {es : List NE} {i : Nat} {e : NE} {n : Nat} (hs : sl[q]? = some (.g (packG T m es))) (he : es[i]? = some e) (hn : e.n = n)
    (h : Cov nt w0 S0 df ρ Fs bl (.s (.slice e.a n e.k) T m n e.cs :: sl.set q (.g (packG T m (es.set i NE.nil)))) K) : Cov nt w0 S0 df ρ Fs bl sl K := fun aa w hf hi => by
  subst hn
  have hh : (packG T m es).holds w := hi.mem.slh _ (List.mem_of_getElem? hs)
  have hp := Xdj T m es i e NE.nil he
  rw [Xms, List.nil_append] at hp
  have hnd := hp.nodup_iff.2 hh.1
  have hnd2 := List.nodup_append.1 hnd
  have hb1 : (packG T m es).blks = nblks T m es := if_pos hh.1
  have hb2 : (packG T m (es.set i NE.nil)).blks = nblks T m (es.set i NE.nil) := if_pos hnd2.1
  have hp1 : (blks bl sl).Perm ((packG T m es).blks ++ blks bl (sl.eraseIdx q)) := by
    have h1 := ((X5t sl q _ hs).flatMap_right OwnS.blocks).append_left (bl.map (·.1))
    refine h1.trans ?_
    simp only [List.flatMap_cons, blks]
    exact List.perm_append_comm_assoc _ _ _
  have hp2 : (blks bl (.s (.slice e.a e.n e.k) T m e.n e.cs :: sl.set q (.g (packG T m (es.set i NE.nil))))).Perm (blks bl sl) := by
    refine List.Perm.trans ?_ hp1.symm
    simp only [blks, List.flatMap_cons]
    have h1 := (X7q OwnS.blocks sl q _ (.g (packG T m (es.set i NE.nil))) hs).append_left ((e.s T m).blocks)
    have h2 : ((e.s T m).blocks ++ (OwnS.blocks (.g (packG T m (es.set i NE.nil))) ++ (sl.eraseIdx q).flatMap OwnS.blocks)).Perm ((packG T m es).blks ++ (sl.eraseIdx q).flatMap OwnS.blocks) := by
      rw [← List.append_assoc]
      refine List.Perm.append_right _ ?_
      show ((e.s T m).blocks ++ (packG T m (es.set i NE.nil)).blks).Perm _
      rw [hb1, hb2]
      exact List.perm_append_comm.trans hp
    exact ((h1.trans h2).append_left _).trans (List.perm_append_comm_assoc _ _ _)
  refine h aa w hf (hi.change [] (by simp) (Keep.refl w []) (fun G hG => .inl hG) hi.mem.own (fun s hs' => ?_) (hp2.nodup_iff.2 hi.nodup) (fun b hb => .inl (hp2.mem_iff.1 hb)))
  rcases List.mem_cons.1 hs' with rfl | hs'
  · exact hh.2 e (List.mem_of_getElem? he)
  · obtain ⟨j, hj, rfl⟩ := List.getElem_of_mem hs'
    rw [List.getElem_set]
    split
    · refine ⟨hnd2.1, fun x hx => ?_⟩
      rcases List.mem_or_eq_of_mem_set hx with hx | rfl
      · exact hh.2 x hx
      · exact Xgh w T m
    · exact hi.mem.slh _ (List.getElem_mem (by simpa using hj))
theorem Cov.putN (q : Nat) {T : TypeId} {m : Nat} {es : List NE} {i : Nat} {a : Option Addr} {n kk : Nat} {cs : List Value} {s2 : List OwnS} (hsl : sl = .s (.slice a n kk) T m n cs :: s2) (hs : s2[q]? = some (.g (packG T m es))) (he : es[i]? = some NE.nil)
    (h : Cov nt w0 S0 df ρ Fs bl (s2.set q (.g (packG T m (es.set i ⟨a, n, kk, cs⟩)))) K) : Cov nt w0 S0 df ρ Fs bl sl K := fun aa w hf hi => by
  subst hsl
  have hh : (packG T m es).holds w := hi.mem.slh _ (List.mem_cons_of_mem _ (List.mem_of_getElem? hs))
  have ho : (OwnS.s (.slice a n kk) T m n cs).holds w := hi.mem.slh _ List.mem_cons_self
  have hp := Xdj T m es i NE.nil ⟨a, n, kk, cs⟩ he
  rw [Xms, List.append_nil] at hp
  have hb1 : (packG T m es).blks = nblks T m es := if_pos hh.1
  have hq : (blks bl (.s (.slice a n kk) T m n cs :: s2)).Perm (nblks T m (es.set i ⟨a, n, kk, cs⟩) ++ blks bl (s2.eraseIdx q)) := by
    simp only [blks, List.flatMap_cons]
    have h1 := ((X5t s2 q _ hs).flatMap_right OwnS.blocks).append_left ((OwnS.s (.slice a n kk) T m n cs).blocks)
    simp only [List.flatMap_cons] at h1
    rw [← List.append_assoc (OwnS.blocks _) (OwnS.blocks (.g (packG T m es)))] at h1
    have h2 : ((OwnS.s (.slice a n kk) T m n cs).blocks ++ OwnS.blocks (.g (packG T m es))).Perm (nblks T m (es.set i ⟨a, n, kk, cs⟩)) := by
      show (_ ++ (packG T m es).blks).Perm _
      rw [hb1]; exact hp.symm
    exact ((h1.trans (h2.append_right _)).append_left _).trans (List.perm_append_comm_assoc _ _ _)
  have hnd := hq.nodup_iff.1 hi.nodup
  have hnd1 := (List.nodup_append.1 hnd).1
  have hb2 : (packG T m (es.set i ⟨a, n, kk, cs⟩)).blks = nblks T m (es.set i ⟨a, n, kk, cs⟩) := if_pos hnd1
  have hp2 : (blks bl (s2.set q (.g (packG T m (es.set i ⟨a, n, kk, cs⟩))))).Perm (blks bl (.s (.slice a n kk) T m n cs :: s2)) := by
    refine List.Perm.trans ?_ hq.symm
    simp only [blks]
    have h1 := (X7q OwnS.blocks s2 q _ (.g (packG T m (es.set i ⟨a, n, kk, cs⟩))) hs)
    have h2 : OwnS.blocks (.g (packG T m (es.set i ⟨a, n, kk, cs⟩))) = nblks T m (es.set i ⟨a, n, kk, cs⟩) := hb2
    rw [h2] at h1
    exact (h1.append_left _).trans (List.perm_append_comm_assoc _ _ _)
  refine h aa w hf (hi.change [] (by simp) (Keep.refl w []) (fun G hG => .inl hG) hi.mem.own (fun s hs' => ?_) (hp2.nodup_iff.2 hi.nodup) (fun b hb => .inl (hp2.mem_iff.1 hb)))
  obtain ⟨j, hj, rfl⟩ := List.getElem_of_mem hs'
  rw [List.getElem_set]
  split
  · refine ⟨hnd1, fun x hx => ?_⟩
    rcases List.mem_or_eq_of_mem_set hx with hx | rfl
    · exact hh.2 x hx
    · exact ho
  · exact hi.mem.slh _ (List.mem_cons_of_mem _ (List.getElem_mem (by simpa using hj)))
theorem Xgi (T : TypeId) (m : Nat) : ∀ n, nblks T m (List.replicate n NE.nil) = []
  | 0 => rfl
  | n + 1 => by
    have := Xgi T m n
    unfold nblks at this ⊢
    rw [List.replicate_succ, List.flatMap_cons, Xms, List.nil_append]; exact this
theorem Cov.pack0 (T : TypeId) (m n : Nat) (h : Cov nt w0 S0 df ρ Fs bl (.g (packG T m (List.replicate n NE.nil)) :: sl) K) : Cov nt w0 S0 df ρ Fs bl sl K := fun aa w hf hi => by
  have hb0 := Xgi T m n
  have hb : blks bl (.g (packG T m (List.replicate n NE.nil)) :: sl) = blks bl sl := by
    have : (packG T m (List.replicate n NE.nil)).blks = [] := by show (if _ then _ else _) = _; rw [hb0]; simp
    simp only [blks, List.flatMap_cons, OwnS.blocks, this, List.nil_append]
  refine h aa w hf (hi.change [] (by simp) (Keep.refl w []) (fun G hG => .inl hG) hi.mem.own (fun s hs => ?_) (by rw [hb]; exact hi.nodup) (fun b hx => .inl (by rwa [hb] at hx)))
  rcases List.mem_cons.1 hs with rfl | hs
  · refine ⟨by rw [hb0]; simp, fun e he => ?_⟩
    rw [(List.mem_replicate.1 he).2]; exact Xgh w T m
  · exact hi.mem.slh s hs
theorem Cov.makeN {Q : Rep α} (T : TypeId) (m : Nat) {d : Nat} {t el : TypeId} {x y : Operand} {n : Int} {agg : Bool} {bytes : Nat} {l : List (List α)} (hs : Stp P K' ⟨some d, .makeSlice t x y, ty, none⟩ K) (ht : slOf P t = some el) (hel : TyI P el agg 1 bytes [.slice none 0 0])
    (hx : ev ρ x = some (.int .i64 n)) (hy : ev ρ y = some (.int .i64 n)) (hl : lmk n ([] : List α) = some l) (hby : Nat.ble bytes 8388608 = true) (hd : Nat.blt d nt = true)
    (hk : ∀ b es cs, w0.heap.size ≤ b → NL Q G es cs l → Cov nt w0 S0 df ((d, .slice (some ⟨b, 0, none⟩) l.length l.length) :: ρ) Fs bl (.s (.slice (some ⟨b, 0, none⟩) l.length l.length) el 1 l.length cs :: .g (packG T m es) :: sl) K) : Cov nt w0 S0 df ρ Fs bl sl K' := by
  obtain ⟨h0, h1, rfl⟩ := Xf4 hl
  refine Cov.pack0 T m n.toNat ?_
  refine Cov.makeR (G := G) (Q := Rep.hdr) (zx := (none, 0, 0)) (l := List.replicate n.toNat (none, 0, 0)) hs ht hel rfl rfl rfl rfl hx hy ?_ hby hd fun b cs hb ho => ?_
  · unfold lmk at hl ⊢
    split at hl
    · rename_i hh; rw [if_pos hh]
    · cases hl
  · have hk' := hk b (List.replicate n.toNat NE.nil) cs hb ⟨by rw [List.map_replicate]; exact ho, by simp, fun i e z h1 h2 => by
      rw [List.getElem?_replicate] at h1 h2
      split at h1
      · rename_i hh; rw [if_pos hh] at h2; cases h1; cases h2; exact ⟨rfl, OL.nil⟩
      · cases h1⟩
    simpa using hk'
theorem NL.set {Q : Rep α} {es : List NE} {cs cs' : List Value} {x x' : List (List α)} {i : Int} {y : List α} {e : NE} (h : NL Q G es cs x) (hl : lupd x i y = some x') (hn : e.n = y.length) (ho : OL Q G e.cs y) (hc : OL Rep.hdr G cs' ((es.map NE.h).set i.toNat e.h)) : NL Q G (es.set i.toNat e) cs' x' := by
  obtain ⟨hi0, hil, rfl⟩ := X6y hl
  refine ⟨by rw [List.map_set]; exact hc, by simp [h.2.1], fun j e' y' h1 h2 => ?_⟩
  rw [List.getElem?_set] at h1 h2
  by_cases hij : i.toNat = j
  · subst hij
    have := h.2.1
    rw [if_pos rfl, if_pos (by omega)] at h1
    rw [if_pos rfl, if_pos (by omega)] at h2
    cases h1; cases h2
    exact ⟨hn, ho⟩
  · rw [if_neg hij] at h1 h2
    exact h.2.2 j e' y' h1 h2
theorem NL.hole {es : List NE} {i : Nat} {e : NE} (he : es[i]? = some e) : (es.set i NE.nil)[i]? = some NE.nil := by
  rw [List.getElem?_set, if_pos rfl, if_pos (List.getElem?_eq_some_iff.1 he).1]
theorem Cov.storeN (q1 q2 : Nat) {Q : Rep α} {oa : Option Addr} {om T0 T m : Nat} {x x' : List (List α)} {es : List NE} {cs ics : List Value} {i : Int} {y : List α} {a : Option Addr} {kk : Nat} {t : TypeId} {px u : Operand} {p : Value} {agg : Bool} {bytes : Nat} {z : List Value} {s2 : List OwnS} {e : NE} (hs : Stp P K' ⟨none, .store t px u, ty, none⟩ K)
    (hsl : sl = .s (.slice a y.length kk) T m y.length ics :: s2) (h1 : s2[q1]? = some (.s (.slice oa x.length om) T0 1 x.length cs)) (h2 : s2[q2]? = some (.g (packG T m (es.set i.toNat NE.nil)))) (hN : NL Q G es cs x) (he : es[i.toNat]? = some e) (ho : OL Q G ics y) (hl : lupd x i y = some x')
    (hx : ev ρ px = some p) (hp : PtrO p oa x.length om i.toNat 1 0) (hu : ev ρ u = some (.slice a y.length kk)) (ht : TyI P t agg 1 bytes z) (hq : (q1 == q2) = false)
    (hk : ∀ es' cs', x'.length = x.length → NL Q G es' cs' x' → Cov nt w0 S0 df ρ Fs bl ((s2.set q1 (.s (.slice oa x'.length om) T0 1 x'.length cs')).set q2 (.g (packG T m es'))) K) : Cov nt w0 S0 df ρ Fs bl sl K' := by
  refine Cov.putN q2 hsl h2 (NL.hole he) ?_
  have hq' : q1 ≠ q2 := by simpa using hq
  have e1 : x.length = (es.map NE.h).length := by rw [List.length_map, hN.2.1]
  have hlen : x'.length = x.length := by obtain ⟨_, _, rfl⟩ := X6y hl; simp
  obtain ⟨hi0, hil, _⟩ := X6y hl
  have hilt : i.toNat < es.length := by have := hN.2.1; omega
  have hel : Elem 1 cs i.toNat [.slice e.a e.n e.k] := by
    obtain ⟨c, hc1, hc2⟩ := hN.1.get (i := i) (x := e.h) (by
      unfold lidx
      rw [if_pos hi0, List.getElem?_map, he]; rfl)
    have : c = [.slice e.a e.n e.k] := hc2
    rwa [this] at hc1
  refine Cov.storeR q1 0 (Q := Rep.hdr) (y := (a, y.length, kk)) (l := es.map NE.h) (l' := (es.map NE.h).set i.toNat (a, y.length, kk)) (sz := 1) hs (by rw [List.getElem?_set_ne (Ne.symm hq'), h1, e1]) rfl hN.1 ?_ hx (by rw [← e1]; exact hp) hu ht hel ?_ rfl rfl fun cs' hll ho' => ?_
  · unfold lupd
    rw [if_pos ⟨hi0, by rw [← e1]; exact hil⟩]
  · show _ = [_]
    simp [cellsL, Value.cells]
  · have hN' : NL Q G (es.set i.toNat ⟨a, y.length, kk, ics⟩) cs' x' := hN.set hl rfl ho (by simpa [NE.h] using ho')
    have hk' := hk _ cs' hlen hN'
    have e2 : ((es.map NE.h).set i.toNat (a, y.length, kk)).length = x'.length := by rw [List.length_set, ← e1, hlen]
    rw [e2]
    rw [List.set_set] at *
    rw [List.set_comm _ _ hq']  at hk'
    exact hk'
theorem Cov.backN (q1 q : Nat) {Q : Rep α} {oa : Option Addr} {om T0 T m : Nat} {x x' : List (List α)} {es : List NE} {cs ics : List Value} {i : Int} {y : List α} {s2 : List OwnS} {e : NE} (hsl : sl = .s (.slice e.a y.length e.k) T m y.length ics :: s2) (h1 : s2[q1]? = some (.s (.slice oa x.length om) T0 1 x.length cs)) (h2 : s2[q]? = some (.g (packG T m (es.set i.toNat NE.nil)))) (hN : NL Q G es cs x) (he : es[i.toNat]? = some e) (hn : y.length = e.n) (ho : OL Q G ics y) (hl : lupd x i y = some x')
    (hk : ∀ es', x'.length = x.length → NL Q G es' cs x' → es'.map NE.h = es.map NE.h → Cov nt w0 S0 df ρ Fs bl ((s2.set q1 (.s (.slice oa x'.length om) T0 1 x'.length cs)).set q (.g (packG T m es'))) K) : Cov nt w0 S0 df ρ Fs bl sl K := by
  refine Cov.putN q hsl h2 (NL.hole he) ?_
  have hlen : x'.length = x.length := by obtain ⟨_, _, rfl⟩ := X6y hl; simp
  have hsame : (es.map NE.h).set i.toNat (NE.h ⟨e.a, y.length, e.k, ics⟩) = es.map NE.h := by
    have h3 : (es.map NE.h)[i.toNat]? = some (NE.h ⟨e.a, y.length, e.k, ics⟩) := by rw [List.getElem?_map, he]; simp [NE.h, hn]
    obtain ⟨hlt, h4⟩ := List.getElem?_eq_some_iff.1 h3
    rw [← h4]; exact List.set_getElem_self hlt
  have hN' : NL Q G (es.set i.toNat ⟨e.a, y.length, e.k, ics⟩) cs x' := hN.set hl rfl ho (by rw [hsame]; exact hN.1)
  have hk' := hk _ hlen hN' (by rw [List.map_set]; exact hsame)
  have hs : s2.set q1 (.s (.slice oa x'.length om) T0 1 x'.length cs) = s2 := by
    obtain ⟨hlt, h4⟩ := List.getElem?_eq_some_iff.1 h1
    rw [hlen, ← h4]; exact List.set_getElem_self hlt
  rw [hs] at hk'
  rw [List.set_set]
  exact hk'
theorem Rd.entry {T m : Nat} {es : List NE} {G' : Hp} (h : Rd (.g (packG T m es)) G') {e : NE} (he : e ∈ es) : Rd (e.s T m) G' := by
  obtain ⟨w, hh, hb⟩ := h
  exact ⟨w, hh.2 e he, fun b hbe => hb b (by
    show b ∈ (if _ then _ else _)
    rw [if_pos hh.1]; exact List.mem_flatMap.2 ⟨e, he, hbe⟩)⟩
theorem SlR.rdN {Q : Rep α} {G' : Hp} {a : Option Addr} {kk T0 T m : Nat} {x : List (List α)} {es : List NE} {cs : List Value} (hN : NL Q G es cs x) (hm : m = Q.sz) (hle : HpLe G G') (h1 : Rd (.s (.slice a x.length kk) T0 1 x.length cs) G') (h2 : Rd (.g (packG T m es)) G') : SlR (Rep.sl Q) G' a kk x := by
  refine SlR.rd (G := G') (T := T0) ?_ rfl (HpLe.refl _) h1
  obtain ⟨⟨hb, xs, rfl, h3, h4⟩, h5, h6⟩ := hN
  rw [List.length_map] at hb
  refine ⟨by omega, xs, rfl, h3, by rw [h4.1, List.length_map, h5], fun i c y hc hy => ?_⟩
  have hlt : i < es.length := by rw [h5]; exact (List.getElem?_eq_some_iff.1 hy).1
  have he : es[i]? = some es[i] := List.getElem?_eq_getElem hlt
  obtain ⟨hn, ho⟩ := h6 i _ y he hy
  have hc' : c = [.slice es[i].a es[i].n es[i].k] := h4.2 i c es[i].h hc (by rw [List.getElem?_map, he]; rfl)
  refine ⟨es[i].a, es[i].k, by rw [hc', hn], ?_⟩
  have hr := h2.entry (List.getElem_mem hlt)
  unfold NE.s at hr
  rw [hn] at hr
  exact SlR.rd ho hm hle hr
theorem Cov.freezeN {Q : Rep α} {a : Option Addr} {kk T0 T m : Nat} {x : List (List α)} {es : List NE} {cs : List Value} {s2 : List OwnS} (hsl : sl = .s (.slice a x.length kk) T0 1 x.length cs :: .g (packG T m es) :: s2) (hN : NL Q G es cs x) (hm : m = Q.sz) (hB : Bd w0 S0 B G)
    (hk : ∀ G', HpLe G G' → Bd w0 S0 B G' → SlR (Rep.sl Q) G' a kk x → Cov nt w0 S0 df ρ (G' :: B) bl s2 K) : Cov nt w0 S0 df ρ (G :: B) bl sl K := fun aa w hf hi => by
  subst hsl
  have hi' : Inv w0 S0 (G :: B) bl ([] ++ ([.s (.slice a x.length kk) T0 1 x.length cs, .g (packG T m es)] ++ s2)) w := hi
  obtain ⟨G', hle, hrd, hi2, hbd, _⟩ := hi'.lendB
  refine Cov.less (Fs' := G' :: B) ?_ (hk G' hle (hbd B hB) (SlR.rdN hN hm hle (hrd _ List.mem_cons_self) (hrd _ (List.mem_cons_of_mem _ List.mem_cons_self)))) aa w hf hi2
  intro F hF
  rcases List.mem_cons.1 hF with rfl | hF
  · exact List.mem_cons_self
  · exact List.mem_cons_of_mem _ (List.mem_cons_of_mem _ hF)
end
end Go.Proofs.YtmfppphlhgneeaaGreat
end

section
namespace Go.Proofs.YtmfppphlhgneeaaGreat
open Go.RowKit
set_option linter.unusedVariables false
theorem SlR.cells {α : Type} {Q : Rep α} {G : Hp} {a : Option Addr} {k : Nat} {l : List α} (h : SlR Q G a k l) : ∃ xs : List (List Value), (∀ x ∈ xs, x.length = Q.sz) ∧ RL Q G xs l ∧ (a = none → l = []) ∧
    ∀ w, HpIn G w → ∀ ad, a = some ad → ∀ (j : Nat) u, xs.flatten[j]? = some u → w.cell? (ad.add j) = some u := by
  have hnil : a = none → l = [] := fun e => h.isnil (by simp [e])
  obtain ⟨_, xs, ⟨a', cap, hv, hc, hsz, hcc⟩, hrl⟩ := h
  simp only [Value.slice.injEq] at hv
  obtain ⟨rfl, hlen, rfl⟩ := hv
  refine ⟨xs, hsz, hrl, hnil, fun w hw ad had j u hj => ?_⟩
  have hne : xs ≠ [] := by rintro rfl; simp at hj
  obtain ⟨b, o, hb, hcell⟩ := hcc hne
  rw [had] at hb
  cases hb
  have hfl := Xf6 hsz
  have hlt : j < xs.length * Q.sz := by rw [← hfl]; exact (List.getElem?_eq_some_iff.1 hj).1
  have hpos : 0 < Q.sz := by
    rcases Nat.eq_zero_or_pos Q.sz with h | h
    · rw [h] at hlt; omega
    · exact h
  have hq : j / Q.sz < xs.length := Nat.div_lt_of_lt_mul (by rw [Nat.mul_comm]; exact hlt)
  have hm : j % Q.sz < Q.sz := Nat.mod_lt _ hpos
  have hxq : xs[j / Q.sz]? = some xs[j / Q.sz] := List.getElem?_eq_getElem hq
  have hl2 := hsz _ (List.getElem_mem hq)
  have hg := X58 xs (j / Q.sz) _ (j % Q.sz) ((xs[j / Q.sz])[j % Q.sz]'(by omega)) hsz hxq (List.getElem?_eq_getElem _)
  have hdm : j / Q.sz * Q.sz + j % Q.sz = j := by rw [Nat.mul_comm]; exact Nat.div_add_mod j Q.sz
  rw [hdm] at hg
  rw [hg] at hj
  have := hcell (j / Q.sz) _ hxq (j % Q.sz) u (by rw [List.getElem?_eq_getElem (by omega)]; exact hj)
  rw [Nat.add_assoc, hdm] at this
  rw [X1e]
  exact hw.cell this
section
variable {P : Program} {c : Cx} {R : Value → World → Prop} {nt : Nat} {w0 : World} {S0 : List Nat} {df : List Deferred} {ρ ρ' : Env} {Fs Fs' Fin B : List Hp} {bl bl' : Blks} {sl sl' : List OwnS}
  {K K' : Act → World → Prop} {k : List Item} {ty : TypeId} {α : Type} {G : Hp}
end
end Go.Proofs.YtmfppphlhgneeaaGreat
end

section
namespace Go.Proofs.YtmfppphlhgneeaaGreat
open Go.RowKit
variable {P : Program} {ρ : Env} {Fs : List Hp} {bl : Blks} {sl : List OwnS} {ty : TypeId}
theorem QOp.shlw {t u : TypeId} {x y : Operand} {k k' : IntKind} {m n : Int} (hx : ev ρ x = some (.int k m)) (hy : ev ρ y = some (.int k' n)) (hn : 0 ≤ n) : QOp P ρ Fs bl sl (.binOp .shl t x y u) ty (.int k (shlI k m n)) :=
  .bin hx hy fun w => by
    have h1 : (eqGuard .shl t x y (.int k m) (.int k' n)).run P w = .ok () w := rfl
    rw [Sem.run_bind, h1]
    simp only [Result.andThen_ok]
    have : Op.shift .shl k m k' n = pure (.int k (shlI k m n)) := by
      unfold Op.shift shlI; rw [if_neg (by omega)]
    simp only [binOp]
    rw [this]
    rfl
theorem QOp.shrw {t u : TypeId} {x y : Operand} {k k' : IntKind} {m n : Int} (hx : ev ρ x = some (.int k m)) (hy : ev ρ y = some (.int k' n)) (hn : 0 ≤ n) : QOp P ρ Fs bl sl (.binOp .shr t x y u) ty (.int k (shrI k m n)) :=
  .bin hx hy fun w => by
    have h1 : (eqGuard .shr t x y (.int k m) (.int k' n)).run P w = .ok () w := rfl
    rw [Sem.run_bind, h1]
    simp only [Result.andThen_ok]
    have : Op.shift .shr k m k' n = pure (.int k (shrI k m n)) := by
      unfold Op.shift shrI; rw [if_neg (by omega)]
    simp only [binOp]
    rw [this]
    rfl
theorem QOp.orw {t u : TypeId} {x y : Operand} {k : IntKind} {m n : Int} (hx : ev ρ x = some (.int k m)) (hy : ev ρ y = some (.int k n)) :
    QOp P ρ Fs bl sl (.binOp .or t x y u) ty (.int k (orI k m n)) := .int hx hy fun w => by simp only [binOp, Op.intBits, ne_eq, not_true_eq_false, if_false]; rfl
end Go.Proofs.YtmfppphlhgneeaaGreat
end

section
namespace Go.Proofs.YtmfppphlhgneeaaGreat
open Go.RowKit
set_option linter.unusedVariables false
def PartV (a : Option Addr) (sz : Nat) (v : Value) (i len : Nat) : Prop := ∃ a' c', v = .slice a' len c' ∧ len ≤ c' ∧ (len ≠ 0 → ∀ g o, a = some ⟨g, o, none⟩ → a' = some ⟨g, o + i * sz, none⟩)
theorem PartV.whole {a : Option Addr} {sz n m : Nat} (h : n ≤ m) : PartV a sz (.slice a n m) 0 n := ⟨a, m, rfl, h, fun _ g o e => by rw [e]; simp⟩
theorem PartV.sub {a : Option Addr} {sz : Nat} {v : Value} {i len : Nat} (h : PartV a sz v i len) {i' j' : Nat} (h1 : i' ≤ j') (h2 : j' ≤ len) : PartV a sz (subV v i' j' sz) (i + i') (j' - i') := by
  obtain ⟨a', c', rfl, hc, ha⟩ := h
  refine ⟨_, _, rfl, by omega, fun hne g o e => ?_⟩
  have := ha (by omega) g o e
  subst this
  rw [if_neg (by omega)]
  simp [X1e, Nat.add_mul, Nat.add_assoc]
theorem Xgj {P : Program} (w : World) (dT sT ty elem : TypeId) (sz g o dLen dCap sLen : Nat) (s : Value) (cur : Array Value) (t : TypeId) (cs : List Value)
    (hu : P.underlying dT = some (.slice elem)) (hs : szOf P elem = some sz) (hg : w.heap[g]? = some (.cells cur t (0, 0))) (hl : (Builtin.lenOf s).run P w = .ok sLen w)
    (hf : (Builtin.firstCells sz (Nat.min sLen dLen) s).run P w = .ok cs.toArray w) (hfit : o + cs.length ≤ cur.size) (h1 : ∀ v ∈ cs, v.oneCell' = true) :
    (Builtin.copy_ #[dT, sT] ty #[.slice (some ⟨g, o, none⟩) dLen dCap, s]).run P w = .ok (goInt (Nat.min sLen dLen)) (w.setRow g (cur.toList.take o ++ cs ++ cur.toList.drop (o + cs.length)).toArray) := by
  have hst := run_storeCells_at P g o t cs 0 cur w hg (by simpa using hfit) h1
  simp only [Nat.add_zero] at hst
  unfold Builtin.copy_
  simp [run_underlying hu, hl, X34 hs, hf, hst]
theorem Xf7 {P : Program} (w : World) (dT sT ty elem : TypeId) (sz dLen dCap sLen : Nat) (d : Option Addr) (s : Value) (hu : P.underlying dT = some (.slice elem)) (hs : szOf P elem = some sz) (hl : (Builtin.lenOf s).run P w = .ok sLen w)
    (hf : (Builtin.firstCells sz 0 s).run P w = .ok #[] w) (h0 : Nat.min sLen dLen = 0) :
    (Builtin.copy_ #[dT, sT] ty #[.slice d dLen dCap, s]).run P w = .ok (goInt 0) w := by
  unfold Builtin.copy_
  cases d <;> simp [run_underlying hu, hl, X34 hs, hf, h0, storeCells]
def SrcV (P : Program) (Fs : List Hp) (bl : Blks) (sl : List OwnS) {α : Type} (Q : Rep α) (G : Hp) (s : Value) (ls : List α) : Prop :=
  ∀ w, Mem Fs bl sl w → (Builtin.lenOf s).run P w = .ok ls.length w ∧ ∀ n, n ≤ ls.length → n ≤ 16777216 → ∃ c : List Value, (Builtin.firstCells Q.sz n s).run P w = .ok c.toArray w ∧ OL Q G c (ls.take n)
section
variable {α : Type} {Q : Rep α} {G : Hp}
theorem OL.take {cs : List Value} {l : List α} (h : OL Q G cs l) (i : Nat) : OL Q G (cs.take (i * Q.sz)) (l.take i) := by
  obtain ⟨hb, xs, rfl, h3, h4, h5⟩ := h
  have key : ∀ (xs : List (List Value)) (i : Nat), (∀ x ∈ xs, x.length = Q.sz) → xs.flatten.take (i * Q.sz) = (xs.take i).flatten := by
    intro xs
    induction xs with
    | nil => intro i _; simp
    | cons x xs ih =>
      intro i hx
      cases i with
      | zero => simp
      | succ i =>
        have hl := hx x List.mem_cons_self
        rw [List.flatten_cons, List.take_succ_cons, List.flatten_cons, ← ih i fun y hy => hx y (List.mem_cons_of_mem _ hy), Nat.add_mul, List.take_append, hl, List.take_of_length_le (by omega)]
        congr 2; omega
  refine ⟨by rw [List.length_take]; omega, xs.take i, key xs i h3, fun x hx => h3 x (List.mem_of_mem_take hx), by rw [List.length_take, List.length_take, h4], fun j c x hc hx => ?_⟩
  have hj : j < i := by
    rcases Nat.lt_or_ge j i with h | h
    · exact h
    · rw [List.getElem?_take_eq_none h] at hx; cases hx
  rw [List.getElem?_take_of_lt hj] at hc hx
  exact h5 j c x hc hx
theorem OL.drop {cs : List Value} {l : List α} (h : OL Q G cs l) (i : Nat) : OL Q G (cs.drop (i * Q.sz)) (l.drop i) := by
  obtain ⟨hb, xs, rfl, h3, h4, h5⟩ := h
  have key : ∀ (xs : List (List Value)) (i : Nat), (∀ x ∈ xs, x.length = Q.sz) → xs.flatten.drop (i * Q.sz) = (xs.drop i).flatten := by
    intro xs
    induction xs with
    | nil => intro i _; simp
    | cons x xs ih =>
      intro i hx
      cases i with
      | zero => simp
      | succ i =>
        have hl := hx x List.mem_cons_self
        rw [List.flatten_cons, List.drop_succ_cons, ← ih i fun y hy => hx y (List.mem_cons_of_mem _ hy), Nat.add_mul, List.drop_append, hl, List.drop_of_length_le (by omega), List.nil_append]
        congr 1; omega
  refine ⟨by rw [List.length_drop]; omega, xs.drop i, key xs i h3, fun x hx => h3 x (List.mem_of_mem_drop hx), by rw [List.length_drop, List.length_drop, h4], fun j c x hc hx => ?_⟩
  rw [List.getElem?_drop] at hc hx
  exact h5 _ c x hc hx
theorem OL.append {cs cs' : List Value} {l l' : List α} (h : OL Q G cs l) (h' : OL Q G cs' l') (hb : l.length + l'.length ≤ 16777216) : OL Q G (cs ++ cs') (l ++ l') := by
  obtain ⟨_, xs, rfl, h3, h4, h5⟩ := h
  obtain ⟨_, ys, rfl, k3, k4, k5⟩ := h'
  refine ⟨by rw [List.length_append]; exact hb, xs ++ ys, by rw [List.flatten_append], fun x hx => ?_, by rw [List.length_append, List.length_append, h4, k4], fun j c x hc hx => ?_⟩
  · rcases List.mem_append.1 hx with hx | hx
    · exact h3 x hx
    · exact k3 x hx
  · by_cases hj : j < xs.length
    · rw [List.getElem?_append_left hj] at hc
      rw [List.getElem?_append_left (by omega)] at hx
      exact h5 j c x hc hx
    · rw [List.getElem?_append_right (by omega)] at hc
      rw [List.getElem?_append_right (by omega)] at hx
      rw [h4] at hc
      exact k5 _ c x hc hx
theorem OL.ones {cs : List Value} {l : List α} (h : OL Q G cs l) : ∀ v ∈ cs, v.oneCell' = true := fun v hv => by
  obtain ⟨_, xs, rfl, h3, h4, h5⟩ := h
  obtain ⟨x, hx, hvx⟩ := List.mem_flatten.1 hv
  obtain ⟨i, hi, rfl⟩ := List.getElem_of_mem hx
  have := Q.one (h5 i _ _ (List.getElem?_eq_getElem hi) (List.getElem?_eq_getElem (by omega)))
  exact List.all_eq_true.1 this v hvx
end
section
variable {P : Program} {Fs : List Hp} {bl : Blks} {sl : List OwnS} {α : Type} {Q : Rep α} {G : Hp}
theorem SrcV.nil : SrcV P Fs bl sl Q G (.slice none 0 0) ([] : List α) := fun w _ => ⟨rfl, fun n hn _ => by
  obtain rfl : n = 0 := by simpa using hn
  exact ⟨[], by simp [Builtin.firstCells], OL.nil⟩⟩
theorem SrcV.rd {a : Option Addr} {k : Nat} {l : List α} (h : SlR Q G a k l) (hG : G ∈ Fs) : SrcV P Fs bl sl Q G (.slice a l.length k) l := fun w hm => ⟨rfl, fun n hn hb => by
  obtain ⟨xs, h1, h2, h3, h4⟩ := h.cells
  have ho : OL Q G (xs.take n).flatten (l.take n) := by
    refine ⟨by rw [List.length_take]; omega, xs.take n, rfl, fun x hx => h1 x (List.mem_of_mem_take hx), by rw [List.length_take, List.length_take, h2.1], fun j c x hc hx => ?_⟩
    have hj : j < n := by
      rcases Nat.lt_or_ge j n with h | h
      · exact h
      · rw [List.getElem?_take_eq_none h] at hx; cases hx
    rw [List.getElem?_take_of_lt hj] at hc hx
    exact h2.2 j c x hc hx
  refine ⟨_, ?_, ho⟩
  have hcl := ho.clen
  rw [List.length_take, Nat.min_eq_left hn] at hcl
  cases a with
  | none =>
    have := h3 rfl
    subst this
    obtain rfl : n = 0 := by simpa using hn
    simp [Builtin.firstCells]
  | some ad =>
    refine run_firstCells_some _ _ _ _ _ _ _ hcl fun j v hj => ?_
    have hpre : (xs.take n).flatten <+: xs.flatten := ⟨(xs.drop n).flatten, by rw [← List.flatten_append, List.take_append_drop]⟩
    obtain ⟨r, hr⟩ := hpre
    refine h4 w (hm.fs G hG) ad rfl j v ?_
    rw [← hr, List.getElem?_append_left (List.getElem?_eq_some_iff.1 hj).1]
    exact hj⟩
theorem SrcV.part (q : Nat) {a : Option Addr} {m T : Nat} {l ls : List α} {cs : List Value} {v : Value} {i : Nat} (hs : sl[q]? = some (.s (.slice a l.length m) T Q.sz l.length cs)) (ho : OL Q G cs l) (hp : PartV a Q.sz v i ls.length) (hl : ls = (l.drop i).take ls.length) : SrcV P Fs bl sl Q G v ls := fun w hm => by
  obtain ⟨a', c', rfl, hc, ha⟩ := hp
  refine ⟨rfl, fun n hn hb => ?_⟩
  by_cases h0 : n = 0
  · subst h0
    refine ⟨[], ?_, by simpa using OL.nil⟩
    cases a' with
    | none => simp [Builtin.firstCells]
    | some ad => exact run_firstCells_some (P := P) (w := w) (size := Q.sz) (n := 0) (b := ad) (len := ls.length) (cap := c') (cs := []) (by simp) (by simp)
  have hlen : ls.length ≤ l.length - i := by
    have := congrArg List.length hl
    rw [List.length_take, List.length_drop] at this
    omega
  have hown : w.ownsRow 0 T Q.sz (.slice a l.length m) l.length cs := hm.slh _ (List.mem_of_getElem? hs)
  obtain ⟨g, rfl, hcell⟩ := Xbd hown (by omega)
  have := ha (by omega) g 0 rfl
  rw [Nat.zero_add] at this
  subst this
  have h1 := (ho.drop i).take n
  have e : (l.drop i).take n = ls.take n := by rw [hl, List.take_take, Nat.min_eq_left hn]
  rw [e] at h1
  refine ⟨_, ?_, h1⟩
  have hcl := h1.clen
  have hln : (ls.take n).length = n := by simp; omega
  rw [hln] at hcl
  refine run_firstCells_some _ _ _ _ _ _ _ hcl fun j u hj => ?_
  have hjl : j < n * Q.sz := by rw [← hcl]; exact (List.getElem?_eq_some_iff.1 hj).1
  rw [List.getElem?_take_of_lt hjl, List.getElem?_drop] at hj
  rw [X1e]
  refine hcell _ _ ?_ hj
  have h2 : (i + n) * Q.sz ≤ l.length * Q.sz := Nat.mul_le_mul_right _ (by omega)
  rw [Nat.add_mul] at h2
  omega
theorem SrcV.osub (q : Nat) {a : Option Addr} {m T : Nat} {l ls : List α} {cs : List Value} {v : Value} {lo hi : Int} (hs : sl[q]? = some (.s (.slice a l.length m) T Q.sz l.length cs)) (ho : OL Q G cs l) (hp : PartV a Q.sz v lo.toNat (hi - lo).toNat) (hu : lsub l lo hi = some ls) : SrcV P Fs bl sl Q G v ls := by
  obtain ⟨h1, h2, h3, rfl⟩ := X9h hu
  have e : ((l.drop lo.toNat).take (hi - lo).toNat).length = (hi - lo).toNat := by simp only [List.length_take, List.length_drop]; omega
  exact SrcV.part q hs ho (by rw [e]; exact hp) (by rw [e])
theorem SrcV.own (q : Nat) {a : Option Addr} {m T : Nat} {l : List α} {cs : List Value} (hs : sl[q]? = some (.s (.slice a l.length m) T Q.sz l.length cs)) (ho : OL Q G cs l) (hc : l.length ≤ m) : SrcV P Fs bl sl Q G (.slice a l.length m) l :=
  SrcV.part q hs ho (PartV.whole hc) (by simp)
theorem SrcV.str {s : ByteArray} (hs : s.size ≤ 9223372036854775807) : SrcV P Fs bl sl (Rep.int .u8) G (.string s) (toB s) := fun w _ => by
  have hlen : (toB s).length = s.size := by unfold toB; simp
  refine ⟨by rw [hlen]; rfl, fun n hn hb => ?_⟩
  have e : (Builtin.firstCells (Rep.int .u8).sz n (.string s)).run P w = .ok (((toB s).take n).map fun x => Value.int .u8 x).toArray w := by
    simp only [Builtin.firstCells]
    show Result.ok _ w = _
    congr 1
    apply Array.ext'
    unfold toB
    simp [ByteArray.data_extract, List.map_take]
    rfl
  refine ⟨_, e, ?_⟩
  exact (OL.one_iff rfl).2 ⟨by rw [List.length_take]; omega, by simp, fun j v x hv hx => by
    rw [List.getElem?_map, hx] at hv
    simp only [Option.map_some, Option.some.injEq] at hv
    subst hv
    rfl⟩
theorem SrcV.str' {s : ByteArray} {l : List Int} (hu : tobs s = some l) : SrcV P Fs bl sl (Rep.int .u8) G (.string s) l := by
  obtain ⟨h, rfl⟩ := Xde hu
  exact SrcV.str h
end
section
variable {P : Program} {c : Cx} {R : Value → World → Prop} {nt : Nat} {w0 : World} {S0 : List Nat} {df : List Deferred} {ρ ρ' : Env} {Fs Fs' Fin B : List Hp} {bl bl' : Blks} {sl sl' : List OwnS}
  {K K' : Act → World → Prop} {k : List Item} {ty : TypeId} {G : Hp} {α : Type}
theorem QOp.sliceP {a : Option Addr} {sz : Nat} {lo hi i j : Int} {u : Int × Int} {v : Value} {t el : TypeId} {x : Operand} {l h : Option Operand} (hx : ev ρ x = some v) (hp : PartV a sz v lo.toNat (hi - lo).toNat) (hu : psub lo hi i j = some u)
    (ht : slOf P t = some el) (hz : szOf P el = some sz) (hlo : 0 ≤ i → Bnd ρ 0 l i.toNat) (hhi : 0 ≤ j → Bnd ρ (hi - lo).toNat h j.toNat) : QOp P ρ Fs bl sl (.slice t x l h none) ty (subV v i.toNat j.toNat sz) := by
  obtain ⟨h1, h2, h3, h4, _⟩ := Xg9 hu
  obtain ⟨a', c', rfl, hc, _⟩ := hp
  exact .slice_sl hx rfl ht hz (hlo h2) (hhi (by omega)) (by omega) (by omega)
theorem PartV.psub {a : Option Addr} {sz : Nat} {lo hi i j : Int} {u : Int × Int} {v : Value} (hp : PartV a sz v lo.toNat (hi - lo).toNat) (hu : psub lo hi i j = some u) : PartV a sz (subV v i.toNat j.toNat sz) u.1.toNat (u.2 - u.1).toNat := by
  obtain ⟨h1, h2, h3, h4, rfl⟩ := Xg9 hu
  have := hp.sub (i' := i.toNat) (j' := j.toNat) (by omega) (by omega)
  have e1 : lo.toNat + i.toNat = (lo + i).toNat := by omega
  have e2 : j.toNat - i.toNat = (lo + j - (lo + i)).toNat := by omega
  rw [e1, e2] at this
  exact this
theorem PartV.all {a : Option Addr} {sz n m : Nat} (h : n ≤ m) : PartV a sz (.slice a n m) (0 : Int).toNat ((n : Int) - 0).toNat := by
  have := PartV.whole (a := a) (sz := sz) h
  simpa using this
theorem QOp.idxP (q : Nat) {a : Option Addr} {m T sz : Nat} {l : List α} {cs : List Value} {lo hi i u : Int} {y : α} {kk : IntKind} {t el : TypeId} {x j : Operand} {v : Value} (hs : sl[q]? = some (.s (.slice a l.length m) T sz l.length cs)) (hx : ev ρ x = some v) (hp : PartV a sz v lo.toNat (hi - lo).toNat)
    (hj : ev ρ j = some (.int kk i)) (hu : pidx lo hi i = some u) (he : lidx l u = some y) (ht : slOf P t = some el) (hz : szOf P el = some sz) : QOp P ρ Fs bl sl (.indexAddr t x j) ty (elemPtr (.slice a l.length m) u.toNat sz) := .of fun e he' w hm => by
  obtain ⟨h1, h2, h3, rfl⟩ := Xj8 hu
  obtain ⟨h5, h6, _⟩ := X45 he
  obtain ⟨g, rfl, _⟩ := Xbd (hm.slh _ (List.mem_of_getElem? hs)) (by omega)
  obtain ⟨a', c', rfl, hc, ha⟩ := hp
  have := ha (by omega) g 0 rfl
  rw [Nat.zero_add] at this
  subst this
  refine X63 (s := Instr.indexAt t (e x) (e j)) ?_
  rw [he' x _ hx, he' j _ hj]
  have := Xan (P := P) (w := w) (t := t) (el := el) (a := ⟨g, lo.toNat * sz, none⟩) (len := (hi - lo).toNat) (cap := c') (k := kk) ht hz h2 (by omega)
  rw [this]
  simp only [elemPtr, X1e]
  congr 4
  rw [show (lo + i).toNat = lo.toNat + i.toNat from by omega, Nat.add_mul, Nat.zero_add]
theorem Cov.copyG (q : Nat) {Q : Rep α} {d : Nat} {t t2 e : TypeId} {x y : Operand} {v s : Value} {a : Option Addr} {m T : Nat} {l ld ls : List α} {lo hi : Int} {cs : List Value} (hs : Stp P K' ⟨some d, .call ⟨.builtin .copy, #[x, y], #[t, t2]⟩, ty, none⟩ K) (ht : slOf P t = some e) (hz : szOf P e = some Q.sz)
    (hi0 : sl[q]? = some (.s (.slice a l.length m) T Q.sz l.length cs)) (ho : OL Q G cs l) (hd1 : lsub l lo hi = some ld) (hx : ev ρ x = some v) (hp : PartV a Q.sz v lo.toNat (hi - lo).toNat) (hy : ev ρ y = some s) (hsrc : SrcV P Fs bl sl Q G s ls) (hd : Nat.blt d nt = true)
    (hk : ∀ cs', (lcpy l lo ld.length ls).length = l.length → OL Q G cs' (lcpy l lo ld.length ls) → Cov nt w0 S0 df ((d, .int .i64 ((min ls.length ld.length : Nat) : Int)) :: ρ) Fs bl (sl.set q (.s (.slice a (lcpy l lo ld.length ls).length m) T Q.sz (lcpy l lo ld.length ls).length cs')) K) : Cov nt w0 S0 df ρ Fs bl sl K' := fun a' w hf hinv => by
  refine hs a' w ?_
  obtain ⟨a1, a2, a3, rfl⟩ := X9h hd1
  have hld : ((l.drop lo.toNat).take (hi - lo).toNat).length = (hi - lo).toNat := by simp only [List.length_take, List.length_drop]; omega
  rw [hld] at hk
  have hown : w.ownsRow 0 T Q.sz (.slice a l.length m) l.length cs := hinv.mem.slh _ (List.mem_of_getElem? hi0)
  obtain ⟨hlen, hcells⟩ := hsrc w hinv.mem
  obtain ⟨pa, pc, rfl, hpc, hpa⟩ := hp
  have hrunv : ∀ {z : Value} {w' : World}, (Builtin.copy_ #[t, t2] ty #[.slice pa (hi - lo).toNat pc, s]).run P w = .ok z w' →
      (execOp a'.eval (⟨some d, .call ⟨.builtin .copy, #[x, y], #[t, t2]⟩, ty, none⟩ : OpX).oper).run P w = .ok (.value z) w' := fun {z w'} h => by
    refine X57 (X63 (s := Builtin.copy_ #[t, t2] ty (#[x, y].map a'.eval)) ?_)
    rw [show #[x, y].map a'.eval = #[a'.eval x, a'.eval y] from by simp, Xv hf hx, Xv hf hy]
    exact h
  unfold Oper.wp
  by_cases h0 : Nat.min ls.length (hi - lo).toNat = 0
  · obtain ⟨c0, hc0, ho0⟩ := hcells 0 (by omega) (by omega)
    have hc00 : c0 = [] := by
      have := ho0.clen
      simp at this
      exact this
    subst hc00
    rw [hrunv (Xf7 w t t2 ty e Q.sz (hi - lo).toNat pc ls.length pa s (X5o ht) hz hlen hc0 h0)]
    have h0' : min ls.length (hi - lo).toNat = 0 := h0
    have e1 := Xge (l := l) (i := lo) h0'
    have hk' := hk cs (by rw [e1]) (by rw [e1]; exact ho)
    rw [e1, h0'] at hk'
    have e3 : sl.set q (.s (.slice a l.length m) T Q.sz l.length cs) = sl := by
      apply List.ext_getElem?
      intro z
      rw [List.getElem?_set]
      split
      · rename_i hh; subst hh
        split
        · exact hi0.symm
        · rename_i hlt; rw [List.getElem?_eq_none (by omega)]
      · rfl
    rw [e3] at hk'
    exact hk' _ _ (hf.put hd _) hinv
  · have hmin : min ls.length (hi - lo).toNat ≠ 0 := h0
    generalize hnn : min ls.length (hi - lo).toNat = n at hmin hk
    have hnn' : Nat.min ls.length (hi - lo).toNat = n := hnn
    have hb := ho.1
    obtain ⟨c0, hc0, ho0⟩ := hcells n (by omega) (by omega)
    rcases hown.2 with ⟨_, hl0⟩ | ⟨g, cap', cur, hv, hbase, hg, hnc, hm2, hcs, htake⟩
    · omega
    · cases hv
      have := hpa (by omega) g 0 rfl
      rw [Nat.zero_add] at this
      subst this
      have hc0l := ho0.clen
      rw [List.length_take, Nat.min_eq_left (by omega)] at hc0l
      have hnl : (lo.toNat + n) * Q.sz ≤ l.length * Q.sz := Nat.mul_le_mul_right _ (by omega)
      have hlm : l.length * Q.sz ≤ m * Q.sz := Nat.mul_le_mul_right _ hnc
      have hnl' := hnl
      rw [Nat.add_mul] at hnl
      have hrun := Xgj (P := P) w t t2 ty e Q.sz g (lo.toNat * Q.sz) (hi - lo).toNat pc ls.length s cur T c0 (X5o ht) hz hg hlen (by rw [hnn']; exact hc0) (by rw [hc0l, hcs]; omega) ho0.ones
      rw [hrunv hrun]
      have hll : (lcpy l lo (hi - lo).toNat ls).length = l.length := Xh8 (by omega)
      have hsrc2 : ls.take (hi - lo).toNat = ls.take n := by
        rcases Nat.le_total ls.length (hi - lo).toNat with hle | hle
        · rw [List.take_of_length_le hle, List.take_of_length_le (by omega)]
        · rw [show n = (hi - lo).toNat from by omega]
      have hlc : lcpy l lo (hi - lo).toNat ls = l.take lo.toNat ++ ls.take n ++ l.drop (lo.toNat + n) := by
        unfold lcpy; rw [hnn, hsrc2]
      have hol : OL Q G (cs.take (lo.toNat * Q.sz) ++ c0 ++ cs.drop ((lo.toNat + n) * Q.sz)) (lcpy l lo (hi - lo).toNat ls) := by
        rw [hlc]
        exact ((ho.take lo.toNat).append ho0 (by simp only [List.length_take]; omega)).append (ho.drop (lo.toNat + n)) (by simp only [List.length_append, List.length_take, List.length_drop]; omega)
      have hk' := hk _ hll hol
      rw [hll] at hk'
      have hcl := ho.clen
      have hcur : cur.toList = cs ++ cur.toList.drop (l.length * Q.sz) := by rw [← htake, List.take_append_drop]
      refine hk' _ _ ?_ (hinv.set_s q hi0 (s' := .s (.slice (some ⟨g, 0, none⟩) l.length m) T Q.sz l.length _) ?_ ?_ (by simp [OwnS.blocks, Value.ownBlock]) (fun b hb => .inl (by simpa [OwnS.blocks, Value.ownBlock] using hb)))
      · have := hf.put hd (goInt (Nat.min ls.length (hi - lo).toNat))
        rw [hnn'] at this ⊢
        exact this
      · refine ⟨rfl, rfl, rfl, by simp [World.setRow], fun x _ hD => setRow_other w g x _ (by simpa [OwnS.blocks, Value.ownBlock] using hD)⟩
      · have hclen := hol.clen
        rw [hll] at hclen
        refine ⟨hclen, .inr ⟨g, m, _, rfl, Nat.zero_le _, setRow_heap w g _ _ T (0, 0) hg, hnc, hm2, ?_, ?_⟩⟩
        · simp only [List.size_toArray, List.length_append, List.length_take, List.length_drop, Array.length_toList, hc0l]
          omega
        · simp only []
          rw [hcur]
          have e1 : List.take (lo.toNat * Q.sz) (cs ++ List.drop (l.length * Q.sz) cur.toList) = List.take (lo.toNat * Q.sz) cs := List.take_append_of_le_length (by omega)
          have e2 : List.drop (lo.toNat * Q.sz + c0.length) (cs ++ List.drop (l.length * Q.sz) cur.toList) = List.drop ((lo.toNat + n) * Q.sz) cs ++ List.drop (l.length * Q.sz) cur.toList := by
            rw [List.drop_append_of_le_length (by omega), hc0l, Nat.add_mul]
          rw [e1, e2, ← List.append_assoc]
          exact List.take_left' (by rw [hclen])
end
end Go.Proofs.YtmfppphlhgneeaaGreat
end

section
namespace Go.Proofs.YtmfppphlhgneeaaGreat
open Go.RowKit
set_option linter.unusedVariables false
def cellsB (s : ByteArray) : List Value := (toB s).map fun x => Value.int .u8 x
theorem Xen (s : ByteArray) : (cellsB s).length = s.size := by unfold cellsB toB; simp
theorem Xat {P : Program} {w : World} (sz : Nat) (s : ByteArray) : (Builtin.firstCells sz s.size (.string s)).run P w = .ok (cellsB s).toArray w := by
  simp only [Builtin.firstCells]
  show Result.ok _ w = _
  congr 1
  apply Array.ext'
  unfold cellsB toB
  simp
theorem Xin (s : ByteArray) : ∀ v ∈ cellsB s, v.oneCell' = true := fun v hv => by
  unfold cellsB at hv
  obtain ⟨x, _, rfl⟩ := List.mem_map.1 hv
  rfl
section
variable {P : Program} {ty : TypeId}
theorem Xc0 {w : World} (t u e : TypeId) (i : TypeInfo) (ht : P.underlying t = some (.slice e)) (hu : P.underlying u = some .string) (hi : P.info? e = some i) (hs1 : i.size = 1)
    (g sLen sCap : Nat) (cur : Array Value) (hg : w.heap[g]? = some (.cells cur e (0, 0))) (s : ByteArray) (hroom : sLen + s.size ≤ sCap) (hfit : sLen + (cellsB s).length ≤ cur.size) :
    (Builtin.append_ #[t, u] ty #[.slice (some ⟨g, 0, none⟩) sLen sCap, .string s]).run P w =
      .ok (.slice (some ⟨g, 0, none⟩) (sLen + s.size) sCap) (w.setRow g (cur.toList.take sLen ++ cellsB s ++ cur.toList.drop (sLen + (cellsB s).length)).toArray) := by
  have hf := Xat (P := P) (w := w) i.size s
  have hst := run_storeCells_at P g sLen e (cellsB s) 0 cur w hg (by simpa using hfit) (Xin s)
  simp only [Nat.add_zero] at hst
  simp only [hs1] at hf
  simp [Builtin.append_, run_underlying ht, run_underlying hu, sizeOf, typeInfo, hi, Builtin.lenOf, hroom, hf, Addr.add_lit, hst, hs1]
theorem Xc1 {w : World} (t u e : TypeId) (i : TypeInfo) (z : Value) (ht : P.underlying t = some (.slice e)) (hu : P.underlying u = some .string) (hi : P.info? e = some i) (hz : i.zero = some z) (hs1 : i.size = 1)
    (b : Addr) (sLen sCap : Nat) (olds : List Value) (hlo : olds.length = sLen) (holds : ∀ (j : Nat) v, olds[j]? = some v → w.cell? (b.add j) = some v)
    (s : ByteArray) (hg : sCap < sLen + s.size) (h63 : ((sLen + s.size : Nat) : Int) ≤ 9223372036854775807) (hfit : Builtin.nextslicecap (sLen + s.size) sCap * i.bytes ≤ 281474976710656) :
    (Builtin.append_ #[t, u] ty #[.slice (some b) sLen sCap, .string s]).run P w =
      .ok (.slice (some ⟨w.heap.size, 0, none⟩) (sLen + s.size) (grownCap w (sLen + s.size) sCap e))
        (w.drew.alloc (.cells (olds.toArray ++ (cellsB s).toArray ++ Builtin.zeroCells z.cells (grownCap w (sLen + s.size) sCap e - (sLen + s.size))) e)) := by
  have hn : ¬ (sLen + s.size ≤ sCap) := by omega
  have h63' : ¬ (9223372036854775807 < ((sLen : Int) + (s.size : Int))) := by omega
  have h48' : ¬ (281474976710656 < Builtin.nextslicecap (sLen + s.size) sCap * i.bytes) := by omega
  have hf := Xat (P := P) (w := w.drew) i.size s
  have hfo := run_firstCells_some (P := P) w.drew i.size sLen b sLen sCap olds (by rw [hs1]; omega) (by simpa using holds)
  simp [Builtin.append_, run_underlying ht, run_underlying hu, sizeOf, typeInfo, zeroValue, hi, hz, Builtin.lenOf, hn, h63', h48', Question.forced, hf, hfo, newRow, grownCap]
  congr 2
  apply Array.ext'
  simp [List.append_assoc]
theorem Xcc {w : World} (t u e : TypeId) (i : TypeInfo) (z : Value) (ht : P.underlying t = some (.slice e)) (hu : P.underlying u = some .string) (hi : P.info? e = some i) (hz : i.zero = some z)
    (s : ByteArray) (h0 : 0 < s.size) (h63 : (s.size : Int) ≤ 9223372036854775807) (h48 : s.size * i.bytes ≤ 281474976710656) :
    (Builtin.append_ #[t, u] ty #[.slice none 0 0, .string s]).run P w =
      .ok (.slice (some ⟨w.heap.size, 0, none⟩) s.size (grownCap w s.size 0 e)) (w.drew.alloc (.cells ((cellsB s).toArray ++ Builtin.zeroCells z.cells (grownCap w s.size 0 e - s.size)) e)) := by
  rw [run_append_nil_string w t u ty e i z ht hu hi hz s h0 h63 h48]
  congr 4
  apply Array.ext'
  unfold cellsB toB
  simp
theorem Xe4 {w : World} {t u e : TypeId} {bytes : Nat} {z : List Value} (ht : slOf P t = some e) (hu : P.underlying u = some .string) (hel : TyI P e false 1 bytes z) (hz : z.length = 1) {v : Value} {n : Nat} {xs : List Value} (hown : w.ownsRow 0 e 1 v n xs)
    (s : ByteArray) (hb : n + s.size ≤ 16777216) (hby : bytes ≤ 8388608) :
    ∃ a' cap' w', (Builtin.append_ #[t, u] ty #[v, .string s]).run P w = .ok (.slice a' (n + s.size) cap') w' ∧ w'.ownsRow 0 e 1 (.slice a' (n + s.size) cap') (n + s.size) (xs ++ cellsB s) ∧ Keep w v.ownBlock.toList w' ∧
      (∀ b, (Value.slice a' (n + s.size) cap').ownBlock = some b → v.ownBlock = some b ∨ w.heap.size ≤ b) := by
  have hut := X5o ht
  obtain ⟨i, zv, hi, hzi, hs1, hs2, hzc⟩ := hel.info
  have h63 : n + s.size ≤ maxLen := by simp only [maxLen]; omega
  have hbytes : (n + s.size) * bytes ≤ 140737488355328 := Nat.le_trans (Nat.mul_le_mul hb hby) (by decide)
  have hzs : zv.cells.size = 1 := by rw [hzc]; simpa using hz
  have hcl := Xen s
  have hxl : xs.length = n := by have := hown.1; omega
  have hlen : (xs ++ cellsB s).length = n + s.size := by rw [List.length_append, hxl, hcl]
  have grown : ∀ (old : Nat), old < n + s.size →
      (w.drew.alloc (.cells (xs.toArray ++ (cellsB s).toArray ++ Builtin.zeroCells zv.cells (grownCap w (n + s.size) old e - (n + s.size))) e)).ownsRow 0 e 1
        (.slice (some ⟨w.heap.size, 0, none⟩) (n + s.size) (grownCap w (n + s.size) old e)) (n + s.size) (xs ++ cellsB s) ∧
      Keep w [] (w.drew.alloc (.cells (xs.toArray ++ (cellsB s).toArray ++ Builtin.zeroCells zv.cells (grownCap w (n + s.size) old e - (n + s.size))) e)) := by
    intro old ho
    have hge := grownCap_ge w (n + s.size) old e
    have hcm : grownCap w (n + s.size) old e ≤ maxLen := grownCap_le_maxLen w (n + s.size) old e h63
    refine ⟨⟨by rw [hlen]; omega, .inr ⟨w.heap.size, _, _, rfl, Nat.zero_le _, heap_alloc_new w.drew _, hge, hcm, ?_, ?_⟩⟩, ⟨rfl, rfl, rfl, by simp, fun k hk _ => heap_alloc_old w.drew _ hk⟩⟩
    · simp only [Array.size_append, List.size_toArray, size_zeroCells, hzs, hxl, hcl]
      omega
    · simp only [Array.toList_append, List.append_assoc]
      rw [← List.append_assoc, Nat.mul_one, ← hlen]
      exact List.take_left
  rcases hown.2 with ⟨rfl, rfl⟩ | ⟨g, cap, cur, rfl, hbg, hg, hnc, hcm, hcs, htake⟩
  · have hx : xs = [] := List.eq_nil_of_length_eq_zero hxl
    subst hx
    by_cases hm : s.size = 0
    · have hn : cellsB s = [] := List.eq_nil_of_length_eq_zero (by omega)
      rw [hm, hn]
      refine ⟨none, 0, w, ?_, hown, Keep.refl _ _, fun b hb => .inl hb⟩
      have hf := Xat (P := P) (w := w) i.size s
      rw [hm, hn] at hf
      simp [Builtin.append_, run_underlying hut, run_underlying hu, sizeOf, typeInfo, hi, Builtin.lenOf, hm, hf]
    · have hr := Xcc (P := P) (ty := ty) (w := w) t u e i zv hut hu hi hzi s (by omega) (by omega) (by rw [hs2]; simp only [Nat.zero_add] at hbytes; omega)
      have hgr := grown 0 (by omega)
      simp only [Nat.zero_add, List.nil_append, Array.empty_append] at hgr ⊢
      exact ⟨_, _, _, hr, hgr.1, by simpa [Value.ownBlock] using hgr.2, fun b hb => .inr (by simp [Value.ownBlock] at hb; omega)⟩
  · by_cases hroom : n + s.size ≤ cap
    · have hr := Xc0 (P := P) (ty := ty) (w := w) t u e i hut hu hi hs1 g n cap cur hg s hroom (by rw [hcl, hcs]; omega)
      refine ⟨_, cap, _, hr, ⟨by rw [hlen]; omega, .inr ⟨g, cap, _, rfl, Nat.zero_le _, setRow_heap w g cur _ e _ hg, hroom, hcm, ?_, ?_⟩⟩, ⟨rfl, rfl, rfl, by simp [World.setRow], fun b _ hD => setRow_other w g b _ (by simpa [Value.ownBlock] using hD)⟩, fun b hb => .inl hb⟩
      · simp only [List.size_toArray, List.length_append, List.length_take, List.length_drop, Array.length_toList, hcl]
        omega
      · rw [Nat.mul_one] at htake
        rw [htake, Nat.mul_one, ← hlen]
        exact List.take_left
    · have holds : ∀ (j : Nat) u, xs[j]? = some u → w.cell? ((⟨g, 0, none⟩ : Addr).add j) = some u := hown.cells (g := g) rfl
      have hr := Xc1 (P := P) (ty := ty) (w := w) t u e i zv hut hu hi hzi hs1 ⟨g, 0, none⟩ n cap xs hxl holds s (by omega) (by omega) (by rw [hs2]; exact growslice_fits (by omega) hbytes)
      have hgr := grown cap (by omega)
      exact ⟨_, _, _, hr, hgr.1, ⟨hgr.2.os, hgr.2.tape, hgr.2.output, hgr.2.size, fun b hb _ => hgr.2.block b hb (by simp)⟩, fun b hb => .inr (by simp [Value.ownBlock] at hb; omega)⟩
end
section
variable {P : Program} {c : Cx} {R : Value → World → Prop} {nt : Nat} {w0 : World} {S0 : List Nat} {df : List Deferred} {ρ ρ' : Env} {Fs Fs' Fin B : List Hp} {bl bl' : Blks} {sl sl' : List OwnS}
  {K K' : Act → World → Prop} {k : List Item} {ty : TypeId} {G : Hp}
theorem Cov.appStr (q : Nat) {d : Nat} {t u e : TypeId} {s x : Operand} {a : Option Addr} {m : Nat} {l l2 l' : List Int} {cs : List Value} {bytes : Nat} {z : List Value} {b : ByteArray}
    (hs : Stp P K' ⟨some d, .call ⟨.builtin .append, #[s, x], #[t, u]⟩, ty, none⟩ K) (ht : slOf P t = some e) (hu : P.underlying u = some .string) (hel : TyI P e false 1 bytes z) (hz : z.length = 1) (hby : Nat.ble bytes 8388608 = true)
    (hi : sl[q]? = some (.s (.slice a l.length m) e 1 l.length cs)) (ho : OL (Rep.int .u8) G cs l) (he : ev ρ s = some (.slice a l.length m)) (hx : ev ρ x = some (.string b)) (hb : tobs b = some l2) (hl : lapp l l2 = some l') (hd : Nat.blt d nt = true)
    (hk : ∀ a' m' cs', OL (Rep.int .u8) G cs' l' → Cov nt w0 S0 df ((d, .slice a' l'.length m') :: ρ) Fs bl (sl.set q (.s (.slice a' l'.length m') e 1 l'.length cs')) K) : Cov nt w0 S0 df ρ Fs bl sl K' := fun ac w hfi hinv => by
  refine hs ac w ?_
  obtain ⟨hb1, rfl⟩ := Xde hb
  obtain ⟨hb2, rfl⟩ := Xab hl
  have hBl : (toB b).length = b.size := by unfold toB; simp
  have hown : w.ownsRow 0 e 1 _ _ _ := hinv.mem.slh _ (List.mem_of_getElem? hi)
  obtain ⟨a', cap', w', hr, ho', kw, hfr⟩ := Xe4 (P := P) (ty := ty) ht hu hel hz hown b (by omega) (by simpa [Nat.ble_eq] using hby)
  have hrun : (execOp ac.eval (⟨some d, .call ⟨.builtin .append, #[s, x], #[t, u]⟩, ty, none⟩ : OpX).oper).run P w = .ok (.value (.slice a' (l.length + b.size) cap')) w' := by
    refine X57 (X63 (s := Builtin.append_ #[t, u] ty (#[s, x].map ac.eval)) ?_)
    rw [show #[s, x].map ac.eval = #[ac.eval s, ac.eval x] from by simp, Xv hfi he, Xv hfi hx]
    exact hr
  unfold Oper.wp
  rw [hrun]
  have hol : OL (Rep.int .u8) G (cs ++ cellsB b) (l ++ toB b) := ho.append ((OL.one_iff rfl).2 ⟨by omega, by rw [Xen, hBl], fun j v y hv hy => by
    unfold cellsB at hv
    rw [List.getElem?_map, hy] at hv
    simp only [Option.map_some, Option.some.injEq] at hv
    subst hv
    rfl⟩) hb2
  have hk' := hk a' cap' (cs ++ cellsB b) hol
  simp only [List.length_append, hBl] at hk'
  refine hk' _ _ (hfi.put hd _) (hinv.set_s q hi kw ho' (Xa3 _) fun b hb => ?_)
  simp only [OwnS.blocks, Option.mem_toList] at hb ⊢
  exact hfr b hb
end
end Go.Proofs.YtmfppphlhgneeaaGreat
end
