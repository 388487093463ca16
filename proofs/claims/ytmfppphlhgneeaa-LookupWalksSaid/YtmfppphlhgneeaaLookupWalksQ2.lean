/- What the proof needs, gathered by wip/gen/shake.py. -/
import Derived.Calls
import Derived.Deep.Quiet
import Derived.Below
import Derived.Laws.AppendOwn
import Derived.WalkKit
import Derived.Laws.OwnMore
import Derived.Deep.Slices
import Derived.ChangeOld
import Derived.ArgAppend
import Derived.RangeFuncIn
import Derived.RangeFuncRecord
import Derived.RangeFuncLeaves
import Derived.Laws.MakeOwn
import Derived.IntWalk
import Derived.Laws.IdiomStrings
import Derived.Laws.Cover3
import Derived.Laws.CopyOwn
import Derived.MapKept
import Derived.RangeFuncNested
import Derived.Test.YtmfppphlhgneeaaRows
import Derived.ProofKit
import Derived.OpenShut
import Derived.ShutString
import Derived.Test.YtmfppphlhgneeaaLookupWalksQ1

section
namespace Go.Proofs.Ytmfppphlhgneeaa
open Go.RowKit
set_option linter.unusedSimpArgs false
theorem dor_t {p q : Prop} [Decidable p] [Decidable q] (h : p) : (some (Value.bool true)) = some (.bool (decide (p ∨ q))) := by simp [h]
theorem dor_f {p q : Prop} [Decidable p] [Decidable q] (h : ¬ p) : (some (Value.bool (decide q))) = some (.bool (decide (p ∨ q))) := by simp [h]
theorem dor_fb {p : Prop} [Decidable p] {b : Bool} (h : ¬ p) : (some (Value.bool b)) = some (.bool (decide (p ∨ b = true))) := by simp [h]
theorem dand_t {p q : Prop} [Decidable p] [Decidable q] (h : p) : (some (Value.bool (decide q))) = some (.bool (decide (p ∧ q))) := by simp [h]
theorem dand_f {p q : Prop} [Decidable p] [Decidable q] (h : ¬ p) : (some (Value.bool false)) = some (.bool (decide (p ∧ q))) := by simp [h]
theorem bne_of {b : Bool} (h : b = false) : ¬ (b = true) := by simp [h]
theorem sval {α : Type} {f : α → Value} {x y : α} (h : some x = some y) : some (f x) = some (f y) := by cases h; rfl
section
variable {α β : Type} {A : Rep α} {S : Rep β} {G : Hp}
theorem Rep.intI (k : IntKind) (x : Int) : (Rep.int k).r G [.int k x] x := rfl
theorem Rep.boolI (x : Bool) : Rep.bool.r G [.bool x] x := rfl
theorem Rep.strI (x : ByteArray) : Rep.str.r G [.string x] x := rfl
theorem Rep.slI {a : Option Addr} {k : Nat} {l : List α} (h : SlR A G a k l) : (Rep.sl A).r G [.slice a l.length k] l := ⟨a, k, rfl, h⟩
theorem Rep.pairI {c d : List Value} {x : α} {y : β} (h : A.r G c x) (h2 : S.r G d y) : (Rep.pair A S).r G (c ++ d) (x, y) := ⟨c, d, rfl, h, h2⟩
end
section
variable {P : Program} {c : Cx} {R : Value → World → Prop} {nt : Nat} {w0 : World} {S0 : List Nat} {df : List Deferred} {ρ ρ' : Env} {Fs Fs' Fin B : List Hp} {bl bl' : Blks} {sl sl' : List OwnS}
  {K K' : Act → World → Prop} {k : List Item} {ty : TypeId} {G : Hp}
theorem Cls.of_le {w : World} {G0 : Hp} {bl0 : Blks} (h : Inv w0 S0 Fs bl sl w) (h1 : ∃ G ∈ Fs, HpLe G0 G) (h2 : ∀ p ∈ bl0, p ∈ bl) : Cls [G0] bl0 w :=
  ⟨fun F hF => by
    obtain ⟨G, hG, hle⟩ := h1
    rcases List.mem_cons.1 hF with rfl | hF
    · exact fun b o hb => h.mem.fs G hG b o (hle b o hb)
    · exact absurd hF (List.not_mem_nil), fun p hp => h.mem.own p (h2 p hp)⟩
theorem Cov.drawL {id : Nat} {ops : Array Oper} (l : OT) (bl0 : Blks) (hm : P.follows .mixedOrders = true) (hok : drawOk ops l = true) (h2 : ∀ p ∈ bl0, p ∈ bl)
    (h : Cov nt w0 S0 df ρ (G :: Fs) bl sl (DO P c R (Cls [G] bl0) (flatD ops l) k)) :
    Cov nt w0 S0 df ρ (G :: Fs) bl sl (Run P c R (.code (.region id ops true) :: k)) := Cov.draw l [G] bl0 hm hok (fun F hF => by simp at hF; subst hF; exact List.mem_cons_self) h2 h
theorem Cov.clsL {G0 : Hp} {bl0 : Blks} (h1 : HpLe G0 G) (h2 : ∀ p ∈ bl0, p ∈ bl) {K : Act → World → Prop} (h : Cov nt w0 S0 df ρ (G :: Fs) bl sl K) : Cov nt w0 S0 df ρ (G :: Fs) bl sl (fun a w => Cls [G0] bl0 w ∧ K a w) :=
  fun a w hf hi => ⟨Cls.of_le hi ⟨G, List.mem_cons_self, h1⟩ h2, h a w hf hi⟩
theorem Cov.dge_offL {G0 : Hp} {bl0 : Blks} {m : Nat} {t : Nat} {b b' : Bool} {d : Nat} {op : Op} {ty : TypeId} {os : OX} (hg : ρ.lookup t = some (.bool b')) (hb : (b' == b) = false) (hd : Nat.blt d nt = true)
    (h1 : HpLe G0 G) (h2 : ∀ p ∈ bl0, p ∈ bl) (h : Cov nt w0 S0 df ((d, undef) :: ρ) (G :: Fs) bl sl (DO P c R (Cls [G0] bl0) os k)) :
    Cov nt w0 S0 df ρ (G :: Fs) bl sl (DO P c R (Cls [G0] bl0) (.e ⟨some d, op, ty, some (t, b)⟩ m os) k) := fun a w hf hi => by
  have h3 := hf.2.2 _ _ hg
  have h4 := h _ w (hf.put hd _) hi
  match m with
  | 0 => simp only [DO, wantedT, h3, hb, Bool.false_eq_true, if_false]; exact h4
  | 1 => simp only [DO, wantedT, h3, hb, Bool.false_eq_true, if_false]; exact ⟨Cls.of_le hi ⟨G, List.mem_cons_self, h1⟩ h2, h4⟩
  | m + 2 => simp only [DO, wantedT, h3, hb, Bool.false_eq_true, if_false]; exact h4
theorem Cov.dgeu_offL {G0 : Hp} {bl0 : Blks} {m : Nat} {t : Nat} {b : Bool} {d : Nat} {op : Op} {ty : TypeId} {os : OX} (hg : ρ.lookup t = some undef) (hd : Nat.blt d nt = true)
    (h1 : HpLe G0 G) (h2 : ∀ p ∈ bl0, p ∈ bl) (h : Cov nt w0 S0 df ((d, undef) :: ρ) (G :: Fs) bl sl (DO P c R (Cls [G0] bl0) os k)) :
    Cov nt w0 S0 df ρ (G :: Fs) bl sl (DO P c R (Cls [G0] bl0) (.e ⟨some d, op, ty, some (t, b)⟩ m os) k) := fun a w hf hi => by
  have h3 := hf.2.2 _ _ hg
  have h4 := h _ w (hf.put hd _) hi
  match m with
  | 0 => simp only [DO, wantedT, h3, undef, Bool.false_eq_true, if_false]; exact h4
  | 1 => simp only [DO, wantedT, h3, undef, Bool.false_eq_true, if_false]; exact ⟨Cls.of_le hi ⟨G, List.mem_cons_self, h1⟩ h2, h4⟩
  | m + 2 => simp only [DO, wantedT, h3, undef, Bool.false_eq_true, if_false]; exact h4
section
variable {β : Type} (dyn : β → Env) (ρs : Env) (FsD : β → List Hp) (blD : β → Blks) (bls : Blks) (slD : β → List OwnS) (sls : List OwnS) (I : β → Prop) (hρ : Sub ρ ρs) (ib : List Nat) (hb : ib.map (bl[·]?) = bls.map some) (is : List Nat) (hs : is.map (sl[·]?) = sls.map some)
set_option linter.unusedVariables false
set_option linter.unusedSectionVars false
include hρ hb hs
theorem Cov.cutB {id : Nat} {x : Code} (hk : ∀ y, I y → Cov nt w0 S0 df (dyn y ++ ρs) (FsD y) (blD y ++ bls) (slD y ++ sls) (Run P c R k))
    (h : (∀ y, I y → Cov nt w0 S0 df (dyn y ++ ρs) (FsD y) (blD y ++ bls) (slD y ++ sls) (Run P c R k)) → Cov nt w0 S0 df ρ Fs bl sl (Run P c R (.code (.block id x) :: k))) : Cov nt w0 S0 df ρ Fs bl sl (Run P c R (.code (.block id x) :: k)) := h hk
theorem Cov.cutI {o : Operand} {x y : Code} (hk : ∀ y, I y → Cov nt w0 S0 df (dyn y ++ ρs) (FsD y) (blD y ++ bls) (slD y ++ sls) (Run P c R k))
    (h : (∀ y, I y → Cov nt w0 S0 df (dyn y ++ ρs) (FsD y) (blD y ++ bls) (slD y ++ sls) (Run P c R k)) → Cov nt w0 S0 df ρ Fs bl sl (Run P c R (.code (.cond o x y) :: k))) : Cov nt w0 S0 df ρ Fs bl sl (Run P c R (.code (.cond o x y) :: k)) := h hk
theorem Cov.cutG {id : Nat} {ops : Array Oper} {dr : Bool} (hk : ∀ y, I y → Cov nt w0 S0 df (dyn y ++ ρs) (FsD y) (blD y ++ bls) (slD y ++ sls) (Run P c R k))
    (h : (∀ y, I y → Cov nt w0 S0 df (dyn y ++ ρs) (FsD y) (blD y ++ bls) (slD y ++ sls) (Run P c R k)) → Cov nt w0 S0 df ρ Fs bl sl (Run P c R (.code (.region id ops dr) :: k))) : Cov nt w0 S0 df ρ Fs bl sl (Run P c R (.code (.region id ops dr) :: k)) := h hk
end
def OX.after : Nat → OX → OX
  | 0, t => t
  | n + 1, .q _ t => OX.after n t
  | n + 1, .e _ _ t => OX.after n t
  | n + 1, .alt t _ => OX.after (n + 1) t
  | _ + 1, t => t
section
variable (n : Nat) {β : Type} (dyn : β → Env) (ρs : Env) (FsD : β → List Hp) (blD : β → Blks) (bls : Blks) (slD : β → List OwnS) (sls : List OwnS) (I : β → Prop) (hρ : Sub ρ ρs) (ib : List Nat) (hb : ib.map (bl[·]?) = bls.map some) (is : List Nat) (hs : is.map (sl[·]?) = sls.map some)
set_option linter.unusedVariables false
set_option linter.unusedSectionVars false
include hρ hb hs
theorem Cov.cutR {os : List OpX} (hk : ∀ y, I y → Cov nt w0 S0 df (dyn y ++ ρs) (FsD y) (blD y ++ bls) (slD y ++ sls) (RO P c R (os.drop n) k))
    (h : (∀ y, I y → Cov nt w0 S0 df (dyn y ++ ρs) (FsD y) (blD y ++ bls) (slD y ++ sls) (RO P c R (os.drop n) k)) → Cov nt w0 S0 df ρ Fs bl sl (RO P c R os k)) : Cov nt w0 S0 df ρ Fs bl sl (RO P c R os k) := h hk
theorem Cov.cutD {C : World → Prop} {t : OX} (hk : ∀ y, I y → Cov nt w0 S0 df (dyn y ++ ρs) (FsD y) (blD y ++ bls) (slD y ++ sls) (DO P c R C (t.after n) k))
    (h : (∀ y, I y → Cov nt w0 S0 df (dyn y ++ ρs) (FsD y) (blD y ++ bls) (slD y ++ sls) (DO P c R C (t.after n) k)) → Cov nt w0 S0 df ρ Fs bl sl (DO P c R C t k)) : Cov nt w0 S0 df ρ Fs bl sl (DO P c R C t k) := h hk
end
theorem Cov.retWD (n : Nat) {fn : Func} {items : List Item} (hit : items = [] ∨ ∃ k, items = .code .ret :: k) (rs : List ResultVar) (vs : List Value) {Q : Value → Blks → List OwnS → Hp → Prop} (hro : c.ro = none) (hf : P.funcs[c.fn]? = some fn) (hrs : fn.results = rs.toArray)
    (hres : RVs P ρ Fs bl sl rs vs) (hsub : ∀ F ∈ Fin, F ∈ Fs) (hG : G ∈ Fs) (hbd : Bd w0 S0 Fin G) (hS : ∀ b ∈ S0, b ∈ blks bl sl) (hpost : ∀ G', HpLe G G' → Q (retVal vs) (bl.drop n) sl G') :
    Cov nt w0 S0 [] ρ Fs bl sl (Run P c (RP w0 S0 Fin (fun v Fr bl sl => ∀ G', Ext (Fr :: Fin) G' → Q v bl sl G')) items) := by
  intro a w hfi hi
  have hsb : (blks (bl.drop n) sl).Sublist (blks bl sl) := ((List.drop_sublist n bl).map _).append (List.Sublist.refl _)
  exact (Cov.part hG (fun a w hfi hinv => by
    refine Run.leave hit hro hf hfi.1 (run_results hfi hinv.mem hrs (RVs_fs (fun F hF => List.mem_cons_of_mem _ hF) rs vs hres)) ⟨Proofs.Ytmfppphlhgneeaa.part w0 G, bl.drop n, sl, part_fresh w0 G, ?_, fun G' he => hpost G' (part_ext hbd (fun b hb => hi.apart b (hS b hb) G hG) he)⟩
    refine hinv.change [] (by simp) (Keep.refl w []) (fun F hF => .inl ?_) (fun p hp => hinv.mem.own p (List.mem_of_mem_drop hp)) hinv.mem.slh (hinv.nodup.sublist hsb) (fun b hb => .inl (hsb.subset hb))
    rcases List.mem_cons.1 hF with rfl | hF
    · exact List.mem_cons_self
    · exact List.mem_cons_of_mem _ (hsub F hF))) a w hfi hi
end
end Go.Proofs.Ytmfppphlhgneeaa
end

section
namespace Go.Proofs.Ytmfppphlhgneeaa
open Go.RowKit
theorem Cov.drew {nt : Nat} {w0 : World} {S0 : List Nat} {df : List Deferred} {ρ : Env} {Fs : List Hp} {bl : Blks} {sl : List OwnS} {w : World} (h : Inv w0 S0 Fs bl sl w) : Inv w0 S0 Fs bl sl w.drew := h.drawn
theorem foldl_ofB : ∀ (l : List Int) (r : ByteArray), l.foldl (fun r n => r.push (UInt8.ofNat n.toNat)) r = ⟨r.data ++ (l.map fun n => UInt8.ofNat n.toNat).toArray⟩
  | [], r => by simp
  | b :: l, r => by
    simp only [List.foldl_cons]
    rw [foldl_ofB l]
    simp [ByteArray.push]
section
variable {P : Program} {c : Cx} {R : Value → World → Prop} {nt : Nat} {w0 : World} {S0 : List Nat} {df : List Deferred} {ρ ρ' : Env} {Fs Fs' Fin B : List Hp} {bl bl' : Blks} {sl sl' : List OwnS}
  {K K' : Act → World → Prop} {k : List Item} {ty : TypeId} {G : Hp} {α : Type}
theorem QOp.b2s {a : Option Addr} {m : Nat} {l : List Int} {s t e : TypeId} {x : Operand} (hs : SlR (Rep.int .u8) G a m l) (hG : G ∈ Fs) (hx : ev ρ x = some (.slice a l.length m)) (h1 : P.underlying s = some (.slice e)) (h2 : P.underlying e = some (.int .u8)) (h3 : P.underlying t = some .string) :
    QOp P ρ Fs bl sl (.convert s t x) ty (.string (ofB l)) := .of fun ev' he w hm => by
  refine run_v (s := convert s t (ev' x)) ?_
  rw [he x _ hx, run_convert_bytes_string w s t e _ _ _ h1 h2 h3]
  obtain ⟨_, xs, ⟨a', cap, hv, hle, hsz, hc⟩, hl, hr⟩ := hs
  simp only [Value.slice.injEq] at hv
  obtain ⟨rfl, hlen, rfl⟩ := hv
  cases l with
  | nil =>
    have hx0 : xs = [] := List.eq_nil_of_length_eq_zero (by simpa using hl)
    subst hx0
    cases a with
    | none => simp [Conv.bytesToString, ofB]; rfl
    | some ad =>
      rw [run_bytesToString w ad _ m [] (by simp [loadCells, loadCellsFrom])]
      rfl
  | cons y l =>
    have hne : xs ≠ [] := by intro h; rw [h] at hl; simp at hl
    obtain ⟨b, o, rfl, hcell⟩ := hc hne
    have hload : (loadCells ⟨b, o, none⟩ (y :: l).length).run P w = .ok ((y :: l).map (Value.int .u8)).toArray w := by
      have := run_loadCells (P := P) (w := w) (b := b) (o := o) ((y :: l).map (Value.int .u8)) 0 #[] (fun j v hj => ?_)
      · simpa [loadCells] using this
      · rw [List.getElem?_map] at hj
        cases hy : (y :: l)[j]? with
        | none => rw [hy] at hj; cases hj
        | some u =>
          rw [hy] at hj
          simp only [Option.map_some, Option.some.injEq] at hj
          subst hj
          have hjl : j < xs.length := by rw [hl]; exact (List.getElem?_eq_some_iff.1 hy).1
          have hrr := hr j _ u (List.getElem?_eq_getElem hjl) hy
          have hrr' : xs[j] = [Value.int .u8 u] := hrr
          have := hcell j _ (List.getElem?_eq_getElem hjl) 0 (.int .u8 u) (by rw [hrr']; rfl)
          have h5 := (hm.fs G hG).cell this
          simpa [Rep.int] using h5
    rw [run_bytesToString w _ _ m (y :: l) hload, foldl_ofB]
    simp [ofB, ByteArray.empty, ByteArray.emptyWithCapacity]
    rfl
theorem Cov.s2b {d : Nat} {s t e : TypeId} {x : Operand} {u : ByteArray} (hs : Stp P K' ⟨some d, .convert s t x, ty, none⟩ K) (hx : ev ρ x = some (.string u)) (h1 : P.underlying s = some .string) (h2 : P.underlying t = some (.slice e)) (h3 : P.underlying e = some (.int .u8)) (hlen : u.size ≤ 9223372036854775807) (hd : Nat.blt d nt = true) (hB : Bd w0 S0 B G)
    (hk : ∀ a m G', HpLe G G' → Bd w0 S0 B G' → SlR (Rep.int .u8) G' a m (toB u) → Cov nt w0 S0 df ((d, .slice a (toB u).length m) :: ρ) (G' :: B) bl sl K) : Cov nt w0 S0 df ρ (G :: B) bl sl K' := fun a w hf hi => by
  refine hs a w ?_
  unfold Oper.wp
  have hrun : (execOp a.eval (⟨some d, .convert s t x, ty, none⟩ : OpX).oper).run P w = .ok (.value _) _ := run_v (s := convert s t (a.eval x)) (by rw [ev_sound hf hx]; exact run_bytes_of_string w s t e u h1 h2 h3)
  rw [hrun]
  have hi2 := (Inv.drawn hi).alloc (.cells (bytesRow u (grownCap w u.size 0 e)) e ((bytesRow u (grownCap w u.size 0 e)).size, (bytesRow u (grownCap w u.size 0 e)).size + 1))
  have hsz : w.drew.heap.size = w.heap.size := rfl
  have hl2 : (toB u).length = u.size := by unfold toB; rw [List.length_map, Array.length_toList]; rfl
  generalize hob : Obj.cells (bytesRow u (grownCap w u.size 0 e)) e ((bytesRow u (grownCap w u.size 0 e)).size, (bytesRow u (grownCap w u.size 0 e)).size + 1) = ob at hi2 ⊢
  have key : Cov nt w0 S0 df ((d, .slice (some ⟨w.heap.size, 0, none⟩) (toB u).length (grownCap w u.size 0 e)) :: ρ) (G :: B) ((w.heap.size, ob) :: bl) sl K := by
    refine Cov.freeze 0 rfl bl rfl ?_
    have hfr : Bd w0 S0 B (single w.heap.size ob) := fun b o hb => by
      unfold single at hb
      split at hb
      · rename_i hh; subst hh; exact .inl hi.keep.size
      · cases hb
    refine Cov.union (Fin := B) (bd_cons hfr (bd_cons hB bd_fin)) fun G' he hb' => ?_
    refine Cov.less (G' :: B) (fun F hF => by rcases List.mem_cons.1 hF with rfl | hF; exact List.mem_cons_self; exact List.mem_cons_of_mem _ (List.mem_cons_of_mem _ (List.mem_cons_of_mem _ hF))) ?_
    refine hk (some ⟨w.heap.size, 0, none⟩) (grownCap w u.size 0 e) G' (ext_le he (List.mem_cons_of_mem _ List.mem_cons_self)) hb' ⟨by rw [hl2]; exact hlen, (toB u).map fun n => [Value.int .u8 n], ⟨some ⟨w.heap.size, 0, none⟩, grownCap w u.size 0 e, by rw [List.length_map], ?_, fun c hc => by obtain ⟨n, _, rfl⟩ := List.mem_map.1 hc; rfl, fun _ => ⟨w.heap.size, 0, rfl, fun j c hj q v hq => ?_⟩⟩, by simp, fun j c n hj hn => ?_⟩
    · rw [List.length_map, hl2]; exact grownCap_ge w u.size 0 e
    · have h0 : G' w.heap.size = some ob := he _ List.mem_cons_self _ _ (by simp [single])
      unfold rcell
      rw [h0, ← hob]
      rw [List.getElem?_map] at hj
      cases hy : (toB u)[j]? with
      | none => rw [hy] at hj; cases hj
      | some n =>
        rw [hy] at hj
        simp only [Option.map_some, Option.some.injEq] at hj
        subst hj
        have hq0 : q = 0 := by cases q with | zero => rfl | succ q => simp at hq
        subst hq0
        simp only [List.getElem?_cons_zero, Option.some.injEq] at hq
        subst hq
        have hjl : j < u.data.size := by
          have := (List.getElem?_eq_some_iff.1 hy).1
          rw [hl2] at this; exact this
        have hb := bytesRow_at u (grownCap w u.size 0 e) j hjl
        simp only [Rep.int, Nat.mul_one, Nat.zero_add, Nat.add_zero]
        rw [hb]
        have : (toB u)[j]? = some (u.data[j].toNat : Int) := by
          simp only [toB, List.getElem?_map]
          rw [Array.getElem?_toList, Array.getElem?_eq_getElem hjl]; rfl
        rw [this] at hy
        cases hy; rfl
    · rw [List.getElem?_map, hn] at hj
      simp only [Option.map_some, Option.some.injEq] at hj
      exact hj.symm
  have := key (a.put (some d) (.slice (some ⟨w.heap.size, 0, none⟩) (toB u).length (grownCap w u.size 0 e))) _ (hf.put hd _) hi2
  rw [hl2] at this
  exact this
theorem Cov.s2bR {d : Nat} {s t e : TypeId} {x : Operand} {u : ByteArray} {l : List Int} (hs : Stp P K' ⟨some d, .convert s t x, ty, none⟩ K) (hx : ev ρ x = some (.string u)) (h1 : P.underlying s = some .string) (h2 : P.underlying t = some (.slice e)) (h3 : P.underlying e = some (.int .u8)) (hl : tobs u = some l) (hd : Nat.blt d nt = true) (hB : Bd w0 S0 B G)
    (hk : ∀ a m G', HpLe G G' → Bd w0 S0 B G' → SlR (Rep.int .u8) G' a m l → Cov nt w0 S0 df ((d, .slice a l.length m) :: ρ) (G' :: B) bl sl K) : Cov nt w0 S0 df ρ (G :: B) bl sl K' := by
  obtain ⟨hlen, rfl⟩ := tobs_some hl
  exact Cov.s2b hs hx h1 h2 h3 hlen hd hB hk
theorem SlR.isnil {Q : Rep α} {a : Option Addr} {m : Nat} {l : List α} (h : SlR Q G a m l) (hc : a.isNone = true) : l = [] := by
  obtain ⟨_, xs, ⟨a', cap, hv, _, _, hcc⟩, hl, _⟩ := h
  simp only [Value.slice.injEq] at hv
  obtain ⟨rfl, _, _⟩ := hv
  by_cases h0 : xs = []
  · subst h0; exact List.eq_nil_of_length_eq_zero (by simpa using hl.symm)
  · obtain ⟨b, o, h1, _⟩ := hcc h0; rw [h1] at hc; cases hc
theorem SlR.sub3 {Q : Rep α} {a : Option Addr} {k : Nat} {l : List α} (h : SlR Q G a k l) {i j mx : Int} {m : List α} (hm : lsub3 l i j mx = some m) : ∃ a' k', subV3 (.slice a l.length k) i.toNat j.toNat mx.toNat Q.sz = .slice a' m.length k' ∧ SlR Q G a' k' m := by
  obtain ⟨hjm, hml, hm⟩ := lsub3_some hm
  obtain ⟨hb, xs, h1, h2, h3⟩ := h
  obtain ⟨i0, ij, jl, rfl⟩ := lsub_some hm
  have hs := h1.sub3 (l := i.toNat) (r := j.toNat) (m := mx.toNat) (by omega) (by omega) (by rw [h2]; omega)
  have hn : j.toNat - i.toNat = (j - i).toNat := by omega
  obtain ⟨a', k', hv, rest⟩ := hs
  have hl : ((xs.drop i.toNat).take (j.toNat - i.toNat)).length = ((l.drop i.toNat).take (j - i).toNat).length := by simp only [List.length_take, List.length_drop]; omega
  rw [hl] at hv rest
  refine ⟨a', k', hv, by simp only [List.length_take, List.length_drop]; omega, _, ⟨a', k', by rw [hl], by rw [hl]; exact rest.1, rest.2⟩, hl, fun q c x hc hx => ?_⟩
  rw [hn] at hc
  have hq : q < (j - i).toNat := by
    rcases Nat.lt_or_ge q (j - i).toNat with h | h
    · exact h
    · rw [List.getElem?_take_eq_none h] at hx; cases hx
  rw [List.getElem?_take_of_lt hq, List.getElem?_drop] at hc hx
  exact h3 _ _ _ hc hx
theorem QOp.sliceR3 {Q : Rep α} {a a' : Option Addr} {m m' : Nat} {l l' : List α} {i j mx : Int} {t el : TypeId} {x lo hi xm : Operand} {k1 k2 k3 : IntKind} (hs : SlR Q G a m l) (hx : ev ρ x = some (.slice a l.length m)) (hl : lsub3 l i j mx = some l')
    (ht : slOf P t = some el) (hz : szOf P el = some Q.sz) (hlo : ev ρ lo = some (.int k1 i)) (hhi : ev ρ hi = some (.int k2 j)) (hmx : ev ρ xm = some (.int k3 mx)) (hv : subV3 (.slice a l.length m) i.toNat j.toNat mx.toNat Q.sz = .slice a' l'.length m') :
    QOp P ρ Fs bl sl (.slice t x (some lo) (some hi) (some xm)) ty (.slice a' l'.length m') := by
  obtain ⟨h1, h2, h3⟩ := lsub3_some hl
  obtain ⟨h4, h5, h6, _⟩ := lsub_some h3
  obtain ⟨_, xs, ⟨_, cap, hvv, hle, _⟩, hlen, _⟩ := hs
  simp only [Value.slice.injEq] at hvv
  obtain ⟨rfl, _, rfl⟩ := hvv
  refine .cast hv (.slice3 hx hlo hhi hmx ht hz h4 h5 h1 (by omega))
theorem nil_clone {l r : List α} (hl : l = []) (h : ((lapp ([] : List α) l).bind fun u => some u) = some r) : r = [] := by
  subst hl; simp [lapp] at h; exact h
theorem QOp.eqnil {t u e : TypeId} {x y : Operand} {a : Option Addr} {n m : Nat} (ht : P.underlying t = some (.slice e)) (hx : ev ρ x = some (.slice a n m)) (hy : ev ρ y = some (.slice none 0 0)) : QOp P ρ Fs bl sl (.binOp .eql t x y u) ty (.bool a.isNone) :=
  .bin hx hy fun w => by
    have h1 : (eqGuard .eql t x y (.slice a n m) (.slice none 0 0)).run P w = .ok () w := rfl
    rw [Sem.run_bind, h1]
    simp only [Result.andThen_ok]
    have h2 := run_equal_slice_nil (P := P) w t e a n m ht
    simp [binOp, h2]
end
end Go.Proofs.Ytmfppphlhgneeaa
end

section
namespace Go.Proofs.Ytmfppphlhgneeaa
open Go.RowKit
theorem flat1 : ∀ {xs : List (List Value)}, (∀ x ∈ xs, x.length = 1) → ∀ (i : Nat) (v : Value), xs.flatten[i]? = some v ↔ xs[i]? = some [v]
  | [], _, i, v => by simp
  | x :: xs, h, i, v => by
    have hx := h x List.mem_cons_self
    match x, hx with
    | [u], _ =>
      cases i with
      | zero => simp
      | succ i => simpa using flat1 (xs := xs) (fun y hy => h y (List.mem_cons_of_mem _ hy)) i v
theorem flat1_len : ∀ {xs : List (List Value)}, (∀ x ∈ xs, x.length = 1) → xs.flatten.length = xs.length
  | [], _ => rfl
  | x :: xs, h => by
    simp only [List.flatten_cons, List.length_append, List.length_cons, h x List.mem_cons_self, flat1_len (xs := xs) (fun y hy => h y (List.mem_cons_of_mem _ hy))]; omega
theorem flat_single : ∀ cs : List Value, cs = (cs.map fun v => [v]).flatten
  | [] => rfl
  | v :: cs => by rw [List.map_cons, List.flatten_cons, ← flat_single cs]; rfl
theorem OL.one_iff {α : Type} {Q : Rep α} {G : Hp} {cs : List Value} {l : List α} (hQ : Q.sz = 1) : OL Q G cs l ↔ l.length ≤ 16777216 ∧ cs.length = l.length ∧ ∀ (i : Nat) (v : Value) (x : α), cs[i]? = some v → l[i]? = some x → Q.r G [v] x := by
  constructor
  · rintro ⟨hb, xs, rfl, h3, h4, h5⟩
    rw [hQ] at h3
    exact ⟨hb, by rw [flat1_len h3, h4], fun i v x hv hx => h5 i [v] x ((flat1 h3 i v).1 hv) hx⟩
  · rintro ⟨hb, hl, h⟩
    refine ⟨hb, cs.map fun v => [v], flat_single cs, fun x hx => by obtain ⟨v, _, rfl⟩ := List.mem_map.1 hx; rw [hQ]; rfl, by simpa using hl, fun i c x hc hx => ?_⟩
    rw [List.getElem?_map] at hc
    cases hv : cs[i]? with
    | none => rw [hv] at hc; cases hc
    | some v => rw [hv] at hc; simp only [Option.map_some, Option.some.injEq] at hc; subst hc; exact h i v x hv hx
theorem lcpy_length {α : Type} {l src : List α} {i : Int} {n : Nat} (h : i.toNat + min src.length n ≤ l.length) : (lcpy l i n src).length = l.length := by
  unfold lcpy; simp only [List.length_append, List.length_take, List.length_drop]; omega
theorem lcpy_nothing {α : Type} {l src : List α} {i : Int} {n : Nat} (h : min src.length n = 0) : lcpy l i n src = l := by
  unfold lcpy
  have : src.take n = [] := by apply List.eq_nil_of_length_eq_zero; rw [List.length_take]; omega
  rw [this, h]; simp
section
variable {P : Program} {c : Cx} {R : Value → World → Prop} {nt : Nat} {w0 : World} {S0 : List Nat} {df : List Deferred} {ρ ρ' : Env} {Fs Fs' Fin B : List Hp} {bl bl' : Blks} {sl sl' : List OwnS}
  {K K' : Act → World → Prop} {k : List Item} {ty : TypeId} {G : Hp} {α : Type}
theorem Cov.owncap (q : Nat) {a : Option Addr} {n m T sz : Nat} {cs : List Value} (hi : sl[q]? = some (.s (.slice a n m) T sz n cs)) (hk : n ≤ m → Cov nt w0 S0 df ρ Fs bl sl K) : Cov nt w0 S0 df ρ Fs bl sl K := fun a' w hf hinv => by
  have hown : w.ownsRow 0 T sz _ _ _ := hinv.mem.slh _ (List.mem_of_getElem? hi)
  refine hk ?_ a' w hf hinv
  rcases hown.2 with ⟨hv, h0⟩ | ⟨g, cap', cur, h1, _, _, h3, _⟩
  · omega
  · cases h1; exact h3
end
end Go.Proofs.Ytmfppphlhgneeaa
end

section
namespace Go.Proofs.Ytmfppphlhgneeaa
open Go.RowKit
structure Yr (α : Type) where
  n : Nat
  r : Hp → List Value → α → Prop
  len : ∀ {G : Hp} {c : List Value} {x : α}, r G c x → c.length = n
  mono : ∀ {G G' : Hp} {c : List Value} {x : α}, HpLe G G' → r G c x → r G' c x
def Yr.v {α : Type} (R : Rep α) : Yr α where
  n := 1
  r G c x := ∃ v, c = [v] ∧ R.r G [v] x
  len h := by obtain ⟨v, h, _⟩ := h; rw [h]; rfl
  mono hg h := by obtain ⟨v, h, h2⟩ := h; exact ⟨v, h, R.mono hg h2⟩
def Yr.a {α : Type} (R : Rep α) : Yr α where
  n := 1
  r G c x := ∃ cs : List Value, c = [.agg cs.toArray] ∧ R.r G cs x
  len h := by obtain ⟨v, h, _⟩ := h; rw [h]; rfl
  mono hg h := by obtain ⟨v, h, h2⟩ := h; exact ⟨v, h, R.mono hg h2⟩
def Yr.pair {α β : Type} (A : Yr α) (B : Yr β) : Yr (α × β) where
  n := A.n + B.n
  r G c x := ∃ c1 c2, c = c1 ++ c2 ∧ A.r G c1 x.1 ∧ B.r G c2 x.2
  len h := by obtain ⟨_, _, h, h1, h2⟩ := h; rw [h, List.length_append, A.len h1, B.len h2]
  mono hg h := by obtain ⟨c1, c2, h, h1, h2⟩ := h; exact ⟨c1, c2, h, A.mono hg h1, B.mono hg h2⟩
def IterR (P : Program) {α : Type} (Y : Yr α) (f : FuncId) (cap : List Value) (G : Hp) (l : List α) : Prop :=
  ∀ Fs G1, HpLe G G1 → G1 ∈ Fs → Iter P f cap Fs l.length (fun i v => ∃ x, l[i]? = some x ∧ Y.r G1 v x)
theorem IterR.mono {P : Program} {α : Type} {Y : Yr α} {f : FuncId} {cap : List Value} {G G' : Hp} {l : List α} (hg : HpLe G G') (h : IterR P Y f cap G l) : IterR P Y f cap G' l := fun Fs G1 h1 h2 => h Fs G1 (hg.trans h1) h2
def mks (ds : List Nat) : List Deferred := ds.map fun r => { target := .collected r, args := #[] }
abbrev MK := { ds : List Nat // ds.Nodup }
def marksG (m : MK) : Guest where
  blks := m.1
  nodup := m.2
  holds w := ∀ r ∈ m.1, w.heap[r]? = some (.deferred (some []))
  lt w h b hb := own_lt (h b hb)
  same w w' h e := fun r hr => by rw [e r hr]; exact h r hr
def mk0 : MK := ⟨[], List.nodup_nil⟩
section
variable {P : Program} {c : Cx} {R : Value → World → Prop} {nt : Nat} {w0 : World} {S0 : List Nat} {df : List Deferred} {ρ ρ' : Env} {Fs Fs' Fin B : List Hp} {bl bl' : Blks} {sl sl' : List OwnS}
  {K K' : Act → World → Prop} {k : List Item} {ty : TypeId} {G : Hp}
theorem Cov.marks0 (h : Cov nt w0 S0 (mks mk0.1) ρ Fs bl (.g (marksG mk0) :: sl) K) : Cov nt w0 S0 [] ρ Fs bl sl K := fun a w hf hi =>
  h a w hf (hi.change [] (by simp) (Keep.refl w []) (fun G hG => .inl hG) hi.mem.own (fun s hs => by
    rcases List.mem_cons.1 hs with rfl | hs
    · exact fun r hr => by simp [mk0] at hr
    · exact hi.mem.slh s hs) (by simpa [blks, OwnS.blocks, marksG, mk0] using hi.nodup) (fun b hb => .inl (by simpa [blks, OwnS.blocks, marksG, mk0] using hb)))
theorem Cov.mkmerge (j : Nat) {m : MK} {r : Nat} (hb : bl[j]? = some (r, .deferred (some []))) (bl' : Blks) (hbl : bl.eraseIdx j = bl') (hk : ∀ m' : MK, Cov nt w0 S0 (mks m'.1) ρ Fs bl' (.g (marksG m') :: sl) K) :
    Cov nt w0 S0 ({ target := .collected r, args := #[] } :: mks m.1) ρ Fs bl (.g (marksG m) :: sl) K := fun a w hf hi => by
  subst hbl
  have hp1 := (perm_erase bl j _ hb).map (·.1)
  have hpm : (blks bl (.g (marksG m) :: sl)).Perm (r :: (m.1 ++ blks (bl.eraseIdx j) sl)) := by
    unfold blks
    simp only [List.flatMap_cons, OwnS.blocks, marksG, List.map_cons] at hp1 ⊢
    refine (hp1.append_right _).trans ?_
    simp only [List.cons_append]
    refine List.Perm.cons _ ?_
    rw [← List.append_assoc, ← List.append_assoc]
    exact List.perm_append_comm.append_right _
  have hnd := hpm.nodup_iff.1 hi.nodup
  have hnd2 : (r :: m.1).Nodup := (List.nodup_append.1 (by simpa using hnd : ((r :: m.1) ++ blks (bl.eraseIdx j) sl).Nodup)).1
  have hpm2 : (blks (bl.eraseIdx j) (.g (marksG ⟨r :: m.1, hnd2⟩) :: sl)).Perm (blks bl (.g (marksG m) :: sl)) := by
    refine List.Perm.trans ?_ hpm.symm
    unfold blks
    simp only [List.flatMap_cons, OwnS.blocks, marksG]
    rw [← List.append_assoc]
    refine (List.perm_append_comm.append_right _).trans ?_
    simp
  refine hk ⟨r :: m.1, hnd2⟩ a w ?_ (hi.change [] (by simp) (Keep.refl w []) (fun G hG => .inl hG) (fun p hp => hi.mem.own p (List.mem_of_mem_eraseIdx hp)) (fun s hs => ?_) (hpm2.nodup_iff.2 hi.nodup) (fun b hb => .inl (hpm2.mem_iff.1 hb)))
  · exact hf
  · rcases List.mem_cons.1 hs with rfl | hs
    · intro x hx
      rcases List.mem_cons.1 hx with rfl | hx
      · exact hi.mem.own _ (List.mem_of_getElem? hb)
      · exact hi.mem.slh _ List.mem_cons_self x hx
    · exact hi.mem.slh s (List.mem_cons_of_mem _ hs)
theorem Cov.unmarkAll : ∀ (ds : List Nat) (hn : ds.Nodup) {bl : Blks}, Cov nt w0 S0 [] ρ Fs bl sl (Out P c R) → Cov nt w0 S0 (mks ds) ρ Fs bl (.g (marksG ⟨ds, hn⟩) :: sl) (Out P c R)
  | [], _, bl, h => fun a w hf hi => h a w hf (hi.change [] (by simp) (Keep.refl w []) (fun G hG => .inl hG) hi.mem.own (fun s hs => hi.mem.slh s (List.mem_cons_of_mem _ hs)) (by simpa [blks, OwnS.blocks, marksG] using hi.nodup)
      (fun b hb => .inl (by simpa [blks, OwnS.blocks, marksG] using hb)))
  | r :: ds, hn, bl, h => fun a w hf hi => by
    have hn2 := (List.nodup_cons.1 hn).2
    have hpm : (blks ((r, Obj.deferred (some [])) :: bl) (.g (marksG ⟨ds, hn2⟩) :: sl)).Perm (blks bl (.g (marksG ⟨r :: ds, hn⟩) :: sl)) := by
      unfold blks
      simp only [List.flatMap_cons, OwnS.blocks, marksG, List.map_cons, List.cons_append]
      exact List.perm_middle.symm
    have hcov : Cov nt w0 S0 ({ target := .collected r, args := #[] } :: mks ds) ρ Fs ((r, Obj.deferred (some [])) :: bl) (.g (marksG ⟨ds, hn2⟩) :: sl) (Out P c R) :=
      Cov.unmark 0 rfl _ rfl (Cov.drop 1 0 bl (.g (marksG ⟨ds, hn2⟩) :: sl) rfl rfl (Cov.unmarkAll ds hn2 h))
    refine hcov a w hf (hi.change [] (by simp) (Keep.refl w []) (fun G hG => .inl hG) (fun p hp => ?_) (fun s hs => ?_) (hpm.nodup_iff.2 hi.nodup) (fun b hb => .inl (hpm.mem_iff.1 hb)))
    · rcases List.mem_cons.1 hp with rfl | hp
      · exact hi.mem.slh _ List.mem_cons_self r List.mem_cons_self
      · exact hi.mem.own p hp
    · rcases List.mem_cons.1 hs with rfl | hs
      · exact fun x hx => hi.mem.slh _ List.mem_cons_self x (List.mem_cons_of_mem _ hx)
      · exact hi.mem.slh s (List.mem_cons_of_mem _ hs)
theorem Cov.outS {fn : Func} (rs : List ResultVar) (vs : List Value) {Q : Value → Blks → List OwnS → Prop} (hf : P.funcs[c.fn]? = some fn) (hrs : fn.results = rs.toArray)
    (hres : RVs P ρ Fs bl sl rs vs) (hsub : ∀ F ∈ Fin, F ∈ Fs) (hpost : Q (retVal vs) bl sl) : Cov nt w0 S0 [] ρ Fs bl sl (Out P c (RP w0 S0 Fin (fun v _ bl sl => Q v bl sl))) := by
  intro a w hfi hinv items cs
  refine ⟨retVal vs, w, ⟨empHp, bl, sl, fresh_emp _, ?_, hpost⟩, { c.fr a items with mode := .returning }, Steps.refl _ _, rfl, rfl, hfi.1, rfl, fn, hf, run_results hfi hinv.mem hrs hres⟩
  refine hinv.change [] (by simp) (Keep.refl w []) (fun G hG => ?_) hinv.mem.own hinv.mem.slh hinv.nodup (fun _ hx => .inl hx)
  rcases List.mem_cons.1 hG with rfl | hG
  · exact .inr ⟨fun b o hb => by simp [empHp] at hb, fun _ _ => rfl⟩
  · exact .inl (hsub G hG)
theorem Cov.outW {fn : Func} (rs : List ResultVar) (vs : List Value) {Q : Value → Blks → List OwnS → Hp → Prop} (hf : P.funcs[c.fn]? = some fn) (hrs : fn.results = rs.toArray)
    (hres : RVs P ρ Fs bl sl rs vs) (hsub : ∀ F ∈ Fin, F ∈ Fs) (hG : G ∈ Fs) (hbd : Bd w0 S0 Fin G) (hS : ∀ b ∈ S0, b ∈ blks bl sl) (hpost : ∀ G', HpLe G G' → Q (retVal vs) bl sl G') :
    Cov nt w0 S0 [] ρ Fs bl sl (Out P c (RP w0 S0 Fin (fun v Fr bl sl => ∀ G', Ext (Fr :: Fin) G' → Q v bl sl G'))) := by
  refine Cov.part hG ?_
  intro a w hfi hinv items cs
  refine ⟨retVal vs, w, ⟨Proofs.Ytmfppphlhgneeaa.part w0 G, bl, sl, part_fresh w0 G, ?_, fun G' he => hpost G' (part_ext hbd (fun b hb => hinv.apart b (hS b hb) G (List.mem_cons_of_mem _ hG)) he)⟩, { c.fr a items with mode := .returning }, Steps.refl _ _, rfl, rfl, hfi.1, rfl, fn, hf, run_results hfi hinv.mem hrs (RVs_fs (fun F hF => List.mem_cons_of_mem _ hF) rs vs hres)⟩
  refine hinv.change [] (by simp) (Keep.refl w []) (fun F hF => .inl ?_) hinv.mem.own hinv.mem.slh hinv.nodup (fun _ hx => .inl hx)
  rcases List.mem_cons.1 hF with rfl | hF
  · exact List.mem_cons_self
  · exact List.mem_cons_of_mem _ (hsub F hF)
theorem Cov.loopD {β : Type} (dfD : β → List Deferred) (dyn : β → Env) (ρs : Env) (FsD : β → List Hp) (blD : β → Blks) (bls : Blks) (slD : β → List OwnS) (sls : List OwnS) (I : β → Prop) (μ : β → Nat) {x : Code} (x0 : β) (hI : I x0) (hdf : df = dfD x0) (hρ : Sub ρ (dyn x0 ++ ρs)) (hF : Fs' = FsD x0 ++ Fs) (hb : bl = blD x0 ++ bls) (hs : sl = slD x0 ++ sls)
    (round : ∀ y, I y → (∀ z, I z → μ z < μ y → Cov nt w0 S0 (dfD z) (dyn z ++ ρs) (FsD z ++ Fs) (blD z ++ bls) (slD z ++ sls) (Run P c R (.inLoop x :: k))) →
      Cov nt w0 S0 (dfD y) (dyn y ++ ρs) (FsD y ++ Fs) (blD y ++ bls) (slD y ++ sls) (Run P c R (.code x :: .inLoop x :: k))) : Cov nt w0 S0 df ρ Fs' bl sl (Run P c R (.code (.loop x) :: k)) := by
  subst hF hb hs hdf
  have key : ∀ n y, μ y = n → I y → Cov nt w0 S0 (dfD y) (dyn y ++ ρs) (FsD y ++ Fs) (blD y ++ bls) (slD y ++ sls) (Run P c R (.code x :: .inLoop x :: k)) := by
    intro n
    induction n using Nat.strongRecOn with
    | _ n ih =>
      intro y hn hy
      exact round y hy fun z hz hlt => (ih (μ z) (hn ▸ hlt) z rfl hz).mono fun _ _ => Run.inLoop
  exact Cov.prune _ hρ ((key _ x0 rfl hI).mono fun _ _ => Run.loop)
section
variable {β : Type} (dfD : β → List Deferred) (dyn : β → Env) (ρs : Env) (FsD : β → List Hp) (blD : β → Blks) (bls : Blks) (slD : β → List OwnS) (sls : List OwnS) (I : β → Prop) (hρ : Sub ρ ρs) (ib : List Nat) (hb : ib.map (bl[·]?) = bls.map some) (is : List Nat) (hs : is.map (sl[·]?) = sls.map some)
set_option linter.unusedVariables false
set_option linter.unusedSectionVars false
include hρ hb hs
theorem Cov.cutBD {id : Nat} {x : Code} (hk : ∀ y, I y → Cov nt w0 S0 (dfD y) (dyn y ++ ρs) (FsD y) (blD y ++ bls) (slD y ++ sls) (Run P c R k))
    (h : (∀ y, I y → Cov nt w0 S0 (dfD y) (dyn y ++ ρs) (FsD y) (blD y ++ bls) (slD y ++ sls) (Run P c R k)) → Cov nt w0 S0 df ρ Fs bl sl (Run P c R (.code (.block id x) :: k))) : Cov nt w0 S0 df ρ Fs bl sl (Run P c R (.code (.block id x) :: k)) := h hk
end
theorem Bd.trans {G' : Hp} (h : Bd w0 S0 (G :: B) G') (hB : Bd w0 S0 B G) : Bd w0 S0 B G' := fun b o hb => by
  rcases h b o hb with h | h | ⟨F, hF, hb'⟩
  · exact .inl h
  · exact .inr (.inl h)
  · rcases List.mem_cons.1 hF with rfl | hF
    · exact hB b o hb'
    · exact .inr (.inr ⟨F, hF, hb'⟩)
end
end Go.Proofs.Ytmfppphlhgneeaa
end

section
namespace Go.Proofs.Ytmfppphlhgneeaa
open Go.RowKit
theorem slR_of {α : Type} {A : Rep α} {G : Hp} {f : α → List Value} {Q : α → Prop} {a : Option Addr} {n c : Nat} {l : List α} (h : Sl G A.sz (.slice a n c) (l.map f)) (hq : ∀ y ∈ l, Q y) (hm : n ≤ maxLen) (hg : l.length = n) (hr : ∀ x, Q x → A.r G (f x) x) : SlR A G a c l := by
  subst hg
  refine ⟨hm, _, h, by simp, fun i x y h1 h2 => ?_⟩
  rw [List.getElem?_map, h2] at h1
  obtain rfl := Option.some.inj h1
  exact hr y (hq y (List.mem_of_getElem? h2))
theorem slInts {k : IntKind} {G : Hp} {Q : Int → Prop} {a : Option Addr} {n c : Nat} {l : List Int} (h : Sl G 1 (.slice a n c) (l.map fun x => [Value.int k x])) (hq : ∀ y ∈ l, Q y) (hm : n ≤ maxLen) (hg : l.length = n) : SlR (Rep.int k) G a c l := slR_of h hq hm hg (fun _ _ => rfl)
end Go.Proofs.Ytmfppphlhgneeaa
end

section
namespace Go.Proofs.Ytmfppphlhgneeaa
set_option linter.unusedVariables false
set_option synthInstance.maxSize 2000
set_option synthInstance.maxHeartbeats 400000
def cuckoo_Check_B1 (rec44 : Option Int) (x54 : (Int × Int)) : Option Int :=
  if ((((x54.1 < 0) ∨ (2147483647 ≤ x54.1)) ∨ (x54.2 < 0)) ∨ (2147483647 ≤ x54.2)) then (some 2) else
 rec44
def cuckoo_Check_L1 : (List (Int × Int)) → Option Int
  | [] => some 0
  | x54 :: xs => cuckoo_Check_B1 (cuckoo_Check_L1 xs) x54
def cuckoo_Check (x0 : (Int × (List (Int × Int)))) : Option Int :=
  if ((((x0.1 < 1) ∨ (64 < x0.1)) ∨ ((x0.2.length : Int) < 1)) ∨ (4 < (x0.2.length : Int))) then (some 2) else
 cuckoo_Check_L1 x0.2
def keyword_proper (x0 : ByteArray) : Option Bool :=
  some (decide ((1 ≤ (x0.size : Int)) ∧ ((x0.size : Int) ≤ 32)))
def cuckoo_item (x0 : Int) : Option Bool :=
  some (decide ((0 ≤ x0) ∧ (x0 < 2147483647)))
def cuckoo_homes_B1 (z67 : Int) (z70 : Int) (rec55 : (List Int) → Option (List Int)) (x72 : (Int × Int)) (v59 : List Int) : Option (List Int) :=
  (nz z70).bind fun _ => (lapp v59 ([(Int.tmod (Int.tmod (w64 ((w64 (x72.1 * z67)) + x72.2)) 2147483647) z70)] : List Int)).bind fun u87 => rec55 u87
def cuckoo_homes_L1 (z67 : Int) (z70 : Int) : (List (Int × Int)) → (List Int) → Option (List Int)
  | [], v59 => some v59
  | x72 :: xs, v59 => cuckoo_homes_B1 z67 z70 (cuckoo_homes_L1 z67 z70 xs) x72 v59
def cuckoo_homes (x0 : (Int × (List (Int × Int)))) (x1 : Int) : Option (List Int) :=
  cuckoo_homes_L1 x1 x0.1 x0.2 ([] : List Int)
def cuckoo_Homes (x0 : (Int × (List (Int × Int)))) (x1 : Int) : Option ((List Int) × Int) :=
  (cuckoo_Check x0).bind fun u2 => if (u2 ≠ 0) then (some (([] : List Int), u2)) else
(cuckoo_item x1).bind fun u10 => if ((!u10) = true) then (some (([] : List Int), 1)) else
(cuckoo_homes x0 x1).bind fun u18 => some (u18, 0)
def digest_sum_string_B1 (z15 : ByteArray) (z16 : Int) (rec10 : Int → Int → Option Int) (v11 : Int) (v12 : Int) : Option Int :=
  if (v12 < z16) then ((sidx z15 v12).bind fun u21 => rec10 (Int.tmod (w64 ((w64 ((w64 (v11 * 1000003)) + (w64 u21))) + 1)) 2147483647) (w64 (v12 + 1))) else
 some v11
def digest_sum_string_L1 (z15 : ByteArray) (z16 : Int) : Nat → Int → Int → Option Int
  | 0, _, _ => none
  | n + 1, v11, v12 => digest_sum_string_B1 z15 z16 (digest_sum_string_L1 z15 z16 n) v11 v12
def digest_sum_string (x0 : ByteArray) (x1 : Int) : Option Int :=
  digest_sum_string_L1 x0 (x0.size : Int) big x1 0
def digest_Sum (x0 : ByteArray) : Option Int :=
  (digest_sum_string x0 1).bind fun u1 => some u1
def keyword_homes (x0 : (Int × (List (Int × Int)))) (x1 : ByteArray) : Option (List Int) :=
  (digest_Sum x1).bind fun u2 => (cuckoo_Homes x0 u2).bind fun u6 => some u6.1
def keyword_Homes (x0 : (Int × (List (Int × Int)))) (x1 : ByteArray) : Option ((List Int) × Int) :=
  (cuckoo_Check x0).bind fun u2 => if (u2 ≠ 0) then (some (([] : List Int), u2)) else
(keyword_proper x1).bind fun u10 => if ((!u10) = true) then (some (([] : List Int), 1)) else
(keyword_homes x0 x1).bind fun u18 => some (u18, 0)
def lookup_Wish (x0 : (Int × (List (Int × Int)))) (x1 : ByteArray) : Option ((List Int) × Int) :=
  (keyword_Homes x0 x1).bind fun u2 => some (u2.1, u2.2)
def fence_sized (x0 : Int) : Option Bool :=
  some (decide ((2 ≤ x0) ∧ (x0 ≤ 8)))
def fence_proper (x0 : ByteArray) : Option Bool :=
  some (decide ((1 ≤ (x0.size : Int)) ∧ ((x0.size : Int) ≤ 32)))
def fence_ascend_B1 (z71 : List ByteArray) (rec65 : Option Bool) (x74 : ByteArray) (i65 : Nat) : Option Bool :=
  (fence_proper x74).bind fun u79 => (if ((!u79) = true) then (some true) else (if (0 < (i65 : Int)) then ((lidx z71 (w64 ((i65 : Int) - 1))).bind fun u127 => some (decide (¬ sLt u127 x74))) else some false).bind fun u121 => some u121).bind fun u104 => if (u104 = true) then (some false) else
 rec65
def fence_ascend_L1 (z71 : List ByteArray) : (List ByteArray) → Nat → Option Bool
  | [], i65 => some true
  | x74 :: xs, i65 => fence_ascend_B1 z71 (fence_ascend_L1 z71 xs (i65 + 1)) x74 i65
def fence_ascend (x0 : (List ByteArray)) : Option Bool :=
  fence_ascend_L1 x0 x0 0
def fence_Check (x0 : (Int × (List ByteArray))) : Option Int :=
  (fence_sized x0.1).bind fun u2 => (if ((((!u2) = true) ∨ ((x0.2.length : Int) < 1)) ∨ (256 < (x0.2.length : Int))) then (some true) else (fence_ascend x0.2).bind fun u30 => some (!u30)).bind fun u20 => if (u20 = true) then (some 2) else
 some 0
def slices_Clone_Lstringstring (x0 : (List ByteArray)) : Option (List ByteArray) :=
  (lapp ([] : List ByteArray) x0).bind fun u11 => some u11
def slices_Chunk_Lstringstring_f1_B1 (z33 : List ByteArray) (z34 : Int) (rec25 : Int → Option (List (List ByteArray))) (v30 : Int) : Option (List (List ByteArray)) :=
  if (v30 < (z33.length : Int)) then ((lsub z33 v30 (z33.length : Int)).bind fun u39 => (lsub3 z33 v30 (w64 (v30 + (min z34 (u39.length : Int)))) (w64 (v30 + (min z34 (u39.length : Int))))).bind fun u45 => yc u45 <| rec25 (w64 (v30 + z34))) else
 some []
def slices_Chunk_Lstringstring_f1_L1 (z33 : List ByteArray) (z34 : Int) : Nat → Int → Option (List (List ByteArray))
  | 0, _ => none
  | n + 1, v30 => slices_Chunk_Lstringstring_f1_B1 z33 z34 (slices_Chunk_Lstringstring_f1_L1 z33 z34 n) v30
def slices_Chunk_Lstringstring_f1 (x1 : (List ByteArray)) (x2 : Int) : Option ((List (List ByteArray))) :=
  slices_Chunk_Lstringstring_f1_L1 x1 x2 big 0
def slices_Chunk_Lstringstring_J1 (z9 : Int) (z10 : List ByteArray) : Option (List (List ByteArray)) :=
  (slices_Chunk_Lstringstring_f1 z10 z9).bind fun u21 => some u21
def slices_Chunk_Lstringstring (x0 : (List ByteArray)) (x1 : Int) : Option (List (List ByteArray)) :=
  if (x1 < 1) then (none) else
(slices_Chunk_Lstringstring_J1 x1 x0)
def fence_levels_J1 (rec255 : (List (List ByteArray)) → (List ByteArray) → Option (List (List ByteArray))) (z396 : List (List ByteArray)) (v386 : List ByteArray) : Option (List (List ByteArray)) :=
  (lapp z396 ([v386] : List (List ByteArray))).bind fun u409 => rec255 u409 v386
def fence_levels_B2 (kx392 : (List ByteArray) → Option (List (List ByteArray))) (rec466 : (List ByteArray) → Option (List (List ByteArray))) (x478 : (List ByteArray)) (v460 : List ByteArray) : Option (List (List ByteArray)) :=
  (lidx x478 0).bind fun u488 => (lapp v460 ([u488] : List ByteArray)).bind fun u500 => rec466 u500
def fence_levels_L2 (kx392 : (List ByteArray) → Option (List (List ByteArray))) : List (List ByteArray) → (List ByteArray) → Option (List (List ByteArray))
  | [], v460 => kx392 v460
  | x478 :: xs, v460 => fence_levels_B2 kx392 (fence_levels_L2 kx392 xs) x478 v460
def fence_levels_B3 (z273 : Int) (rec255 : (List (List ByteArray)) → (List ByteArray) → Option (List (List ByteArray))) (v261 : List (List ByteArray)) (v267 : List ByteArray) : Option (List (List ByteArray)) :=
  if (z273 < (v267.length : Int)) then ((slices_Chunk_Lstringstring v267 z273).bind fun u280 => fence_levels_L2 (fence_levels_J1 rec255 v261) u280 ([] : List ByteArray)) else
 some v261
def fence_levels_L3 (z273 : Int) : Nat → (List (List ByteArray)) → (List ByteArray) → Option (List (List ByteArray))
  | 0, _, _ => none
  | n + 1, v261, v267 => fence_levels_B3 z273 (fence_levels_L3 z273 n) v261 v267
def fence_levels (x0 : (Int × (List ByteArray))) : Option (List (List ByteArray)) :=
  (slices_Clone_Lstringstring x0.2).bind fun u2 => fence_levels_L3 x0.1 big ([u2] : List (List ByteArray)) x0.2
def fence_Levels (x0 : (Int × (List ByteArray))) : Option ((List (List ByteArray)) × Int) :=
  (fence_Check x0).bind fun u2 => if (u2 ≠ 0) then (some (([] : List (List ByteArray)), u2)) else
(fence_levels x0).bind fun u10 => some (u10, 0)
def lookup_firsts_B1 (z45 : List (List ByteArray)) (z46 : Int) (rec34 : Int → Int → (List Int) → Option (List Int)) (v35 : Int) (v36 : Int) (v37 : List Int) : Option (List Int) :=
  if (0 ≤ v36) then ((lidx v37 v36).bind fun u51 => (lupd v37 v36 v35).bind fun u56 => (lidx z45 v36).bind fun u61 => (nz z46).bind fun _ => rec34 (w64 (v35 + (w64 (Int.tdiv (w64 ((w64 ((u61.length : Int) + z46)) - 1)) z46)))) (w64 (v36 - 1)) u56) else
 some v37
def lookup_firsts_L1 (z45 : List (List ByteArray)) (z46 : Int) : Nat → Int → Int → (List Int) → Option (List Int)
  | 0, _, _, _ => none
  | n + 1, v35, v36, v37 => lookup_firsts_B1 z45 z46 (lookup_firsts_L1 z45 z46 n) v35 v36 v37
def lookup_firsts (x0 : (List (List ByteArray))) (x1 : Int) : Option (List Int) :=
  (lmk (x0.length : Int) 0).bind fun u1 => lookup_firsts_L1 x0 x1 big 0 (w64 ((x0.length : Int) - 1)) u1
def slices_Reverse_Lintint_B1 (rec4051 : Int → Int → (List Int) → Option (List Int)) (v4052 : Int) (v4053 : Int) (v4054 : List Int) : Option (List Int) :=
  if (v4052 < v4053) then ((lidx v4054 v4053).bind fun u4066 => (lidx v4054 v4052).bind fun u4070 => (lidx v4054 v4052).bind fun u4074 => (lupd v4054 v4052 u4066).bind fun u4078 => (lidx u4078 v4053).bind fun u4083 => (lupd u4078 v4053 u4070).bind fun u4087 => rec4051 (w64 (v4052 + 1)) (w64 (v4053 - 1)) u4087) else
 some v4054
def slices_Reverse_Lintint_L1 : Nat → Int → Int → (List Int) → Option (List Int)
  | 0, _, _, _ => none
  | n + 1, v4052, v4053, v4054 => slices_Reverse_Lintint_B1 (slices_Reverse_Lintint_L1 n) v4052 v4053 v4054
def slices_Reverse_Lintint (x0 : (List Int)) : Option (List Int) :=
  slices_Reverse_Lintint_L1 big 0 (w64 ((x0.length : Int) - 1)) x0
def lookup_Rows (x0 : (Int × (List ByteArray))) : Option ((List Int) × Int) :=
  (fence_Levels x0).bind fun u2 => if (u2.2 ≠ 0) then (some (([] : List Int), u2.2)) else
(lookup_firsts u2.1 x0.1).bind fun u24 => (slices_Reverse_Lintint u24).bind fun u37 => some (u37, 0)
def lookup_Width (x0 : Int) : Option Int :=
  some (w64 (x0 * 37))
def keyword_slotted (x0 : Int) : Option Bool :=
  some (decide ((1 ≤ x0) ∧ (x0 ≤ 8)))
def keyword_valid (x0 : (ByteArray × Int)) : Option Bool :=
  (keyword_proper x0.1).bind fun u2 => some (decide (((u2 = true) ∧ (0 ≤ x0.2)) ∧ (x0.2 < 2147483647)))
def keyword_order_f1 (x0 : (ByteArray × Int)) : Option ByteArray :=
  some x0.1
def cmp_isNaN_string (x0 : ByteArray) : Option Bool :=
  some (decide (x0 ≠ x0))
def cmp_Compare_string (x0 : ByteArray) (x1 : ByteArray) : Option Int :=
  (cmp_isNaN_string x0).bind fun u1 => (cmp_isNaN_string x1).bind fun u5 => if (u1 = true) then (if (u5 = true) then (some 0) else
 some (-1)) else
 if (u5 = true) then (some 1) else
 if (sLt x0 x1) then (some (-1)) else
 if (sLt x1 x0) then (some 1) else
 some 0
def keyword_by_apiEntrystring_f1 (x0 : (ByteArray × Int)) (x1 : (ByteArray × Int)) : Option Int :=
  (keyword_order_f1 x0).bind fun u3 => (keyword_order_f1 x1).bind fun u7 => (cmp_Compare_string u3 u7).bind fun u11 => some u11
def keyword_by_apiEntrystring : Option Unit :=
  some ()
def keyword_order (x0 : (ByteArray × Int)) (x1 : (ByteArray × Int)) : Option Int :=
  (keyword_by_apiEntrystring).bind fun u3 => (keyword_by_apiEntrystring_f1 x0 x1).bind fun u13 => some u13
def keyword_ascends_B1 (z88 : List (ByteArray × Int)) (rec82 : Option Bool) (x91 : (ByteArray × Int)) (i82 : Nat) : Option Bool :=
  (keyword_valid x91).bind fun u97 => (if ((!u97) = true) then (some true) else (if (0 < (i82 : Int)) then ((lidx z88 (w64 ((i82 : Int) - 1))).bind fun u157 => (keyword_order u157 x91).bind fun u162 => some (decide (0 ≤ u162))) else some false).bind fun u151 => some u151).bind fun u130 => if (u130 = true) then (some false) else
 rec82
def keyword_ascends_L1 (z88 : List (ByteArray × Int)) : (List (ByteArray × Int)) → Nat → Option Bool
  | [], i82 => some true
  | x91 :: xs, i82 => keyword_ascends_B1 z88 (keyword_ascends_L1 z88 xs (i82 + 1)) x91 i82
def keyword_ascends (x0 : (List (ByteArray × Int))) : Option Bool :=
  keyword_ascends_L1 x0 x0 0
def slices_Index_Lintint_B1 (z21 : Int) (rec14 : Option Int) (x24 : Int) (i14 : Nat) : Option Int :=
  if (z21 = x24) then (some (i14 : Int)) else
 rec14
def slices_Index_Lintint_L1 (z21 : Int) : (List Int) → Nat → Option Int
  | [], i14 => some (-1)
  | x24 :: xs, i14 => slices_Index_Lintint_B1 z21 (slices_Index_Lintint_L1 z21 xs (i14 + 1)) x24 i14
def slices_Index_Lintint (x0 : (List Int)) (x1 : Int) : Option Int :=
  slices_Index_Lintint_L1 x1 x0 0
def slices_Contains_Lintint (x0 : (List Int)) (x1 : Int) : Option Bool :=
  (slices_Index_Lintint x0 x1).bind fun u1 => some (decide (0 ≤ u1))
def keyword_Check_B1 (rec200 : (List (ByteArray × Bool)) → Int → Int → Option Int) (z314 : Int) (z319 : Int) (z320 : List (Int × Int)) (z321 : Int) (rec303 : (List (ByteArray × Bool)) → Option Int) (x323 : (ByteArray × Int)) (v311 : List (ByteArray × Bool)) : Option Int :=
  (if (((mget v311 x323.1).getD false) = true) then (some true) else (keyword_homes (z319, z320) x323.1).bind fun u361 => (slices_Contains_Lintint u361 z314).bind fun u375 => some (!u375)).bind fun u349 => if (u349 = true) then (some 2) else
 rec303 (mput v311 x323.1 true)
def keyword_Check_L1 (rec200 : (List (ByteArray × Bool)) → Int → Int → Option Int) (z314 : Int) (z319 : Int) (z320 : List (Int × Int)) (z321 : Int) : (List (ByteArray × Int)) → (List (ByteArray × Bool)) → Option Int
  | [], v311 => rec200 v311 z319 z321
  | x323 :: xs, v311 => keyword_Check_B1 rec200 z314 z319 z320 z321 (keyword_Check_L1 rec200 z314 z319 z320 z321 xs) x323 v311
def keyword_Check_B2 (z215 : List (Int × Int)) (rec200 : (List (ByteArray × Bool)) → Int → Int → Option Int) (x217 : (List (ByteArray × Int))) (i200 : Nat) (v208 : List (ByteArray × Bool)) (v209 : Int) (v210 : Int) : Option Int :=
  (if (v210 < (x217.length : Int)) then (some true) else (keyword_ascends x217).bind fun u381 => some (!u381)).bind fun u231 => if (u231 = true) then (some 2) else
 keyword_Check_L1 rec200 (i200 : Int) v209 z215 v210 x217 v208
def keyword_Check_L2 (z215 : List (Int × Int)) : (List (List (ByteArray × Int))) → Nat → (List (ByteArray × Bool)) → Int → Int → Option Int
  | [], i200, v208, v209, v210 => some 0
  | x217 :: xs, i200, v208, v209, v210 => keyword_Check_B2 z215 (keyword_Check_L2 z215 xs (i200 + 1)) x217 i200 v208 v209 v210
def keyword_Check (x0 : ((Int × (List (Int × Int))) × Int × (List (List (ByteArray × Int))))) : Option Int :=
  (cuckoo_Check x0.1).bind fun u2 => (if (u2 ≠ 0) then (some true) else (keyword_slotted x0.2.1).bind fun u387 => some (!u387)).bind fun u12 => if ((u12 = true) ∨ ((x0.2.2.length : Int) ≠ x0.1.1)) then (some 2) else
 keyword_Check_L2 x0.1.2 x0.2.2 0 ([] : List (ByteArray × Bool)) x0.1.1 x0.2.1
def residue_Of_J1 (v36 : Int) : Option (Int × Bool) :=
  some (v36, true)
def residue_Of_B2 (kx37 : Int → Option (Int × Bool)) (z56 : Int) (rec52 : Int → Option (Int × Bool)) (v53 : Int) : Option (Int × Bool) :=
  if ((w64 (v53 * v53)) ≤ z56) then ((nz v53).bind fun _ => if ((Int.tmod z56 v53) = 0) then (some (0, false)) else
 rec52 (w64 (v53 + 1))) else
 kx37 z56
def residue_Of_L2 (kx37 : Int → Option (Int × Bool)) (z56 : Int) : Nat → Int → Option (Int × Bool)
  | 0, _ => none
  | n + 1, v53 => residue_Of_B2 kx37 z56 (residue_Of_L2 kx37 z56 n) v53
def residue_Of (x0 : Int) : Option (Int × Bool) :=
  if ((x0 < 2) ∨ (65521 < x0)) then (some (0, false)) else
 residue_Of_L2 residue_Of_J1 x0 big 2
def field_Check (x0 : Int) : Option Int :=
  (residue_Of x0).bind fun u2 => if ((!u2.2) = true) then (some 9) else
 some 0
def keyword_Encode_J1 (v217 : List Int) : Option (ByteArray × Int) :=
  some ((ofB v217), 0)
def keyword_Encode_B2 (rec322 : (List Int) → Option (ByteArray × Int)) (z401 : Int) (z402 : Int) (z404 : Int) (rec389 : Int → (List Int) → Option (ByteArray × Int)) (v390 : Int) (v391 : List Int) : Option (ByteArray × Int) :=
  if (v390 < 4) then ((nneg (w64 (8 * v390))).bind fun _ => (pidx z401 z402 (w64 (33 + v390))).bind fun u411 => (lidx v391 u411).bind fun u413 => (lupd v391 u411 (wu8 (shrI .i64 z404 (w64 (8 * v390))))).bind fun u418 => rec389 (w64 (v390 + 1)) u418) else
 rec322 v391
def keyword_Encode_L2 (rec322 : (List Int) → Option (ByteArray × Int)) (z401 : Int) (z402 : Int) (z404 : Int) : Nat → Int → (List Int) → Option (ByteArray × Int)
  | 0, _, _ => none
  | n + 1, v390, v391 => keyword_Encode_B2 rec322 z401 z402 z404 (keyword_Encode_L2 rec322 z401 z402 z404 n) v390 v391
def keyword_Encode_B3 (kx223 : (List Int) → Option (ByteArray × Int)) (rec322 : (List Int) → Option (ByteArray × Int)) (x337 : (ByteArray × Int)) (i322 : Nat) (v326 : List Int) : Option (ByteArray × Int) :=
  (psub 0 (v326.length : Int) (w64 ((i322 : Int) * 37)) (w64 ((w64 ((i322 : Int) + 1)) * 37))).bind fun u344 => (pidx u344.1 u344.2 0).bind fun u346 => (lidx v326 u346).bind fun u348 => (lupd v326 u346 (wu8 (x337.1.size : Int))).bind fun u353 => (psub u344.1 u344.2 1 (u344.2 - u344.1)).bind fun u358 => (lsub u353 u358.1 u358.2).bind fun u360 => (tobs x337.1).bind fun u362 => keyword_Encode_L2 rec322 u344.1 u344.2 x337.2 big 0 (lcpy u353 u358.1 u360.length u362)
def keyword_Encode_L3 (kx223 : (List Int) → Option (ByteArray × Int)) : (List (ByteArray × Int)) → Nat → (List Int) → Option (ByteArray × Int)
  | [], i322, v326 => kx223 v326
  | x337 :: xs, i322, v326 => keyword_Encode_B3 kx223 (keyword_Encode_L3 kx223 xs (i322 + 1)) x337 i322 v326
def keyword_Encode (x0 : Int) (x1 : (List (ByteArray × Int))) : Option (ByteArray × Int) :=
  (keyword_slotted x0).bind fun u1 => if ((!u1) = true) then (some (ByteArray.empty, 1)) else
 if (x0 < (x1.length : Int)) then (some (ByteArray.empty, 4)) else
(keyword_ascends x1).bind fun u11 => if ((!u11) = true) then (some (ByteArray.empty, 2)) else
(lmk (w64 (x0 * 37)) 0).bind fun u18 => keyword_Encode_L3 keyword_Encode_J1 x1 0 u18
def slices_Clone_Lintint (x0 : (List Int)) : Option (List Int) :=
  (lapp ([] : List Int) x0).bind fun u11 => some u11
def slices_IndexFunc_Lintint_B1 (z25 : Int → Option Bool) (rec18 : Option Int) (x28 : Int) (i18 : Nat) : Option Int :=
  (z25 x28).bind fun u33 => if (u33 = true) then (some (i18 : Int)) else
 rec18
def slices_IndexFunc_Lintint_L1 (z25 : Int → Option Bool) : (List Int) → Nat → Option Int
  | [], i18 => some (-1)
  | x28 :: xs, i18 => slices_IndexFunc_Lintint_B1 z25 (slices_IndexFunc_Lintint_L1 z25 xs (i18 + 1)) x28 i18
def slices_IndexFunc_Lintint (x0 : (List Int)) (x1 : Int → Option Bool) : Option Int :=
  slices_IndexFunc_Lintint_L1 x1 x0 0
def slices_ContainsFunc_Lintint (x0 : (List Int)) (x1 : Int → Option Bool) : Option Bool :=
  (slices_IndexFunc_Lintint x0 x1).bind fun u1 => some (decide (0 ≤ u1))
def residue_Field_Has (x0 : Int) (x1 : Int) : Option Bool :=
  some (decide ((0 ≤ x1) ∧ (x1 < x0)))
def residue_Field_All_f1 (x0 : Int) (x1 : Int) : Option Bool :=
  (residue_Field_Has x1 x0).bind fun u1 => some (!u1)
def residue_Field_All (x0 : Int) (x1 : (List Int)) : Option Bool :=
  (slices_ContainsFunc_Lintint x1 (fun y0 => residue_Field_All_f1 y0 x0)).bind fun u7 => some (!u7)
def table_Check_B1 (z58 : Int) (z63 : Int) (rec52 : Option Int) (x65 : (List Int)) : Option Int :=
  if ((x65.length : Int) ≠ z63) then (some 2) else
(residue_Field_All z58 x65).bind fun u76 => if ((!u76) = true) then (some 9) else
 rec52
def table_Check_L1 (z58 : Int) (z63 : Int) : (List (List Int)) → Option Int
  | [] => some 0
  | x65 :: xs => table_Check_B1 z58 z63 (table_Check_L1 z58 z63 xs) x65
def table_Check (x0 : (Int × Int × Int × (List (List Int)))) : Option Int :=
  (residue_Of x0.2.1).bind fun u2 => if ((x0.1 < 1) ∨ (2147483647 ≤ x0.1)) then (some 1) else
 if ((!u2.2) = true) then (some 9) else
 if ((x0.2.2.1 < 1) ∨ (64 < x0.2.2.1)) then (some 1) else
 if (1024 < (x0.2.2.2.length : Int)) then (some 4) else
 table_Check_L1 u2.1 x0.2.2.1 x0.2.2.2
def table_New_J1 (v157 : Int) (v158 : Int) (v159 : Int) (v160 : List (List Int)) (v166 : Int) (v167 : Int) (v168 : Int) (v169 : Int) : Option ((Int × Int × Int × (List (List Int))) × Int) :=
  some ((v157, v158, v159, v160), 0)
def table_New_B2 (kx170 : Int → Int → Int → (List (List Int)) → Int → Int → Int → Int → Option ((Int × Int × Int × (List (List Int))) × Int)) (z285 : Int) (z286 : Int) (z287 : Int) (rec267 : (List (List Int)) → Option ((Int × Int × Int × (List (List Int))) × Int)) (x289 : (List Int)) (v275 : List (List Int)) : Option ((Int × Int × Int × (List (List Int))) × Int) :=
  (slices_Clone_Lintint x289).bind fun u297 => (lapp v275 ([u297] : List (List Int))).bind fun u318 => rec267 u318
def table_New_L2 (kx170 : Int → Int → Int → (List (List Int)) → Int → Int → Int → Int → Option ((Int × Int × Int × (List (List Int))) × Int)) (z285 : Int) (z286 : Int) (z287 : Int) : (List (List Int)) → (List (List Int)) → Option ((Int × Int × Int × (List (List Int))) × Int)
  | [], v275 => kx170 z285 z286 z287 v275 0 0 0 z286
  | x289 :: xs, v275 => table_New_B2 kx170 z285 z286 z287 (table_New_L2 kx170 z285 z286 z287 xs) x289 v275
def table_New (x0 : Int) (x1 : Int) (x2 : Int) (x3 : (List (List Int))) : Option ((Int × Int × Int × (List (List Int))) × Int) :=
  (table_Check (x0, x1, x2, x3)).bind fun u4 => if (u4 ≠ 0) then (some ((0, 0, 0, ([] : List (List Int))), u4)) else
 table_New_L2 table_New_J1 x0 x1 x2 x3 ([] : List (List Int))
def lookup_Table_J1 (z862 : Int) (v848 : List (List Int)) (v854 : Int) (v855 : Int) (v856 : Int) (v857 : Int) (v858 : Int) (v859 : Int) : Option ((Int × Int × Int × (List (List Int))) × Int) :=
  (lookup_Width v858).bind fun u870 => (table_New z862 v859 u870 v848).bind fun u874 => some (u874.1, u874.2)
def lookup_Table_J2 (rec1418 : (List (List Int)) → Int → Int → Int → Int → Int → Int → Option ((Int × Int × Int × (List (List Int))) × Int)) (z1586 : List (List Int)) (v1567 : List Int) (v1573 : Int) (v1574 : Int) (v1575 : Int) (v1576 : Int) (v1577 : Int) (v1578 : Int) : Option ((Int × Int × Int × (List (List Int))) × Int) :=
  (lapp z1586 ([v1567] : List (List Int))).bind fun u1599 => rec1418 u1599 v1573 v1574 v1575 v1576 v1577 v1578
def lookup_Table_B3 (kx1579 : (List Int) → Int → Int → Int → Int → Int → Int → Option ((Int × Int × Int × (List (List Int))) × Int)) (z1678 : Int) (z1679 : Int) (z1680 : Int) (z1681 : Int) (z1683 : Int) (z1684 : Int) (rec1660 : (List Int) → Option ((Int × Int × Int × (List (List Int))) × Int)) (x1687 : Int) (v1664 : List Int) : Option ((Int × Int × Int × (List (List Int))) × Int) :=
  (lapp v1664 ([(w64 x1687)] : List Int)).bind fun u1699 => rec1660 u1699
def lookup_Table_L3 (kx1579 : (List Int) → Int → Int → Int → Int → Int → Int → Option ((Int × Int × Int × (List (List Int))) × Int)) (z1678 : Int) (z1679 : Int) (z1680 : Int) (z1681 : Int) (z1683 : Int) (z1684 : Int) : (List Int) → (List Int) → Option ((Int × Int × Int × (List (List Int))) × Int)
  | [], v1664 => kx1579 v1664 z1678 z1679 z1680 z1681 z1683 z1684
  | x1687 :: xs, v1664 => lookup_Table_B3 kx1579 z1678 z1679 z1680 z1681 z1683 z1684 (lookup_Table_L3 kx1579 z1678 z1679 z1680 z1681 z1683 z1684 xs) x1687 v1664
def lookup_Table_B4 (kx860 : (List (List Int)) → Int → Int → Int → Int → Int → Int → Option ((Int × Int × Int × (List (List Int))) × Int)) (rec1418 : (List (List Int)) → Int → Int → Int → Int → Int → Int → Option ((Int × Int × Int × (List (List Int))) × Int)) (x1445 : (List (ByteArray × Int))) (v1426 : List (List Int)) (v1432 : Int) (v1433 : Int) (v1434 : Int) (v1435 : Int) (v1436 : Int) (v1437 : Int) : Option ((Int × Int × Int × (List (List Int))) × Int) :=
  (keyword_Encode v1436 x1445).bind fun u1453 => if (u1453.2 ≠ 0) then (some ((0, 0, 0, ([] : List (List Int))), u1453.2)) else
(tobs u1453.1).bind fun u1460 => lookup_Table_L3 (lookup_Table_J2 rec1418 v1426) v1432 v1433 v1434 v1435 v1436 v1437 u1460 ([] : List Int)
def lookup_Table_L4 (kx860 : (List (List Int)) → Int → Int → Int → Int → Int → Int → Option ((Int × Int × Int × (List (List Int))) × Int)) : (List (List (ByteArray × Int))) → (List (List Int)) → Int → Int → Int → Int → Int → Int → Option ((Int × Int × Int × (List (List Int))) × Int)
  | [], v1426, v1432, v1433, v1434, v1435, v1436, v1437 => kx860 v1426 v1432 v1433 v1434 v1435 v1436 v1437
  | x1445 :: xs, v1426, v1432, v1433, v1434, v1435, v1436, v1437 => lookup_Table_B4 kx860 (lookup_Table_L4 kx860 xs) x1445 v1426 v1432 v1433 v1434 v1435 v1436 v1437
def lookup_Table (x0 : Int) (x1 : Int) (x2 : ((Int × (List (Int × Int))) × Int × (List (List (ByteArray × Int))))) : Option ((Int × Int × Int × (List (List Int))) × Int) :=
  (keyword_Check x2).bind fun u4 => if (u4 ≠ 0) then (some ((0, 0, 0, ([] : List (List Int))), u4)) else
(field_Check x1).bind fun u11 => if ((u11 ≠ 0) ∨ (x1 ≤ 256)) then (some ((0, 0, 0, ([] : List (List Int))), 9)) else
(lookup_Width x2.2.1).bind fun u22 => if (64 < u22) then (some ((0, 0, 0, ([] : List (List Int))), 4)) else
 lookup_Table_L4 (lookup_Table_J1 x0) x2.2.2 ([] : List (List Int)) 0 0 0 x2.1.1 x2.2.1 x1
def ref19_Check_B1 (rec44 : Option Int) (x54 : (Int × Int)) : Option Int :=
  if ((((x54.1 < 0) ∨ (2147483647 ≤ x54.1)) ∨ (x54.2 < 0)) ∨ (2147483647 ≤ x54.2)) then (some 2) else
 rec44
def ref19_Check_L1 : (List (Int × Int)) → Option Int
  | [] => some 0
  | x54 :: xs => ref19_Check_B1 (ref19_Check_L1 xs) x54
def ref19_Check (x0 : (Int × (List (Int × Int)))) : Option Int :=
  if ((((x0.1 < 1) ∨ (64 < x0.1)) ∨ ((x0.2.length : Int) < 1)) ∨ (4 < (x0.2.length : Int))) then (some 2) else
 ref19_Check_L1 x0.2
def ref20_Key (x0 : ByteArray) : Option Bool :=
  some (decide ((1 ≤ (x0.size : Int)) ∧ ((x0.size : Int) ≤ 32)))
def ref20_valid (x0 : (ByteArray × Int)) : Option Bool :=
  (ref20_Key x0.1).bind fun u2 => some (decide (((u2 = true) ∧ (0 ≤ x0.2)) ∧ (x0.2 < 2147483647)))
def ref19_Homes_B1 (z83 : Int) (z86 : Int) (rec71 : (List Int) → Option ((List Int) × Int)) (x88 : (Int × Int)) (v75 : List Int) : Option ((List Int) × Int) :=
  (nz z86).bind fun _ => (lapp v75 ([(Int.tmod (Int.tmod (w64 ((w64 (x88.1 * z83)) + x88.2)) 2147483647) z86)] : List Int)).bind fun u103 => rec71 u103
def ref19_Homes_L1 (z83 : Int) (z86 : Int) : (List (Int × Int)) → (List Int) → Option ((List Int) × Int)
  | [], v75 => some (v75, 0)
  | x88 :: xs, v75 => ref19_Homes_B1 z83 z86 (ref19_Homes_L1 z83 z86 xs) x88 v75
def ref19_Homes (x0 : (Int × (List (Int × Int)))) (x1 : Int) : Option ((List Int) × Int) :=
  (ref19_Check x0).bind fun u2 => if (u2 ≠ 0) then (some (([] : List Int), u2)) else
 if ((x1 < 0) ∨ (2147483647 ≤ x1)) then (some (([] : List Int), 1)) else
 ref19_Homes_L1 x1 x0.1 x0.2 ([] : List Int)
def ref11_Sum_B1 (z15 : ByteArray) (rec10 : Int → Int → Option Int) (v11 : Int) (v12 : Int) : Option Int :=
  if (v12 < (z15.size : Int)) then ((sidx z15 v12).bind fun u20 => rec10 (Int.tmod (w64 ((w64 ((w64 (v11 * 1000003)) + (w64 u20))) + 1)) 2147483647) (w64 (v12 + 1))) else
 some v11
def ref11_Sum_L1 (z15 : ByteArray) : Nat → Int → Int → Option Int
  | 0, _, _ => none
  | n + 1, v11, v12 => ref11_Sum_B1 z15 (ref11_Sum_L1 z15 n) v11 v12
def ref11_Sum (x0 : ByteArray) : Option Int :=
  ref11_Sum_L1 x0 big 1 0
def ref20_Homes (x0 : (Int × (List (Int × Int)))) (x1 : ByteArray) : Option ((List Int) × Int) :=
  (ref19_Check x0).bind fun u2 => if (u2 ≠ 0) then (some (([] : List Int), 2)) else
(ref20_Key x1).bind fun u10 => if ((!u10) = true) then (some (([] : List Int), 1)) else
(ref11_Sum x1).bind fun u18 => (ref19_Homes x0 u18).bind fun u22 => some (u22.1, u22.2)
def ref19_place_B1 (rec227 : (List Bool) → Option (Bool × (List (List Int)) × (List Bool))) (rec9999 : (List (List Int)) → (List (List Int)) → (List Int) → Int → Int → (List Bool) → Option (Bool × (List (List Int)) × (List Bool))) (z397 : List (List Int)) (z398 : List Int) (z399 : Int) (z400 : Int) (z403 : Int) (z406 : List (List Int)) (rec384 : (List Bool) → Option (Bool × (List (List Int)) × (List Bool))) (x408 : Int) (i384 : Nat) (v388 : List Bool) : Option (Bool × (List (List Int)) × (List Bool)) :=
  (rec9999 z397 z406 z398 z399 x408 v388).bind fun u413 => if (u413.1 = true) then ((lidx u413.2.1 z403).bind fun u435 => (lidx u435 (i384 : Int)).bind fun u442 => (lupd u435 (i384 : Int) z400).bind fun u448 => (lupd u413.2.1 z403 u448).bind fun u453 => some (true, u453, u413.2.2)) else
 rec384 u413.2.2
def ref19_place_L1 (rec227 : (List Bool) → Option (Bool × (List (List Int)) × (List Bool))) (rec9999 : (List (List Int)) → (List (List Int)) → (List Int) → Int → Int → (List Bool) → Option (Bool × (List (List Int)) × (List Bool))) (z397 : List (List Int)) (z398 : List Int) (z399 : Int) (z400 : Int) (z403 : Int) (z406 : List (List Int)) : (List Int) → Nat → (List Bool) → Option (Bool × (List (List Int)) × (List Bool))
  | [], i384, v388 => rec227 v388
  | x408 :: xs, i384, v388 => ref19_place_B1 rec227 rec9999 z397 z398 z399 z400 z403 z406 (ref19_place_L1 rec227 rec9999 z397 z398 z399 z400 z403 z406 xs (i384 + 1)) x408 i384 v388
def ref19_place_B2 (rec9999 : (List (List Int)) → (List (List Int)) → (List Int) → Int → Int → (List Bool) → Option (Bool × (List (List Int)) × (List Bool))) (z239 : List (List Int)) (z240 : List Int) (z241 : Int) (z242 : Int) (z245 : List (List Int)) (rec227 : (List Bool) → Option (Bool × (List (List Int)) × (List Bool))) (x247 : Int) (v231 : List Bool) : Option (Bool × (List (List Int)) × (List Bool)) :=
  (lidx v231 x247).bind fun u252 => if (u252 = true) then (rec227 v231) else
(lidx v231 x247).bind fun u260 => (lupd v231 x247 true).bind fun u265 => (lidx z240 x247).bind fun u271 => (lidx z245 x247).bind fun u276 => if ((w64 ((u276.length : Int) + u271)) < z241) then ((lidx z245 x247).bind fun u285 => (lapp u285 ([z242] : List Int)).bind fun u305 => (lidx z245 x247).bind fun u308 => (lupd z245 x247 u305).bind fun u315 => some (true, u315, u265)) else
(lidx z245 x247).bind fun u322 => ref19_place_L1 rec227 rec9999 z239 z240 z241 z242 x247 z245 u322 0 u265
def ref19_place_L2 (rec9999 : (List (List Int)) → (List (List Int)) → (List Int) → Int → Int → (List Bool) → Option (Bool × (List (List Int)) × (List Bool))) (z239 : List (List Int)) (z240 : List Int) (z241 : Int) (z242 : Int) (z245 : List (List Int)) : (List Int) → (List Bool) → Option (Bool × (List (List Int)) × (List Bool))
  | [], v231 => some (false, z245, v231)
  | x247 :: xs, v231 => ref19_place_B2 rec9999 z239 z240 z241 z242 z245 (ref19_place_L2 rec9999 z239 z240 z241 z242 z245 xs) x247 v231
def ref19_place_B3 (rec9999 : (List (List Int)) → (List (List Int)) → (List Int) → Int → Int → (List Bool) → Option (Bool × (List (List Int)) × (List Bool))) (x0 : (List (List Int))) (x1 : (List (List Int))) (x2 : (List Int)) (x3 : Int) (x4 : Int) (x5 : (List Bool)) : Option (Bool × (List (List Int)) × (List Bool)) :=
  (lidx x0 x4).bind fun u4 => ref19_place_L2 rec9999 x0 x2 x3 x4 x1 u4 x5
def ref19_place_R : Nat → (List (List Int)) → (List (List Int)) → (List Int) → Int → Int → (List Bool) → Option (Bool × (List (List Int)) × (List Bool))
  | 0, _, _, _, _, _, _ => none
  | n + 1, x0, x1, x2, x3, x4, x5 => ref19_place_B3 (ref19_place_R n) x0 x1 x2 x3 x4 x5
def ref19_place (x0 : (List (List Int))) (x1 : (List (List Int))) (x2 : (List Int)) (x3 : Int) (x4 : Int) (x5 : (List Bool)) : Option (Bool × (List (List Int)) × (List Bool)) := ref19_place_R big x0 x1 x2 x3 x4 x5
def ref19_Possible_B1 (z57 : List (List Int)) (z58 : Int) (z59 : Int) (z60 : List Int) (rec44 : (List (List Int)) → Option Bool) (x63 : (List Int)) (i44 : Nat) (v48 : List (List Int)) : Option Bool :=
  (lmk z58 false).bind fun u65 => (ref19_place z57 v48 z60 z59 (i44 : Int) u65).bind fun u75 => if (u75.1 = true) then (rec44 u75.2.1) else
 some false
def ref19_Possible_L1 (z57 : List (List Int)) (z58 : Int) (z59 : Int) (z60 : List Int) : (List (List Int)) → Nat → (List (List Int)) → Option Bool
  | [], i44, v48 => some true
  | x63 :: xs, i44, v48 => ref19_Possible_B1 z57 z58 z59 z60 (ref19_Possible_L1 z57 z58 z59 z60 xs (i44 + 1)) x63 i44 v48
def ref19_Possible (x0 : (List (List Int))) (x1 : Int) (x2 : Int) (x3 : (List Int)) : Option Bool :=
  (lmk x1 ([] : List Int)).bind fun u1 => ref19_Possible_L1 x0 x1 x2 x3 x0 0 u1
def ref19_First_B1 (rec364 : (List Int) → (List Int) → Option ((List Int) × Bool)) (z482 : Int) (z483 : List (List Int)) (z484 : Int) (z485 : Int) (z489 : List Int) (rec470 : (List Int) → Option ((List Int) × Bool)) (x491 : Int) (v474 : List Int) : Option ((List Int) × Bool) :=
  (lidx v474 x491).bind fun u496 => if (u496 = z485) then (rec470 v474) else
(lidx v474 x491).bind fun u504 => (lidx v474 x491).bind fun u509 => (lupd v474 x491 (w64 (u504 + 1))).bind fun u514 => (lsub z483 (w64 (z482 + 1)) (z483.length : Int)).bind fun u519 => (ref19_Possible u519 z484 z485 u514).bind fun u525 => if (u525 = true) then ((lapp z489 ([x491] : List Int)).bind fun u538 => rec364 u538 u514) else
(lidx u514 x491).bind fun u542 => (lidx u514 x491).bind fun u547 => (lupd u514 x491 (w64 (u542 - 1))).bind fun u552 => rec470 u552
def ref19_First_L1 (rec364 : (List Int) → (List Int) → Option ((List Int) × Bool)) (z482 : Int) (z483 : List (List Int)) (z484 : Int) (z485 : Int) (z489 : List Int) : (List Int) → (List Int) → Option ((List Int) × Bool)
  | [], v474 => rec364 z489 v474
  | x491 :: xs, v474 => ref19_First_B1 rec364 z482 z483 z484 z485 z489 (ref19_First_L1 rec364 z482 z483 z484 z485 z489 xs) x491 v474
def ref19_First_B2 (z382 : List (List Int)) (z383 : Int) (z384 : Int) (rec364 : (List Int) → (List Int) → Option ((List Int) × Bool)) (x387 : (List Int)) (i364 : Nat) (v368 : List Int) (v374 : List Int) : Option ((List Int) × Bool) :=
  ref19_First_L1 rec364 (i364 : Int) z382 z383 z384 v368 x387 v374
def ref19_First_L2 (z382 : List (List Int)) (z383 : Int) (z384 : Int) : (List (List Int)) → Nat → (List Int) → (List Int) → Option ((List Int) × Bool)
  | [], i364, v368, v374 => some (v368, true)
  | x387 :: xs, i364, v368, v374 => ref19_First_B2 z382 z383 z384 (ref19_First_L2 z382 z383 z384 xs (i364 + 1)) x387 i364 v368 v374
def ref19_First (x0 : (List (List Int))) (x1 : Int) (x2 : Int) : Option ((List Int) × Bool) :=
  (lmk x1 0).bind fun u1 => (ref19_Possible x0 x1 x2 u1).bind fun u7 => if ((!u7) = true) then (some (([] : List Int), false)) else
 ref19_First_L2 x0 x1 x2 x0 0 ([] : List Int) u1
def ref20_Build_J1 (z17465 : List (Int × Int)) (v17450 : Int) (v17451 : Int) (v17452 : List (List (ByteArray × Int))) (v17459 : Int) (v17460 : Int) (v17461 : Int) : Option (((Int × (List (Int × Int))) × Int × (List (List (ByteArray × Int)))) × Int) :=
  some (((v17450, z17465), v17451, v17452), 0)
def ref20_Build_B2 (kx17462 : Int → Int → (List (List (ByteArray × Int))) → Int → Int → Int → Option (((Int × (List (Int × Int))) × Int × (List (List (ByteArray × Int)))) × Int)) (z25635 : List (ByteArray × Int)) (z25637 : Int) (z25638 : Int) (z25639 : Int) (z25640 : Int) (z25641 : Int) (rec25618 : (List (List (ByteArray × Int))) → Option (((Int × (List (Int × Int))) × Int × (List (List (ByteArray × Int)))) × Int)) (x25646 : Int) (i25618 : Nat) (v25626 : List (List (ByteArray × Int))) : Option (((Int × (List (Int × Int))) × Int × (List (List (ByteArray × Int)))) × Int) :=
  (lidx z25635 (i25618 : Int)).bind fun u25651 => (lidx v25626 x25646).bind fun u25655 => (lapp u25655 ([u25651] : List (ByteArray × Int))).bind fun u25674 => (lidx v25626 x25646).bind fun u25676 => (lupd v25626 x25646 u25674).bind fun u25682 => rec25618 u25682
def ref20_Build_L2 (kx17462 : Int → Int → (List (List (ByteArray × Int))) → Int → Int → Int → Option (((Int × (List (Int × Int))) × Int × (List (List (ByteArray × Int)))) × Int)) (z25635 : List (ByteArray × Int)) (z25637 : Int) (z25638 : Int) (z25639 : Int) (z25640 : Int) (z25641 : Int) : (List Int) → Nat → (List (List (ByteArray × Int))) → Option (((Int × (List (Int × Int))) × Int × (List (List (ByteArray × Int)))) × Int)
  | [], i25618, v25626 => kx17462 z25637 z25638 v25626 z25639 z25640 z25641
  | x25646 :: xs, i25618, v25626 => ref20_Build_B2 kx17462 z25635 z25637 z25638 z25639 z25640 z25641 (ref20_Build_L2 kx17462 z25635 z25637 z25638 z25639 z25640 z25641 xs (i25618 + 1)) x25646 i25618 v25626
def ref20_Build_J3 (z5216 : Int) (z5217 : Int) (z5218 : Int) (z5220 : List Int) (z5221 : List (ByteArray × Int)) (v5198 : Int) (v5199 : List (Int × Int)) (v5205 : Int) (v5206 : List (List (ByteArray × Int))) : Option (((Int × (List (Int × Int))) × Int × (List (List (ByteArray × Int)))) × Int) :=
  ref20_Build_L2 (ref20_Build_J1 v5199) z5221 v5198 v5205 z5216 z5217 z5218 z5220 0 v5206
def ref20_Build_J4 (z1149 : Int) (z1150 : List (Int × Int)) (z1151 : List (ByteArray × Int)) (v1138 : List (List Int)) (v1144 : Int) (v1145 : Int) (v1146 : Int) : Option (((Int × (List (Int × Int))) × Int × (List (List (ByteArray × Int)))) × Int) :=
  (ref19_First v1138 v1146 z1149).bind fun u1157 => if ((!u1157.2) = true) then (some (((0, ([] : List (Int × Int))), 0, ([] : List (List (ByteArray × Int)))), 15)) else
(lapp ([] : List (Int × Int)) z1150).bind fun u29708 => (lmk v1146 ([] : List (ByteArray × Int))).bind fun u29710 => (ref20_Build_J3 v1144 v1145 v1146 u1157.1 z1151) v1146 u29708 z1149 u29710
def ref20_Build_B5 (kx1147 : (List (List Int)) → Int → Int → Int → Option (((Int × (List (Int × Int))) × Int × (List (List (ByteArray × Int)))) × Int)) (z33830 : Int) (z33831 : Int) (z33832 : Int) (z33833 : List (Int × Int)) (rec33812 : (List (List Int)) → Option (((Int × (List (Int × Int))) × Int × (List (List (ByteArray × Int)))) × Int)) (x33836 : (ByteArray × Int)) (v33820 : List (List Int)) : Option (((Int × (List (Int × Int))) × Int × (List (List (ByteArray × Int)))) × Int) :=
  (ref20_Homes (z33832, z33833) x33836.1).bind fun u33842 => (lapp v33820 ([u33842.1] : List (List Int))).bind fun u33863 => rec33812 u33863
def ref20_Build_L5 (kx1147 : (List (List Int)) → Int → Int → Int → Option (((Int × (List (Int × Int))) × Int × (List (List (ByteArray × Int)))) × Int)) (z33830 : Int) (z33831 : Int) (z33832 : Int) (z33833 : List (Int × Int)) : (List (ByteArray × Int)) → (List (List Int)) → Option (((Int × (List (Int × Int))) × Int × (List (List (ByteArray × Int)))) × Int)
  | [], v33820 => kx1147 v33820 z33830 z33831 z33832
  | x33836 :: xs, v33820 => ref20_Build_B5 kx1147 z33830 z33831 z33832 z33833 (ref20_Build_L5 kx1147 z33830 z33831 z33832 z33833 xs) x33836 v33820
def ref20_Build_J6 (z998 : Int) (z999 : List (Int × Int)) (v987 : List (ByteArray × Int)) (v993 : Int) (v994 : Int) (v995 : Int) : Option (((Int × (List (Int × Int))) × Int × (List (List (ByteArray × Int)))) × Int) :=
  ref20_Build_L5 (ref20_Build_J4 z998 z999 v987) v993 v994 v995 z999 v987 ([] : List (List Int))
def ref20_Build_J7 (rec34500 : (List (ByteArray × Int)) → Int → Int → Int → Option (((Int × (List (Int × Int))) × Int × (List (List (ByteArray × Int)))) × Int)) (z34682 : List (ByteArray × Int)) (v34669 : Int) (v34670 : ByteArray) (v34671 : Int) (v34672 : Int) (v34673 : Int) (v34674 : Int) : Option (((Int × (List (Int × Int))) × Int × (List (List (ByteArray × Int)))) × Int) :=
  (lapp z34682 ([(ByteArray.empty, 0)] : List (ByteArray × Int))).bind fun u34690 => (psub 0 (u34690.length : Int) (w64 (v34669 + 1)) ((u34690.length : Int) - 0)).bind fun u34694 => (psub 0 (u34690.length : Int) v34669 ((u34690.length : Int) - 0)).bind fun u34697 => (lsub u34690 u34694.1 u34694.2).bind fun u34699 => (lsub u34690 u34697.1 u34697.2).bind fun u34701 => (lidx (lcpy u34690 u34694.1 u34699.length u34701) v34669).bind fun u34706 => (lupd (lcpy u34690 u34694.1 u34699.length u34701) v34669 (v34670, v34671)).bind fun u34711 => rec34500 u34711 v34672 v34673 v34674
def ref20_Build_B8 (kx34675 : Int → ByteArray → Int → Int → Int → Int → Option (((Int × (List (Int × Int))) × Int × (List (List (ByteArray × Int)))) × Int)) (z34755 : ByteArray) (z34756 : Int) (z34757 : Int) (z34758 : Int) (z34759 : Int) (z34761 : List (ByteArray × Int)) (rec34747 : Int → Option (((Int × (List (Int × Int))) × Int × (List (List (ByteArray × Int)))) × Int)) (v34748 : Int) : Option (((Int × (List (Int × Int))) × Int × (List (List (ByteArray × Int)))) × Int) :=
  (if (0 < v34748) then ((lidx z34761 (w64 (v34748 - 1))).bind fun u34780 => some (decide (sLt z34755 u34780.1))) else some false).bind fun u34771 => if (u34771 = true) then (rec34747 (w64 (v34748 - 1))) else
 kx34675 v34748 z34755 z34756 z34757 z34758 z34759
def ref20_Build_L8 (kx34675 : Int → ByteArray → Int → Int → Int → Int → Option (((Int × (List (Int × Int))) × Int × (List (List (ByteArray × Int)))) × Int)) (z34755 : ByteArray) (z34756 : Int) (z34757 : Int) (z34758 : Int) (z34759 : Int) (z34761 : List (ByteArray × Int)) : Nat → Int → Option (((Int × (List (Int × Int))) × Int × (List (List (ByteArray × Int)))) × Int)
  | 0, _ => none
  | n + 1, v34748 => ref20_Build_B8 kx34675 z34755 z34756 z34757 z34758 z34759 z34761 (ref20_Build_L8 kx34675 z34755 z34756 z34757 z34758 z34759 z34761 n) v34748
def ref20_Build_J9 (rec34500 : (List (ByteArray × Int)) → Int → Int → Int → Option (((Int × (List (Int × Int))) × Int × (List (List (ByteArray × Int)))) × Int)) (z34599 : List (ByteArray × Int)) (v34587 : ByteArray) (v34588 : Int) (v34589 : Int) (v34590 : Int) (v34591 : Int) : Option (((Int × (List (Int × Int))) × Int × (List (List (ByteArray × Int)))) × Int) :=
  ref20_Build_L8 (ref20_Build_J7 rec34500 z34599) v34587 v34588 v34589 v34590 v34591 z34599 big (z34599.length : Int)
def ref20_Build_B10 (kx34592 : ByteArray → Int → Int → Int → Int → Option (((Int × (List (Int × Int))) × Int × (List (List (ByteArray × Int)))) × Int)) (z34818 : ByteArray) (z34819 : Int) (z34820 : Int) (z34821 : Int) (z34822 : Int) (rec34806 : Option (((Int × (List (Int × Int))) × Int × (List (List (ByteArray × Int)))) × Int)) (x34826 : (ByteArray × Int)) : Option (((Int × (List (Int × Int))) × Int × (List (List (ByteArray × Int)))) × Int) :=
  if (x34826.1 = z34818) then (some (((0, ([] : List (Int × Int))), 0, ([] : List (List (ByteArray × Int)))), 7)) else
 rec34806
def ref20_Build_L10 (kx34592 : ByteArray → Int → Int → Int → Int → Option (((Int × (List (Int × Int))) × Int × (List (List (ByteArray × Int)))) × Int)) (z34818 : ByteArray) (z34819 : Int) (z34820 : Int) (z34821 : Int) (z34822 : Int) : (List (ByteArray × Int)) → Option (((Int × (List (Int × Int))) × Int × (List (List (ByteArray × Int)))) × Int)
  | [] => kx34592 z34818 z34819 z34820 z34821 z34822
  | x34826 :: xs => ref20_Build_B10 kx34592 z34818 z34819 z34820 z34821 z34822 (ref20_Build_L10 kx34592 z34818 z34819 z34820 z34821 z34822 xs) x34826
def ref20_Build_B11 (kx996 : (List (ByteArray × Int)) → Int → Int → Int → Option (((Int × (List (Int × Int))) × Int × (List (List (ByteArray × Int)))) × Int)) (z34516 : List (ByteArray × Int)) (rec34500 : (List (ByteArray × Int)) → Int → Int → Int → Option (((Int × (List (Int × Int))) × Int × (List (List (ByteArray × Int)))) × Int)) (x34520 : (ByteArray × Int)) (i34500 : Nat) (v34504 : List (ByteArray × Int)) (v34510 : Int) (v34511 : Int) (v34512 : Int) : Option (((Int × (List (Int × Int))) × Int × (List (List (ByteArray × Int)))) × Int) :=
  (ref20_valid x34520).bind fun u34526 => if ((!u34526) = true) then (some (((0, ([] : List (Int × Int))), 0, ([] : List (List (ByteArray × Int)))), 1)) else
(lsub z34516 0 (i34500 : Int)).bind fun u34533 => ref20_Build_L10 (ref20_Build_J9 rec34500 v34504) x34520.1 x34520.2 v34510 v34511 v34512 u34533
def ref20_Build_L11 (kx996 : (List (ByteArray × Int)) → Int → Int → Int → Option (((Int × (List (Int × Int))) × Int × (List (List (ByteArray × Int)))) × Int)) (z34516 : List (ByteArray × Int)) : (List (ByteArray × Int)) → Nat → (List (ByteArray × Int)) → Int → Int → Int → Option (((Int × (List (Int × Int))) × Int × (List (List (ByteArray × Int)))) × Int)
  | [], i34500, v34504, v34510, v34511, v34512 => kx996 v34504 v34510 v34511 v34512
  | x34520 :: xs, i34500, v34504, v34510, v34511, v34512 => ref20_Build_B11 kx996 z34516 (ref20_Build_L11 kx996 z34516 xs (i34500 + 1)) x34520 i34500 v34504 v34510 v34511 v34512
def ref20_Build (x0 : (Int × (List (Int × Int)))) (x1 : Int) (x2 : (List (ByteArray × Int))) : Option (((Int × (List (Int × Int))) × Int × (List (List (ByteArray × Int)))) × Int) :=
  (ref19_Check x0).bind fun u3 => if (u3 ≠ 0) then (some (((0, ([] : List (Int × Int))), 0, ([] : List (List (ByteArray × Int)))), 2)) else
 if ((x1 < 1) ∨ (8 < x1)) then (some (((0, ([] : List (Int × Int))), 0, ([] : List (List (ByteArray × Int)))), 1)) else
 if (256 < (x2.length : Int)) then (some (((0, ([] : List (Int × Int))), 0, ([] : List (List (ByteArray × Int)))), 4)) else
 ref20_Build_L11 (ref20_Build_J6 x1 x0.2) x2 x2 0 ([] : List (ByteArray × Int)) 0 0 x0.1
def law35_sane : Option Bool :=
  (ref20_Build (4, ([(1, 0), (3, 0)] : List (Int × Int))) 1 ([(⟨#[97, 110, 116]⟩, 7)] : List (ByteArray × Int))).bind fun u18 => (lookup_Table 2 257 u18.1).bind fun u33 => (lookup_Wish (4, ([(1, 0), (3, 0)] : List (Int × Int))) ⟨#[97, 110, 116]⟩).bind fun u45 => (lookup_Rows (3, ([⟨#[97]⟩, ⟨#[98]⟩, ⟨#[99]⟩, ⟨#[100]⟩] : List ByteArray))).bind fun u62 => (lookup_Width 1).bind fun u71 => (if ((((((((u71 = 37) ∧ (u33.2 = 0)) ∧ ((u33.1.2.2.2.length : Int) = 4)) ∧ (u33.1.2.2.1 = 37)) ∧ (u45.2 = 0)) ∧ ((u45.1.length : Int) = 2)) ∧ (u62.2 = 0)) ∧ ((u62.1.length : Int) = 2)) then ((lidx u62.1 1).bind fun u116 => some (decide (u116 = 1))) else some false).bind fun u110 => some u110
def play_New_J1 (v11 : List Int) : Option ((List Int) × Int) :=
  some (v11, 0)
def play_New (x0 : (List Int)) : Option ((List Int) × Int) :=
  if (300 < (x0.length : Int)) then ((lsub x0 0 300).bind fun u21 => play_New_J1 u21) else
 play_New_J1 x0
def play_Dice_Pick (x0 : ((List Int) × Int)) (x1 : Int) : Option (Int × ((List Int) × Int)) :=
  if ((x0.1.length : Int) ≤ x0.2) then (some (0, x0)) else
(lidx x0.1 (w64 ((w64 (x0.2 + 1)) - 1))).bind fun u4 => (nz x1).bind fun _ => some ((Int.tmod (w64 u4) x1), (x0.1, (w64 (x0.2 + 1))))
def law35_fence_J1 (v132 : Int) (v133 : List ByteArray) (v139 : List Int) (v143 : Int) (v144 : Int) : Option ((Int × (List ByteArray)) × ((List Int) × Int)) :=
  some ((v132, v133), (v139, v143))
def law35_fence_B2 (kx145 : Int → (List ByteArray) → (List Int) → Int → Int → Option ((Int × (List ByteArray)) × ((List Int) × Int))) (z241 : Int) (rec222 : Int → (List ByteArray) → (List Int) → Int → Option ((Int × (List ByteArray)) × ((List Int) × Int))) (v227 : Int) (v228 : List ByteArray) (v234 : List Int) (v238 : Int) : Option ((Int × (List ByteArray)) × ((List Int) × Int)) :=
  (play_Dice_Pick (v234, v238) 12).bind fun u244 => if (v227 < (w64 (1 + u244.1))) then ((lapp v228 ([(ofB ([(wu8 (97 + (wu8 (w64 (2 * v227)))))] : List Int))] : List ByteArray)).bind fun u268 => rec222 (w64 (v227 + 1)) u268 u244.2.1 u244.2.2) else
 kx145 z241 v228 u244.2.1 u244.2.2 0
def law35_fence_L2 (kx145 : Int → (List ByteArray) → (List Int) → Int → Int → Option ((Int × (List ByteArray)) × ((List Int) × Int))) (z241 : Int) : Nat → Int → (List ByteArray) → (List Int) → Int → Option ((Int × (List ByteArray)) × ((List Int) × Int))
  | 0, _, _, _, _ => none
  | n + 1, v227, v228, v234, v238 => law35_fence_B2 kx145 z241 (law35_fence_L2 kx145 z241 n) v227 v228 v234 v238
def law35_fence (x0 : ((List Int) × Int)) : Option ((Int × (List ByteArray)) × ((List Int) × Int)) :=
  (play_Dice_Pick x0 3).bind fun u2 => law35_fence_L2 law35_fence_J1 (w64 (2 + u2.1)) big 0 ([] : List ByteArray) u2.2.1 u2.2.2
def slices_Backward_LLstringLstring_f1_B1 (z29 : List (List ByteArray)) (rec21 : Int → Option (List (Int × (List ByteArray)))) (v26 : Int) : Option (List (Int × (List ByteArray))) :=
  if (0 ≤ v26) then ((lidx z29 v26).bind fun u34 => yc (v26, u34) <| rec21 (w64 (v26 - 1))) else
 some []
def slices_Backward_LLstringLstring_f1_L1 (z29 : List (List ByteArray)) : Nat → Int → Option (List (Int × (List ByteArray)))
  | 0, _ => none
  | n + 1, v26 => slices_Backward_LLstringLstring_f1_B1 z29 (slices_Backward_LLstringLstring_f1_L1 z29 n) v26
def slices_Backward_LLstringLstring_f1 (x1 : (List (List ByteArray))) : Option ((List (Int × (List ByteArray)))) :=
  slices_Backward_LLstringLstring_f1_L1 x1 big (w64 ((x1.length : Int) - 1))
def slices_Backward_LLstringLstring (x0 : (List (List ByteArray))) : Option (List (Int × (List ByteArray))) :=
  (slices_Backward_LLstringLstring_f1 x0).bind fun u7 => some u7
def sort_Search_B1 (z20 : Int → Option Bool) (rec15 : Int → Int → Option Int) (v16 : Int) (v17 : Int) : Option Int :=
  if (v16 < v17) then ((z20 (w64 ((IntKind.u64.wrap (w64 (v16 + v17))) / 2))).bind fun u25 => if ((!u25) = true) then (rec15 (w64 ((w64 ((IntKind.u64.wrap (w64 (v16 + v17))) / 2)) + 1)) v17) else
 rec15 v16 (w64 ((IntKind.u64.wrap (w64 (v16 + v17))) / 2))) else
 some v16
def sort_Search_L1 (z20 : Int → Option Bool) : Nat → Int → Int → Option Int
  | 0, _, _ => none
  | n + 1, v16, v17 => sort_Search_B1 z20 (sort_Search_L1 z20 n) v16 v17
def sort_Search (x0 : Int) (x1 : Int → Option Bool) : Option Int :=
  sort_Search_L1 x1 big 0 x0
def fence_behind_f1 (x0 : Int) (x1 : (List ByteArray)) (x2 : ByteArray) : Option Bool :=
  (lidx x1 x0).bind fun u1 => some (decide (sLt x2 u1))
def fence_behind (x0 : (List ByteArray)) (x1 : ByteArray) : Option Int :=
  (sort_Search (x0.length : Int) (fun y0 => fence_behind_f1 y0 x0 x1)).bind fun u13 => some u13
def fence_last (x0 : (List ByteArray)) (x1 : ByteArray) : Option Int :=
  (fence_behind x0 x1).bind fun u1 => some (max 0 (w64 (u1 - 1)))
def fence_blockOf (x0 : (List ByteArray)) (x1 : Int) (x2 : Int) : Option (List ByteArray) :=
  (lsub x0 (w64 (x2 * x1)) (min (w64 ((w64 (x2 + 1)) * x1)) (x0.length : Int))).bind fun u1 => some u1
def fence_Probe_J1 (z181 : ByteArray) (z183 : List ByteArray) (v172 : List Int) (v178 : Int) : Option ((List Int) × Int × Bool × Int) :=
  (lidx z183 v178).bind fun u184 => some (v172, v178, (decide (u184 = z181)), 0)
def fence_Probe_B2 (kx179 : (List Int) → Int → Option ((List Int) × Int × Bool × Int)) (z247 : Int) (z251 : ByteArray) (rec259 : (List Int) → Int → Option ((List Int) × Int × Bool × Int)) (x271 : (Int × (List ByteArray))) (v252 : List Int) (v258 : Int) : Option ((List Int) × Int × Bool × Int) :=
  (lapp v252 ([v258] : List Int)).bind fun u293 => (fence_blockOf x271.2 z247 v258).bind fun u296 => (fence_last u296 z251).bind fun u303 => rec259 u293 (w64 ((w64 (v258 * z247)) + u303))
def fence_Probe_L2 (kx179 : (List Int) → Int → Option ((List Int) × Int × Bool × Int)) (z247 : Int) (z251 : ByteArray) : List (Int × (List ByteArray)) → (List Int) → Int → Option ((List Int) × Int × Bool × Int)
  | [], v252, v258 => kx179 v252 v258
  | x271 :: xs, v252, v258 => fence_Probe_B2 kx179 z247 z251 (fence_Probe_L2 kx179 z247 z251 xs) x271 v252 v258
def fence_Probe (x0 : (Int × (List ByteArray))) (x1 : ByteArray) : Option ((List Int) × Int × Bool × Int) :=
  (fence_Check x0).bind fun u3 => if (u3 ≠ 0) then (some (([] : List Int), 0, false, u3)) else
(fence_proper x1).bind fun u11 => if ((!u11) = true) then (some (([] : List Int), 0, false, 1)) else
(fence_levels x0).bind fun u21 => (slices_Backward_LLstringLstring u21).bind fun u39 => fence_Probe_L2 (fence_Probe_J1 x1 x0.2) x0.1 x1 u39 ([] : List Int) 0
def lookup_Walk_B1 (z114 : Int) (z115 : Bool) (z116 : List Int) (rec102 : (List Int) → Option ((List Int) × Int × Bool × Int)) (x121 : Int) (i102 : Nat) (v106 : List Int) : Option ((List Int) × Int × Bool × Int) :=
  (lidx z116 (i102 : Int)).bind fun u123 => (lidx v106 (i102 : Int)).bind fun u128 => (lidx v106 (i102 : Int)).bind fun u133 => (lupd v106 (i102 : Int) (w64 (u128 + u123))).bind fun u138 => rec102 u138
def lookup_Walk_L1 (z114 : Int) (z115 : Bool) (z116 : List Int) : (List Int) → Nat → (List Int) → Option ((List Int) × Int × Bool × Int)
  | [], i102, v106 => some (v106, z114, z115, 0)
  | x121 :: xs, i102, v106 => lookup_Walk_B1 z114 z115 z116 (lookup_Walk_L1 z114 z115 z116 xs (i102 + 1)) x121 i102 v106
def lookup_Walk (x0 : (Int × (List ByteArray))) (x1 : ByteArray) : Option ((List Int) × Int × Bool × Int) :=
  (fence_Probe x0 x1).bind fun u2 => if (u2.2.2.2 ≠ 0) then (some (([] : List Int), 0, false, u2.2.2.2)) else
(lookup_Rows x0).bind fun u15 => if (u15.2 ≠ 0) then (some (([] : List Int), 0, false, u15.2)) else
(slices_Clone_Lintint u2.1).bind fun u33 => lookup_Walk_L1 u2.2.1 u2.2.2.1 u15.1 u33 0 u33
def ref21_ascend_B1 (z71 : List ByteArray) (rec65 : Option Bool) (x74 : ByteArray) (i65 : Nat) : Option Bool :=
  (ref20_Key x74).bind fun u79 => (if ((!u79) = true) then (some true) else (if (0 < (i65 : Int)) then ((lidx z71 (w64 ((i65 : Int) - 1))).bind fun u127 => some (decide (¬ sLt u127 x74))) else some false).bind fun u121 => some u121).bind fun u104 => if (u104 = true) then (some false) else
 rec65
def ref21_ascend_L1 (z71 : List ByteArray) : (List ByteArray) → Nat → Option Bool
  | [], i65 => some true
  | x74 :: xs, i65 => ref21_ascend_B1 z71 (ref21_ascend_L1 z71 xs (i65 + 1)) x74 i65
def ref21_ascend (x0 : (List ByteArray)) : Option Bool :=
  ref21_ascend_L1 x0 x0 0
def ref21_Check (x0 : (Int × (List ByteArray))) : Option Int :=
  (if ((((x0.1 < 2) ∨ (8 < x0.1)) ∨ ((x0.2.length : Int) < 1)) ∨ (256 < (x0.2.length : Int))) then (some true) else (ref21_ascend x0.2).bind fun u30 => some (!u30)).bind fun u20 => if (u20 = true) then (some 2) else
 some 0
def ref21_Levels_J1 (rec231 : (List ByteArray) → (List (List ByteArray)) → Int → Option ((List (List ByteArray)) × Int)) (z346 : List (List ByteArray)) (v336 : List ByteArray) (v342 : Int) : Option ((List (List ByteArray)) × Int) :=
  (lapp z346 ([v336] : List (List ByteArray))).bind fun u359 => rec231 v336 u359 v342
def ref21_Levels_B2 (kx343 : (List ByteArray) → Int → Option ((List (List ByteArray)) × Int)) (z422 : List ByteArray) (z423 : Int) (rec412 : (List ByteArray) → Int → Option ((List (List ByteArray)) × Int)) (v413 : List ByteArray) (v419 : Int) : Option ((List (List ByteArray)) × Int) :=
  if (v419 < (z422.length : Int)) then ((lidx z422 v419).bind fun u430 => (lapp v413 ([u430] : List ByteArray)).bind fun u442 => rec412 u442 (w64 (v419 + z423))) else
 kx343 v413 z423
def ref21_Levels_L2 (kx343 : (List ByteArray) → Int → Option ((List (List ByteArray)) × Int)) (z422 : List ByteArray) (z423 : Int) : Nat → (List ByteArray) → Int → Option ((List (List ByteArray)) × Int)
  | 0, _, _ => none
  | n + 1, v413, v419 => ref21_Levels_B2 kx343 z422 z423 (ref21_Levels_L2 kx343 z422 z423 n) v413 v419
def ref21_Levels_B3 (rec231 : (List ByteArray) → (List (List ByteArray)) → Int → Option ((List (List ByteArray)) × Int)) (v236 : List ByteArray) (v240 : List (List ByteArray)) (v246 : Int) : Option ((List (List ByteArray)) × Int) :=
  if (v246 < (v236.length : Int)) then (ref21_Levels_L2 (ref21_Levels_J1 rec231 v240) v236 v246 big ([] : List ByteArray) 0) else
 some (v240, 0)
def ref21_Levels_L3 : Nat → (List ByteArray) → (List (List ByteArray)) → Int → Option ((List (List ByteArray)) × Int)
  | 0, _, _, _ => none
  | n + 1, v236, v240, v246 => ref21_Levels_B3 (ref21_Levels_L3 n) v236 v240 v246
def ref21_Levels (x0 : (Int × (List ByteArray))) : Option ((List (List ByteArray)) × Int) :=
  (ref21_Check x0).bind fun u2 => if (u2 ≠ 0) then (some (([] : List (List ByteArray)), u2)) else
(lapp ([] : List ByteArray) x0.2).bind fun u15 => ref21_Levels_L3 big u15 ([u15] : List (List ByteArray)) x0.1
def law35_LookupWalks_J1 (rec805 : Int → Int → Option Bool) (z1000 : Int) (z1001 : List Int) (z1005 : List Int) (v996 : Int) (v997 : Int) : Option Bool :=
  (lidx z1005 (w64 ((z1005.length : Int) - 1))).bind fun u1017 => (lidx z1001 (w64 ((z1001.length : Int) - 1))).bind fun u1022 => (nz v996).bind fun _ => if ((w64 (u1017 - u1022)) ≠ (w64 (Int.tdiv z1000 v996))) then (some false) else
 rec805 v996 v997
def law35_LookupWalks_B2 (kx998 : Int → Int → Option Bool) (z1107 : List Int) (z1111 : Int) (z1113 : Int) (rec1100 : Option Bool) (x1117 : Int) (i1100 : Nat) : Option Bool :=
  (lidx z1107 (i1100 : Int)).bind fun u1122 => (if (x1117 < u1122) then (some true) else (if ((w64 ((i1100 : Int) + 1)) < (z1107.length : Int)) then ((lidx z1107 (w64 ((i1100 : Int) + 1))).bind fun u1171 => some (decide (u1171 ≤ x1117))) else some false).bind fun u1165 => some u1165).bind fun u1148 => if (u1148 = true) then (some false) else
 rec1100
def law35_LookupWalks_L2 (kx998 : Int → Int → Option Bool) (z1107 : List Int) (z1111 : Int) (z1113 : Int) : (List Int) → Nat → Option Bool
  | [], i1100 => kx998 z1111 z1113
  | x1117 :: xs, i1100 => law35_LookupWalks_B2 kx998 z1107 z1111 z1113 (law35_LookupWalks_L2 kx998 z1107 z1111 z1113 xs (i1100 + 1)) x1117 i1100
def law35_LookupWalks_B3 (z817 : List Int) (z818 : List ByteArray) (rec805 : Int → Int → Option Bool) (x823 : ByteArray) (i805 : Nat) (v813 : Int) (v814 : Int) : Option Bool :=
  (lookup_Walk (v813, z818) x823).bind fun u828 => if ((((u828.2.2.2 ≠ 0) ∨ ((!u828.2.2.1) = true)) ∨ (u828.2.1 ≠ (i805 : Int))) ∨ ((u828.1.length : Int) ≠ (z817.length : Int))) then (some false) else
 law35_LookupWalks_L2 (law35_LookupWalks_J1 rec805 (i805 : Int) z817 u828.1) z817 v813 v814 u828.1 0
def law35_LookupWalks_L3 (z817 : List Int) (z818 : List ByteArray) : (List ByteArray) → Nat → Int → Int → Option Bool
  | [], i805, v813, v814 => some true
  | x823 :: xs, i805, v813, v814 => law35_LookupWalks_B3 z817 z818 (law35_LookupWalks_L3 z817 z818 xs (i805 + 1)) x823 i805 v813 v814
def law35_LookupWalks (x0 : (List Int)) : Option Bool :=
  (law35_sane).bind fun u1 => if ((!u1) = true) then (some false) else
(play_New x0).bind fun u8 => (law35_fence u8).bind fun u16 => (lookup_Rows u16.1).bind fun u31 => (ref21_Levels u16.1).bind fun u40 => (if (((u31.2 ≠ 0) ∨ (u40.2 ≠ 0)) ∨ ((u31.1.length : Int) ≠ (u40.1.length : Int))) then (some true) else (lidx u31.1 0).bind fun u1179 => some (decide (u1179 ≠ 0))).bind fun u68 => if (u68 = true) then (some false) else
 law35_LookupWalks_L3 u31.1 u16.1.2 u16.1.2 0 u16.1.1 u16.2.2
end Go.Proofs.Ytmfppphlhgneeaa
end

section
namespace Go.Proofs.Ytmfppphlhgneeaa
open Go.RowKit Go.MapKept
set_option linter.unusedSectionVars false
set_option linter.unusedSimpArgs false
section
variable {α β : Type} [DecidableEq α]
def mEs (f : α → Value) (g : β → Value) : Nat → List (α × β) → List MapEntry
  | _, [] => []
  | n, x :: l => ⟨f x.1, g x.2, n⟩ :: mEs f g (n + 1) l
abbrev mObj (f : α → Value) (g : β → Value) (l : List (α × β)) : Obj := .map (mEs f g 0 l).toArray l.length
theorem mEs_app (f : α → Value) (g : β → Value) (x : α × β) : ∀ (n : Nat) (l : List (α × β)), mEs f g n (l ++ [x]) = mEs f g n l ++ [⟨f x.1, g x.2, n + l.length⟩]
  | n, [] => rfl
  | n, y :: l => by
    simp only [List.cons_append, mEs, List.length_cons, mEs_app f g x (n + 1) l]
    rw [show n + 1 + l.length = n + (l.length + 1) by omega]
theorem mEs_mod (f : α → Value) (g : β → Value) (k : α) (v : β) : ∀ (j n : Nat) (l : List (α × β)), j < l.length → (mEs f g n l).modify j (fun e => { e with key := f k, val := g v }) = mEs f g n (l.set j (k, v))
  | _, _, [], h => by simp at h
  | 0, n, y :: l, _ => by simp [mEs, List.modify]
  | j + 1, n, y :: l, h => by
    have := mEs_mod f g k v j (n + 1) l (by simpa using h)
    simp only [mEs, List.modify_succ_cons, List.set_cons_succ, this]
theorem find_mEs {d : TypeDesc} {f : α → Value} {g : β → Value} (hK : ∀ a, IsKey d (f a)) (hi : ∀ a b, f a = f b → a = b) (k : α) (v : β) : ∀ (l : List (α × β)) (n i : Nat),
    (mget l k = none ∧ Instr.findNow d (f k) (mEs f g n l) i = some none ∧ mput l k v = l ++ [(k, v)]) ∨
    ∃ b j, mget l k = some b ∧ Instr.findNow d (f k) (mEs f g n l) i = some (some (i + j, g b)) ∧ j < l.length ∧ mput l k v = l.set j (k, v) ∧ ∃ e, (mEs f g n l)[j]? = some e ∧ e.key = f k
  | [], n, i => .inl ⟨rfl, rfl, rfl⟩
  | (a, b) :: l, n, i => by
    obtain ⟨r, hr, hiff⟩ := sameNow_of_keys (hK k) (hK a)
    by_cases h : a = k
    · subst h
      have : r = true := hiff.2 rfl
      subst this
      exact .inr ⟨b, 0, by simp [mget], by simp [mEs, Instr.findNow, hr], by simp, by simp [mput], _, rfl, rfl⟩
    · have hr2 : r = false := by
        cases r with
        | false => rfl
        | true => exact absurd (hi _ _ (hiff.1 rfl)).symm h
      subst hr2
      rcases find_mEs (g := g) hK hi k v l (n + 1) (i + 1) with ⟨h1, h2, h3⟩ | ⟨b', j, h1, h2, h3, h4, e, h5, h6⟩
      · exact .inl ⟨by simp [mget, h, h1], by simp [mEs, Instr.findNow, hr, h2], by simp [mput, h, h3]⟩
      · exact .inr ⟨b', j + 1, by simp [mget, h, h1], by simp [mEs, Instr.findNow, hr, h2]; omega, by simpa using h3, by simp [mput, h, h4], e, by simpa [mEs] using h5, h6⟩
theorem mput_run {P : Program} {w : World} {t kt et : TypeId} {d : TypeDesc} {f : α → Value} {g : β → Value} (hm : P.underlying t = some (.map kt et)) (hd : P.underlying kt = some d) (hK : ∀ a, IsKey d (f a)) (hi : ∀ a b, f a = f b → a = b) {r : Nat} {l : List (α × β)} (hb : w.heap[r]? = some (mObj f g l)) (k : α) (v : β) :
    (Instr.mapUpdate t (.map (some r)) (f k) (g v)).run P w = .ok () { w with heap := w.heap.setIfInBounds r (mObj f g (mput l k v)) } := by
  rcases find_mEs hK hi (g := g) k v l 0 0 with ⟨_, h2, h3⟩ | ⟨b, j, _, h2, h3, h4, e, h5, h6⟩
  · rw [h3]
    simp [Instr.mapUpdate, run_underlying hm, MapKept.run_getObj_map hb, MapKept.run_checkKey hd (hK k), MapKept.run_findKey hd h2, MapKept.run_setObj_map _ hb]
    rw [mObj, mEs_app, List.length_append, Nat.zero_add]; rfl
  · rw [h4]
    have hk : (((mEs f g 0 l).toArray[j]?).map (·.key)).getD (f k) = f k := by simp [h5, h6]
    simp only [Nat.zero_add] at h2
    have e2 : (mEs f g 0 l).toArray.modify j (fun e => { e with key := f k, val := g v }) = (mEs f g 0 (l.set j (k, v))).toArray := by
      rw [← mEs_mod f g k v j 0 l h3]
      apply Array.ext'
      simp
    simp only [Instr.mapUpdate, Sem.run_bind, run_underlying hm, Result.andThen_ok, MapKept.run_getObj_map hb, MapKept.run_checkKey hd (hK k), MapKept.run_findKey hd h2, hk, MapKept.run_keyThatStays (hK k), e2]
    rw [mObj, List.length_set]
    exact MapKept.run_setObj_map _ hb
theorem mget_run {P : Program} {w : World} {t kt et : TypeId} {d : TypeDesc} {f : α → Value} {g : β → Value} {z : β} (hm : P.underlying t = some (.map kt et)) (hd : P.underlying kt = some d) (hK : ∀ a, IsKey d (f a)) (hi : ∀ a b, f a = f b → a = b) (hz : (P.info? et).bind (·.zero) = some (g z)) {r : Nat} {l : List (α × β)} (hb : w.heap[r]? = some (mObj f g l)) (k : α) :
    (Instr.lookup t (.map (some r)) (f k) false).run P w = .ok (g ((mget l k).getD z)) w := by
  have hzr : (zeroValue et).run P w = .ok (g z) w := by
    cases h1 : P.info? et with
    | none => rw [h1] at hz; cases hz
    | some i =>
      rw [h1] at hz
      cases h2 : i.zero with
      | none => rw [Option.bind_some, h2] at hz; cases hz
      | some u =>
        rw [Option.bind_some, h2] at hz
        obtain rfl := Option.some.inj hz
        simp [zeroValue, typeInfo, h1, h2]
  rcases find_mEs hK hi (g := g) k z l 0 0 with ⟨h1, h2, _⟩ | ⟨b, j, h1, h2, _⟩
  · simp [Instr.lookup, run_underlying hm, MapKept.run_getObj_map hb, MapKept.run_checkKey hd (hK k), MapKept.run_findKey hd h2, h1, hzr]
  · simp [Instr.lookup, run_underlying hm, MapKept.run_getObj_map hb, MapKept.run_checkKey hd (hK k), MapKept.run_findKey hd h2, h1]
end
section
variable {P : Program} {c : Cx} {R : Value → World → Prop} {nt : Nat} {w0 : World} {S0 : List Nat} {df : List Deferred} {ρ ρ' : Env} {Fs Fs' : List Hp} {bl bl' : Blks} {sl sl' : List OwnS}
  {K K' : Act → World → Prop} {k : List Item} {ty : TypeId} {α β : Type} [DecidableEq α]
theorem Cov.mkMap {d : Nat} {t : TypeId} (f : α → Value) (g : β → Value) (hs : Stp P K' ⟨some d, .makeMap t none, ty, none⟩ K) (hd : Nat.blt d nt = true)
    (hk : ∀ b, w0.heap.size ≤ b → Cov nt w0 S0 df ((d, .map (some b)) :: ρ) Fs ((b, mObj f g []) :: bl) sl K) : Cov nt w0 S0 df ρ Fs bl sl K' :=
  .new_ (fv := fun b => .map (some b)) hs (fun _ _ _ _ => run_v (s := Instr.makeMap t none) rfl) hd hk
theorem Cov.mapPut (i : Nat) {f : α → Value} {g : β → Value} {l : List (α × β)} {x : α} {y : β} {t kt et : TypeId} {dsc : TypeDesc} {m p q : Operand} {b : Nat} {op : Op} (hop : op = .mapUpdate t m p q ∨ op = .insert t m p q) (hs : Stp P K' ⟨none, op, ty, none⟩ K)
    (hm : ev ρ m = some (.map (some b))) (hp : ev ρ p = some (f x)) (hq : ev ρ q = some (g y)) (hb : bl[i]? = some (b, mObj f g l)) (ht : P.underlying t = some (.map kt et)) (hd : P.underlying kt = some dsc) (hK : ∀ a, IsKey dsc (f a)) (hi : ∀ a b, f a = f b → a = b)
    (bl' : Blks) (hbl : bl.set i (b, mObj f g (mput l x y)) = bl') (hk : Cov nt w0 S0 df ρ Fs bl' sl K) : Cov nt w0 S0 df ρ Fs bl sl K' := fun a w hf hinv => by
  refine hs a w ?_
  have hbw : w.heap[b]? = some (mObj f g l) := hinv.mem.own _ (List.mem_of_getElem? hb)
  have hr := mput_run (P := P) (w := w) ht hd hK hi hbw x y
  have hrun : (execOp a.eval (⟨none, op, ty, none⟩ : OpX).oper).run P w = .ok .skip { w with heap := w.heap.setIfInBounds b (mObj f g (mput l x y)) } := by
    rcases hop with rfl | rfl
    · refine run_u (s := Instr.mapUpdate t (a.eval m) (a.eval p) (a.eval q)) ?_
      rw [ev_sound hf hm, ev_sound hf hp, ev_sound hf hq]; exact hr
    · refine run_u (s := Instr.mapUpdate t (a.eval m) (a.eval p) (a.eval q)) ?_
      rw [ev_sound hf hm, ev_sound hf hp, ev_sound hf hq]; exact hr
  unfold Oper.wp
  rw [hrun]
  subst hbl
  have hlt : b < w.heap.size := (Array.getElem?_eq_some_iff.1 hbw).1
  exact hk _ _ (hf.put_none _) (hinv.set i hb ⟨rfl, rfl, rfl, by simp, fun z _ hz => by simp only [List.mem_singleton] at hz; simp [Ne.symm hz]⟩ (by simp [hlt]))
theorem QOp.mapGet (i : Nat) {f : α → Value} {g : β → Value} {l : List (α × β)} {x : α} {z : β} {t kt et : TypeId} {dsc : TypeDesc} {m p : Operand} {b : Nat} (hm : ev ρ m = some (.map (some b))) (hp : ev ρ p = some (f x)) (hb : bl[i]? = some (b, mObj f g l)) (ht : P.underlying t = some (.map kt et)) (hd : P.underlying kt = some dsc)
    (hK : ∀ a, IsKey dsc (f a)) (hi : ∀ a b, f a = f b → a = b) (hz : (P.info? et).bind (·.zero) = some (g z)) : QOp P ρ Fs bl sl (.lookup t m p false) ty (g ((mget l x).getD z)) := .of fun e he w hmem => by
  have hbw : w.heap[b]? = some (mObj f g l) := hmem.own _ (List.mem_of_getElem? hb)
  refine run_v (s := Instr.lookup t (e m) (e p) false) ?_
  rw [he m _ hm, he p _ hp]
  exact mget_run ht hd hK hi hz hbw x
end
theorem ik_str : ∀ a : ByteArray, IsKey .string (.string a) := fun _ => trivial
theorem ij_str : ∀ a b : ByteArray, Value.string a = Value.string b → a = b := fun _ _ h => by cases h; rfl
end Go.Proofs.Ytmfppphlhgneeaa
end

section
namespace Go.Proofs.Ytmfppphlhgneeaa
open Go.RowKit
section
variable {P : Program} {c : Cx} {R : Value → World → Prop} {nt : Nat} {w0 : World} {S0 : List Nat} {df : List Deferred} {ρ ρ' : Env} {Fs Fs' Fin B : List Hp} {bl bl' : Blks} {sl sl' : List OwnS}
  {K K' : Act → World → Prop} {k : List Item} {ty : TypeId} {G : Hp} {α : Type}
theorem QOp.cap {t el : TypeId} {x : Operand} {a : Option Addr} {n m : Nat} (hx : ev ρ x = some (.slice a n m)) (ht : slOf P t = some el) : QOp P ρ Fs bl sl (.call ⟨.builtin .cap, #[x], #[t]⟩) ty (.int .i64 m) := .of fun e he w _ => by
  refine run_builtin (run_v ?_)
  have hu := slOf_spec ht
  simp [Builtin.cap_, he x _ hx, run_underlying hu, goInt]
end
end Go.Proofs.Ytmfppphlhgneeaa
end

section
namespace Go.Proofs.Ytmfppphlhgneeaa
open Go.RowKit
def YieldsX (P : Program) (y : Value) (V : Nat → List Value → Prop) (Fs : List Hp) (𝒢 : Nat → Guest → Prop) (ℰ : Guest → Prop) : Prop :=
  ∃ l, y = .func (.yield l) #[] #[] ∧ ∀ (i : Nat) (v : List Value), V i v → ∀ R, 𝒢 i R → ∀ w, (∀ G ∈ Fs, HpIn G w) → R.holds w →
    ∃ f tmps as1 body, (Instr.yield l v.toArray).run P w = .ok (.round l f tmps as1 body) w ∧
      RoundV P l f tmps as1 body w fun r w' => ∃ R', ((r = .bool true ∧ 𝒢 (i + 1) R') ∨ (r = .bool false ∧ ℰ R')) ∧ R'.holds w' ∧ Keep w R.blks w' ∧ ∀ b ∈ R'.blks, b ∈ R.blks ∨ w.heap.size ≤ b
def IterX (P : Program) (f : FuncId) (cap : List Value) (Fs : List Hp) (N : Nat) (V : Nat → List Value → Prop) : Prop :=
  ∀ (y : Value) (𝒢 : Nat → Guest → Prop) (ℰ : Guest → Prop) (R0 : Guest), YieldsX P y V Fs 𝒢 ℰ → 𝒢 0 R0 → RetG P f (y :: cap).toArray Fs [] [.g R0] fun _ _ bl sl => bl = [] ∧ ∃ R, (𝒢 N R ∨ ℰ R) ∧ sl = [.g R]
def IterRX (P : Program) {α : Type} (Y : Yr α) (f : FuncId) (cap : List Value) (G : Hp) (l : List α) : Prop :=
  ∀ Fs G1, HpLe G G1 → G1 ∈ Fs → IterX P f cap Fs l.length (fun i v => ∃ x, l[i]? = some x ∧ Y.r G1 v x)
theorem IterRX.mono {P : Program} {α : Type} {Y : Yr α} {f : FuncId} {cap : List Value} {G G' : Hp} {l : List α} (hg : HpLe G G') (h : IterRX P Y f cap G l) : IterRX P Y f cap G' l := fun Fs G1 h1 h2 => h Fs G1 (hg.trans h1) h2
def doneObj (f : FuncId) (tmps : Array Value) (ps : Array Tmp) (as1 body : Code) (defers : Nat) (J : Code) : Obj := .loop { state := .done, pending := some J, fn := f, tmps := tmps, params := ps, assign := as1, body := body, defers := defers }
def RoundX {α β : Type} (FsD : α → List Hp) (blD : α → Blks) (slD : α → List OwnS) (FsE : β → List Hp) (blE : β → Blks) (slE : β → List OwnS) (FsS FinR : List Hp) (I1 : α → Prop) (IE : β → Prop) (l : Nat) (lo : Obj) (le : β → Obj) (w1 : World) (S1 : List Nat) (r : Value) (w' : World) : Prop :=
  (r = .bool true ∧ ∃ x', I1 x' ∧ (∀ G ∈ FsD x', Bd w1 S1 FinR G) ∧ Inv w1 S1 (FsD x' ++ FsS) (blD x' ++ [(l, lo)]) (slD x') w') ∨
  (r = .bool false ∧ ∃ y, IE y ∧ (∀ G ∈ FsE y, Bd w1 S1 FinR G) ∧ Inv w1 S1 (FsE y ++ FsS) (blE y ++ [(l, le y)]) (slE y) w')
section
variable {P : Program} {c : Cx} {R0 : Value → World → Prop} {nt : Nat} {w0 : World} {S0 : List Nat} {df : List Deferred} {ρ ρ' : Env} {Fs Fs' Fin : List Hp} {bl bl' bls : Blks} {sl sl' sls : List OwnS}
  {K K' : Act → World → Prop} {k : List Item} {ty : TypeId}
theorem Cov.yieldX {y : Value} {V : Nat → List Value → Prop} {F0 : List Hp} {𝒢 : Nat → Guest → Prop} {ℰ : Guest → Prop} {i : Nat} {R : Guest} {v : List Value} {d : Nat} {fop : Operand} {args : Array Operand} {ts : Array TypeId} {os : List OpX}
    (hy : YieldsX P y V F0 𝒢 ℰ) (hi : V i v) (hR : 𝒢 i R) (hF : ∀ G ∈ F0, G ∈ Fs) (hf : ev ρ fop = some y) (ha : args.toList.map (ev ρ) = v.map some) (hd : Nat.blt d nt = true)
    (hk : ∀ R', 𝒢 (i + 1) R' → Cov nt w0 S0 df ((d, .bool true) :: ρ) Fs bl (.g R' :: sl) (RO P c R0 os k))
    (he : ∀ R', ℰ R' → Cov nt w0 S0 df ((d, .bool false) :: ρ) Fs bl (.g R' :: sl) (RO P c R0 os k)) :
    Cov nt w0 S0 df ρ Fs bl (.g R :: sl) (RO P c R0 (⟨some d, .call ⟨.value fop, args, ts⟩, ty, none⟩ :: os) k) := fun a w hfi hinv => by
  simp only [RO, wantedT, if_true]
  refine .inr ?_
  obtain ⟨l, rfl, hy⟩ := hy
  obtain ⟨f, tmps, as1, body, hr, hround⟩ := hy i v hi R hR w (fun G hG => hinv.mem.fs G (hF G hG)) (hinv.mem.slh _ List.mem_cons_self)
  have key : ∀ (l : List Operand) (vl : List Value), l.map (ev ρ) = vl.map some → l.map a.eval = vl := by
    intro l
    induction l with
    | nil => intro vl h; cases vl <;> simp at h ⊢
    | cons x l ih =>
      intro vl h
      cases vl with
      | nil => simp at h
      | cons v vl =>
        simp only [List.map_cons, List.cons.injEq] at h
        simp only [List.map_cons, ev_sound hfi h.1, ih vl h.2]
  have h1 : args.map a.eval = v.toArray := by rw [← Array.toList_inj]; simpa using key _ _ ha
  refine ⟨l, f, tmps, as1, body, w, ?_, ?_⟩
  · simp only [OpX.oper, execOp, resolve, h1, ev_sound hfi hf, Deferred.ofValue]
    simp only [Sem.run_bind, Sem.run_pure, Result.andThen_ok, invoke]
    simpa using hr
  · intro cl cs
    obtain ⟨r, w', ⟨R', h2, h3, h4, h5⟩, hs⟩ := hround cl cs
    have hinv' := hinv.set_s 0 (s := .g R) (s' := .g R') rfl h4 h3 R'.nodup h5
    rcases h2 with ⟨rfl, h2⟩ | ⟨rfl, h2⟩
    · exact ⟨.bool true, w', hk R' h2 _ w' (hfi.put hd _) hinv', hs⟩
    · exact ⟨.bool false, w', he R' h2 _ w' (hfi.put hd _) hinv', hs⟩
section
variable {α β : Type} {FsD : α → List Hp} {blD : α → Blks} {slD : α → List OwnS} {FsE : β → List Hp} {blE : β → Blks} {slE : β → List OwnS} {FsS FinR : List Hp} {I1 : α → Prop} {IE : β → Prop} {l : Nat} {le : β → Obj} {f : FuncId} {tmps : Array Value} {ps : Array Tmp} {as1 body : Code} {D : Nat}
theorem Cov.round_endX (x' : α) (j : Nat) (hro : c.ro = some l) (hb : bl[j]? = some (l, loopObj .busy f tmps ps as1 body D)) (hI : I1 x')
    (hbl : bl.set j (l, loopObj .ready f tmps ps as1 body D) = blD x' ++ [(l, loopObj .ready f tmps ps as1 body D)]) (hsl : sl = slD x') (hFs : ∀ G ∈ FsD x' ++ FsS, G ∈ Fs) (hbd : ∀ G ∈ FsD x', Bd w0 S0 FinR G) :
    Cov nt w0 S0 [] ρ Fs bl sl (Run P c (RoundX FsD blD slD FsE blE slE FsS FinR I1 IE l (loopObj .ready f tmps ps as1 body D) le w0 S0) []) := fun a w hf hi => by
  subst hsl
  have hl := hi.mem.own _ (List.mem_of_getElem? hb)
  have hr := run_endRound (P := P) (w := w) (l := l) none hl
  have hi2 := hi.set j hb (Keep.putObj w l (loopObj .ready f tmps ps as1 body D)) (World.putObj_heap_same (own_lt hl))
  rw [hbl] at hi2
  have hi3 := hi2.change (Fs' := FsD x' ++ FsS) (bl' := blD x' ++ [(l, loopObj .ready f tmps ps as1 body D)]) (sl' := slD x') [] (by simp) (Keep.refl _ []) (fun G hG => .inl (hFs G hG)) hi2.mem.own hi2.mem.slh hi2.nodup (fun _ hb => .inl hb)
  intro cs hcs
  refine ⟨.bool true, _, .inl ⟨rfl, x', hI, hbd, hi3⟩, ?_⟩
  unfold Done
  simp only [hro]
  cases cs with
  | nil => exact absurd rfl (hcs (by simp [hro]))
  | cons cl cs =>
    refine ⟨cl, cs, rfl, .one ?_⟩
    exact stepR_round_end (P := P) (b := c.fr a []) (a := a) (c := cl) (cs := cs) (w := w) hro rfl hr
end
def GstE {β : Type} (FsE : β → List Hp) (blE : β → Blks) (slE : β → List OwnS) (FsS : List Hp) (l : Nat) (le : β → Obj) (w0 : World) (S0 : List Nat) (IE : β → Prop) (R : Guest) : Prop := ∃ x, IE x ∧ PureOK FsE blE slE FsS l (le x) w0 S0 x ∧ ∃ B hB hnd, R = mkGuest FsE blE slE FsS l (le x) x B hB hnd
theorem pack_of {γ : Type} {FsX : γ → List Hp} {blX : γ → Blks} {slX : γ → List OwnS} {FsD1 FsS : List Hp} {l : Nat} {lo : Obj} {x' : γ} {w w' : World} {bin : List Nat} {B : List Nat} (hSB : ∀ b ∈ bin, b ∈ B) (hsz : w0.heap.size ≤ w.heap.size)
    (hbin : ∀ b ∈ bin, b ∈ S0 ∨ w0.heap.size ≤ b) (hF1 : ∀ G ∈ FsD1, Bd w0 S0 FsS G) (hFB : ∀ G ∈ FsD1, ∀ b o, G b = some o → (∃ F ∈ FsS, (F b).isSome = true) ∨ b ∈ B)
    (hbd : ∀ G ∈ FsX x', Bd w bin (FsD1 ++ FsS) G) (hinv' : Inv w bin (FsX x' ++ FsS) (blX x' ++ [(l, lo)]) (slX x') w') :
    PureOK FsX blX slX FsS l lo w0 S0 x' ∧ ∃ B' hB' hnd', (mkGuest FsX blX slX FsS l lo x' B' hB' hnd').holds w' ∧ Keep w B w' ∧ ∀ b ∈ B', b ∈ B ∨ w.heap.size ≤ b := by
  obtain ⟨B', hB', hnd', hh', hg'⟩ := guest_of hinv'
  refine ⟨⟨hinv'.nodup, hinv'.apart, fun b hb => ?_, fun G hG b o ho => ?_⟩, B', hB', hnd', hh', ⟨hinv'.keep.os, hinv'.keep.tape, hinv'.keep.output, hinv'.keep.size, fun b hb hn => hinv'.keep.block b hb (fun h => hn (hSB b h))⟩, fun b hb => ?_⟩
  · rcases hinv'.mine b hb with h | h
    · exact hbin b h
    · exact .inr (Nat.le_trans hsz h)
  · rcases hbd G hG b o ho with h | h | ⟨F, hF, hf⟩
    · exact .inl (Nat.le_trans hsz h)
    · rcases hbin b h with h | h
      · exact .inr (.inl h)
      · exact .inl h
    · rcases List.mem_append.1 hF with hF | hF
      · exact hF1 F hF b o hf
      · exact .inr (.inr ⟨F, hF, hf⟩)
  · rcases hg' b hb with h | ⟨⟨G, hG, hs⟩, hn⟩
    · rcases hinv'.mine b h with h | h
      · exact .inl (hSB b h)
      · exact .inr h
    · obtain ⟨o, ho⟩ := Option.isSome_iff_exists.1 hs
      rcases hbd G hG b o ho with h | h | ⟨F, hF, hf⟩
      · exact .inr h
      · exact .inl (hSB b h)
      · rcases List.mem_append.1 hF with hF | hF
        · rcases hFB F hF b o hf with h | h
          · exact absurd h hn
          · exact .inl h
        · exact absurd ⟨F, hF, by rw [hf]; rfl⟩ hn
section
variable {α β : Type} {FsD : α → List Hp} {blD : α → Blks} {slD : α → List OwnS} {FsE : β → List Hp} {blE : β → Blks} {slE : β → List OwnS} {FsS : List Hp} {l : Nat} {lo : Obj} {le : β → Obj}
theorem yields_ofX {c : Cx} {V : Nat → List Value → Prop} {ps : Array Tmp} {as1 body : Code} {tmps : Array Value} {D : Nat} (I : Nat → α → Prop) (IE : β → Prop) (hlo : lo = loopObj .ready c.fn tmps ps as1 body D) (hlb : w0.heap.size ≤ l)
    (hps : ∀ i v, V i v → v.length = ps.size) (hpt : ps.all (Nat.blt · nt) = true) (hfit : Fits nt [] ρ { tmps := tmps, defers := [] })
    (round : ∀ (i : Nat) (x : α) (v : List Value), V i v → I i x → ∀ w1 S1, w0.heap.size ≤ w1.heap.size → Cov nt w1 S1 [] ((ps.toList.zip v).reverse ++ ρ) (FsD x ++ FsS) (blD x ++ [(l, lo)]) (slD x)
      (Run P ⟨c.fn, some l⟩ (RoundX FsD blD slD FsE blE slE FsS (FsD x ++ FsS) (I (i + 1)) IE l lo le w1 S1) [.code as1, .beginRound, .code body])) :
    YieldsX P (.func (.yield l) #[] #[]) V FsS (Gst FsD blD slD FsS l lo w0 S0 I) (GstE FsE blE slE FsS l le w0 S0 IE) := by
  refine ⟨l, rfl, fun i v hv R hR w hFs hh => ?_⟩
  obtain ⟨x, hI, hp, B, hB, hnd, rfl⟩ := hR
  obtain ⟨hh1, hh2, hh3, hh4⟩ := hh
  have hl : w.heap[l]? = some lo := hh2 (l, lo) (List.mem_append_right _ List.mem_cons_self)
  have hl' := hl
  rw [hlo] at hl'
  have hvl := hps i v hv
  refine ⟨_, _, _, _, run_yield (P := P) (args := v.toArray) hl' (by simpa using hvl), fun cl cs => ?_⟩
  have hfold : ((ps.zip v.toArray).foldl (fun tmps (t, a) => tmps.setIfInBounds t a) tmps) = (ps.toList.zip v).foldl (fun t p => t.setIfInBounds p.1 p.2) tmps := by
    rw [← Array.foldl_toList]
    simp
  have hfit2 := fits_params (ps.toList.zip v) (ds := []) hfit (fun p hp => by
    have h1 := (List.of_mem_zip hp).1
    have h2 := Array.all_eq_true'.1 hpt p.1 (by simpa using h1)
    exact h2) rfl
  have hSB : ∀ b ∈ blks (blD x ++ [(l, lo)]) (slD x), b ∈ B := fun b hb => hB b (.inl hb)
  have hinv : Inv w (blks (blD x ++ [(l, lo)]) (slD x)) (FsD x ++ FsS) (blD x ++ [(l, lo)]) (slD x) w :=
    ⟨⟨fun G hG => by
      rcases List.mem_append.1 hG with hG | hG
      · intro b o hb
        rcases hh1 G hG b o hb with ⟨F, hF, hf⟩ | ⟨_, h⟩
        · exact hFs F hF b o hf
        · exact h
      · exact hFs G hG, hh2, hh3⟩, Keep.refl _ _, hp.1, fun b hb => .inl hb, hp.2.1⟩
  have hsz : w0.heap.size ≤ w.heap.size := by have := own_lt hl; omega
  have hFB : ∀ G ∈ FsD x, ∀ b o, G b = some o → (∃ F ∈ FsS, (F b).isSome = true) ∨ b ∈ B := fun G hG b o ho => by
    rcases hh1 G hG b o ho with ⟨F, hF, hf⟩ | ⟨h, _⟩
    · exact .inl ⟨F, hF, by rw [hf]; rfl⟩
    · exact .inr h
  obtain ⟨r, w', hX, hd⟩ := round i x v hv hI w _ hsz _ w hfit2 hinv (cl :: cs) (by simp)
  have hd2 : Steps P (lone (Frame.round l c.fn ((ps.zip v.toArray).foldl (fun tmps (t, a) => tmps.setIfInBounds t a) tmps) as1 body .normal) (cl :: cs) w) (lone (cl.finish r) cs w') := by
    unfold Done at hd
    simp only at hd
    obtain ⟨caller, cs', he, hs⟩ := hd
    obtain ⟨rfl, rfl⟩ := List.cons.inj he
    have : Frame.round l c.fn ((ps.zip v.toArray).foldl (fun tmps (t, a) => tmps.setIfInBounds t a) tmps) as1 body .normal = (⟨c.fn, some l⟩ : Cx).fr { tmps := (ps.toList.zip v).foldl (fun t p => t.setIfInBounds p.1 p.2) tmps, defers := [] } [.code as1, .beginRound, .code body] := by
      rw [hfold]; rfl
    rw [this]
    exact hs
  rcases hX with ⟨rfl, x', hI', hbd, hinv'⟩ | ⟨rfl, y', hI', hbd, hinv'⟩
  · obtain ⟨hp', B', hB', hnd', h1, h2, h3⟩ := pack_of hSB hsz hp.2.2.1 hp.2.2.2 hFB hbd hinv'
    exact ⟨.bool true, w', ⟨mkGuest FsD blD slD FsS l lo x' B' hB' hnd', .inl ⟨rfl, x', hI', hp', B', hB', hnd', rfl⟩, h1, h2, h3⟩, hd2⟩
  · obtain ⟨hp', B', hB', hnd', h1, h2, h3⟩ := pack_of hSB hsz hp.2.2.1 hp.2.2.2 hFB hbd hinv'
    exact ⟨.bool false, w', ⟨mkGuest FsE blE slE FsS l (le y') y' B' hB' hnd', .inr ⟨rfl, y', hI', hp', B', hB', hnd', rfl⟩, h1, h2, h3⟩, hd2⟩
end
theorem loop_tail {γ : Type} {FsX : γ → List Hp} {blX : γ → Blks} {slX : γ → List OwnS} {FsS : List Hp} {x : γ} {lo : Obj} {l : Nat} {Fr : Hp} {w3 : World} {B : List Nat} {hB : ∀ b, gset FsX blX slX FsS l lo x b → b ∈ B} {hnd : B.Nodup}
    (hi6 : Inv w0 S0 (Fr :: FsS) ([] ++ bls) ([.g (mkGuest FsX blX slX FsS l lo x B hB hnd)] ++ sls) w3) (hpx : PureOK FsX blX slX FsS l lo w0 S0 x) (o' : Obj) : w3.heap[l]? = some lo ∧ Inv w0 S0 (FsX x ++ FsS) (blX x ++ bls) (slX x ++ sls) (w3.putObj l o') := by
  obtain ⟨hh1, hh2, hh3, hh4⟩ := hi6.mem.slh _ (List.mem_cons_self)
  have hpb6 : ∀ b, b ∈ B ∨ b ∈ blks bls sls → b ∈ blks ([] ++ bls) ([OwnS.g (mkGuest FsX blX slX FsS l lo x B hB hnd)] ++ sls) := fun b hb => by
    refine (blks_append _ _ _ _ _).2 (hb.imp (fun h => ?_) id)
    simpa [blks, OwnS.blocks, mkGuest] using h
  have hnd6 := (blks_perm [] bls [OwnS.g (mkGuest FsX blX slX FsS l lo x B hB hnd)] sls).nodup_iff.1 hi6.nodup
  have hgb : blks [] [OwnS.g (mkGuest FsX blX slX FsS l lo x B hB hnd)] = B := by simp [blks, OwnS.blocks, mkGuest]
  rw [hgb, List.nodup_append] at hnd6
  have hxB : ∀ b ∈ blks (blX x ++ [(l, lo)]) (slX x), b ∈ B := fun b hb => hB b (.inl hb)
  have hi7 : Inv w0 S0 (FsX x ++ FsS) ((blX x ++ [(l, lo)]) ++ bls) (slX x ++ sls) w3 := by
    refine hi6.change [] (by simp) (Keep.refl w3 []) (fun G hG => ?_) (fun p hp => ?_) (fun s hs => ?_) ?_ (fun b hb => .inl ?_)
    · rcases List.mem_append.1 hG with hG | hG
      · refine .inr ⟨fun b o hb => ?_, fun b hb => ?_⟩
        · rcases hh1 G hG b o hb with ⟨F, hF, hf'⟩ | ⟨_, h⟩
          · exact hi6.mem.fs F (List.mem_cons_of_mem _ hF) b o hf'
          · exact h
        · rcases (blks_append _ _ _ _ _).1 hb with h | h
          · exact hpx.2.1 b h G (List.mem_append_left _ hG)
          · cases hg' : G b with
            | none => rfl
            | some o =>
              rcases hh1 G hG b o hg' with ⟨F, hF, hf'⟩ | ⟨h1, _⟩
              · rw [hi6.apart b (hpb6 b (.inr h)) F (List.mem_cons_of_mem _ hF)] at hf'; cases hf'
              · exact absurd rfl (hnd6.2.2 b h1 b h)
      · exact .inl (List.mem_cons_of_mem _ hG)
    · rcases List.mem_append.1 hp with hp | hp
      · exact hh2 p hp
      · exact hi6.mem.own p (List.mem_append_right _ hp)
    · rcases List.mem_append.1 hs with hs | hs
      · exact hh3 s hs
      · exact hi6.mem.slh s (List.mem_append_right _ hs)
    · rw [(blks_perm _ _ (slX x) sls).nodup_iff, List.nodup_append]
      exact ⟨hpx.1, hnd6.2.1, fun a' ha b hb e => hnd6.2.2 a' (hxB a' ha) b hb e⟩
    · rcases (blks_append _ _ _ _ _).1 hb with h | h
      · exact hpb6 b (.inl (hxB b h))
      · exact hpb6 b (.inr h)
  have hl3 : w3.heap[l]? = some lo := hi7.mem.own (l, lo) (List.mem_append_left _ (List.mem_append_right _ List.mem_cons_self))
  refine ⟨hl3, ?_⟩
  have hp8 : (blks ((blX x ++ [(l, lo)]) ++ bls) (slX x ++ sls)).Perm (l :: blks (blX x ++ bls) (slX x ++ sls)) := by
    simp only [blks, List.append_assoc, List.map_append, List.map_cons, List.map_nil, List.cons_append, List.nil_append]
    exact List.perm_middle
  have hnd8 := List.nodup_cons.1 (hp8.nodup_iff.1 hi7.nodup)
  have hk : ∀ b ∈ blks (blX x ++ bls) (slX x ++ sls), (w3.putObj l o').heap[b]? = w3.heap[b]? := fun b hb =>
    World.putObj_heap_other (fun e => hnd8.1 (e ▸ hb))
  refine hi7.change [l] (fun b hb => ?_) (Keep.putObj w3 _ _) (fun G hG => .inl hG) (fun p hp => ?_) (fun s hs => ?_) hnd8.2 (fun b hb => .inl (hp8.mem_iff.2 (List.mem_cons_of_mem _ hb)))
  · simp only [List.mem_singleton] at hb
    subst hb
    exact hp8.mem_iff.2 List.mem_cons_self
  · rw [hk p.1 (List.mem_append_left _ (List.mem_map.2 ⟨p, hp, rfl⟩))]
    refine hi7.mem.own p ?_
    rcases List.mem_append.1 hp with hp | hp
    · exact List.mem_append_left _ (List.mem_append_left _ hp)
    · exact List.mem_append_right _ hp
  · exact OwnS.same (hi7.mem.slh s hs) fun b hb => hk b (List.mem_append_right _ (List.mem_flatMap.2 ⟨s, hs, hb⟩))
theorem rangeCore {α β : Type} {FsD : α → List Hp} {blD : α → Blks} {slD : α → List OwnS} {FsE : β → List Hp} {blE : β → Blks} {slE : β → List OwnS} {J : β → Code} {I : Nat → α → Prop} {IE : β → Prop} {x0 : α} {g : Operand} {ps : Array Tmp} {as1 body : Code} {f : FuncId} {cap : List Value} {N : Nat} {V : Nat → List Value → Prop} {FsS : List Hp}
    {a : Act} {w w1 : World} {D : Nat} {mark : List Deferred} {l : Nat} (hf : Fits nt df ρ a) (he : (Instr.enterLoop c.fn a.tmps ps as1 body c.ro).run P w = .ok (l, mark) w1)
    (hi3 : Inv w0 S0 (FsD x0 ++ FsS) ((blD x0 ++ [(l, loopObj .ready c.fn a.tmps ps as1 body D)]) ++ bls) (slD x0 ++ sls) w1) (hlb : w0.heap.size ≤ l)
    (hg : ev ρ g = some (.func (.func f) #[] cap.toArray)) (hcall : ∀ args w, (callFunc f args).run P w = .ok (.enter f args) w) (hF0 : ∀ G ∈ FsD x0, ∀ b, G b = none)
    (hit : IterX P f cap FsS N V) (hps : ∀ i v, V i v → v.length = ps.size) (hpt : ps.all (Nat.blt · nt) = true) (hI : I 0 x0)
    (round : ∀ (i : Nat) (x : α) (v : List Value), V i v → I i x → ∀ w1 S1, w0.heap.size ≤ w1.heap.size →
      Cov nt w1 S1 [] ((ps.toList.zip v).reverse ++ ρ) (FsD x ++ FsS) (blD x ++ [(l, loopObj .ready c.fn a.tmps ps as1 body D)]) (slD x)
        (Run P ⟨c.fn, some l⟩ (RoundX FsD blD slD FsE blE slE FsS (FsD x ++ FsS) (I (i + 1)) IE l (loopObj .ready c.fn a.tmps ps as1 body D) (fun y => doneObj c.fn a.tmps ps as1 body D (J y)) w1 S1) [.code as1, .beginRound, .code body]))
    (after : ∀ x, I N x → (∀ G ∈ FsD x, Bd w0 S0 FsS G) → Cov nt w0 S0 (mark ++ df) ρ (FsD x ++ FsS) (blD x ++ bls) (slD x ++ sls) (Run P c R0 k))
    (exit : ∀ y, IE y → (∀ G ∈ FsE y, Bd w0 S0 FsS G) → Cov nt w0 S0 (mark ++ df) ρ (FsE y ++ FsS) (blE y ++ bls) (slE y ++ sls) (Run P c R0 (.code (J y) :: k))) :
    Run P c R0 (.code (.rangeFunc g ps as1 body) :: k) a w := by
  have hnd3 := (blks_perm (blD x0 ++ [(l, loopObj .ready c.fn a.tmps ps as1 body D)]) bls (slD x0) sls).nodup_iff.1 hi3.nodup
  have hin : ∀ b ∈ blks (blD x0 ++ [(l, loopObj .ready c.fn a.tmps ps as1 body D)]) (slD x0), b ∈ blks ((blD x0 ++ [(l, loopObj .ready c.fn a.tmps ps as1 body D)]) ++ bls) (slD x0 ++ sls) := fun b hb => (blks_append _ _ _ _ _).2 (.inl hb)
  have hi4 : Inv w0 S0 (FsD x0 ++ FsS) (blD x0 ++ [(l, loopObj .ready c.fn a.tmps ps as1 body D)]) (slD x0) w1 :=
    hi3.change [] (by simp) (Keep.refl _ _) (fun G hG => .inl hG) (fun p hp => hi3.mem.own p (List.mem_append_left _ hp)) (fun s hs => hi3.mem.slh s (List.mem_append_left _ hs)) (List.nodup_append.1 hnd3).1 (fun b hb => .inl (hin b hb))
  obtain ⟨B, hB, hndB, hh, hgB⟩ := guest_of hi4
  have hB2 : ∀ b ∈ B, b ∈ blks (blD x0 ++ [(l, loopObj .ready c.fn a.tmps ps as1 body D)]) (slD x0) := fun b hb => by
    rcases hgB b hb with h | ⟨⟨G, hG, hs⟩, _⟩
    · exact h
    · rw [hF0 G hG b] at hs; cases hs
  have hpure : PureOK FsD blD slD FsS l (loopObj .ready c.fn a.tmps ps as1 body D) w0 S0 x0 := ⟨hi4.nodup, hi4.apart, hi4.mine, fun G hG b o ho => by rw [hF0 G hG b] at ho; cases ho⟩
  have hfit0 : Fits nt [] ρ { tmps := a.tmps, defers := [] } := ⟨rfl, hf.2.1, hf.2.2⟩
  have hy := yields_ofX (P := P) (nt := nt) (w0 := w0) (S0 := S0) (ρ := ρ) (FsD := FsD) (blD := blD) (slD := slD) (FsE := FsE) (blE := blE) (slE := slE) (FsS := FsS) (l := l) (lo := loopObj .ready c.fn a.tmps ps as1 body D) (le := fun y => doneObj c.fn a.tmps ps as1 body D (J y)) (c := c) (V := V) I IE rfl hlb hps hpt hfit0 round
  have hcon := hit _ _ _ (mkGuest FsD blD slD FsS _ _ x0 B hB hndB) hy ⟨x0, hI, hpure, B, hB, hndB, rfl⟩
  -- the state at the call
  have hi5 : Inv w0 S0 FsS ([] ++ bls) ([.g (mkGuest FsD blD slD FsS _ _ x0 B hB hndB)] ++ sls) w1 := by
    have hpb : ∀ b, b ∈ blks ([] ++ bls) ([.g (mkGuest FsD blD slD FsS _ _ x0 B hB hndB)] ++ sls) → b ∈ B ∨ b ∈ blks bls sls := fun b hb => by
      rcases (blks_append _ _ _ _ _).1 hb with h | h
      · simp only [blks, List.map_nil, List.nil_append, List.flatMap_cons, List.flatMap_nil, List.append_nil] at h
        exact .inl h
      · exact .inr h
    refine hi3.change [] (by simp) (Keep.refl _ _) (fun G hG => .inl (List.mem_append_right _ hG)) (fun p hp => hi3.mem.own p (List.mem_append_right _ hp)) (fun s hs => ?_) ?_ (fun b hb => .inl ?_)
    · rcases List.mem_cons.1 hs with rfl | hs
      · exact hh
      · exact hi3.mem.slh s (List.mem_append_right _ hs)
    · rw [(blks_perm [] _ [.g (mkGuest FsD blD slD FsS _ _ x0 B hB hndB)] sls).nodup_iff, List.nodup_append]
      have hgb : blks [] [OwnS.g (mkGuest FsD blD slD FsS l (loopObj .ready c.fn a.tmps ps as1 body D) x0 B hB hndB)] = B := by simp [blks, OwnS.blocks, mkGuest]
      rw [hgb]
      exact ⟨hndB, (List.nodup_append.1 hnd3).2.1, fun x hx y hy e => (List.nodup_append.1 hnd3).2.2 x (hB2 x hx) y hy e⟩
    · rcases hpb b hb with h | h
      · exact hin b (hB2 b h)
      · exact (blks_append _ _ _ _ _).2 (.inr h)
  intro cs hcs
  have s1 := stepR_rangeFunc (P := P) (b := c.fr a []) (a := a) (k := k) (cs := cs) (w := w) (g := g) (ps := ps) (assign := as1) (body := body) (l := l) (mark := mark)
    (d := { target := .fn (.func f) cap.toArray, args := #[.func (.yield l) #[] #[]] }) (f := f) (args := (Value.func (.yield l) #[] #[] :: cap).toArray)
    (w₁ := w1) (w₁' := w1) (w₂ := w1) he
    (by
      simp only [rangeCall, resolve, ev_sound hf hg, Deferred.ofValue]
      simp [Act.eval])
    (by
      simp only [invoke]
      simpa using hcall (Value.func (.yield l) #[] #[] :: cap).toArray _)
  obtain ⟨e, w3, fr, ⟨v, rfl, Fr, bo, so, hfr, ho, rfl, R, hR, rfl⟩, hcomes, hfn, hleave⟩ := hcon.use hi5 ((c.fr { a with defers := mark ++ a.defers } (.inRangeFunc l :: k)) :: cs)
  have hi6 := hi5.calledG hfr ho
  have hfit : Fits nt (mark ++ df) ρ { a with defers := mark ++ a.defers } := ⟨by simp [hf.1], hf.2.1, hf.2.2⟩
  rcases hR with ⟨x, hIx, hpx, B', hB', hnd', rfl⟩ | ⟨y, hIy, hpy, B', hB', hnd', rfl⟩
  · obtain ⟨hl3, hi8⟩ := loop_tail hi6 hpx (.loop { state := .exhausted, pending := none, fn := c.fn, tmps := a.tmps, params := ps, assign := as1, body := body, defers := D })
    have hend := run_endLoop (P := P) (w := w3) hl3 (by intro h; cases h)
    obtain ⟨v', w5, hR5, hd5⟩ := after x hIx hpx.2.2.2 _ _ hfit hi8 cs hcs
    refine ⟨v', w5, hR5, hd5.of_steps (.head s1 (Steps.trans hcomes (.head (step_leave_returned hleave) (.one ?_))))⟩
    exact stepR_endRangeFunc (P := P) (b := c.fr a []) (a := { a with defers := mark ++ a.defers }) (k := k) (cs := cs) hend
  · obtain ⟨hl3, hi8⟩ := loop_tail hi6 hpy (.loop { state := .exhausted, pending := some (J y), fn := c.fn, tmps := a.tmps, params := ps, assign := as1, body := body, defers := D })
    have hend := run_endLoop (P := P) (w := w3) hl3 (by intro h; cases h)
    obtain ⟨v', w5, hR5, hd5⟩ := exit y hIy hpy.2.2.2 _ _ hfit hi8 cs hcs
    refine ⟨v', w5, hR5, hd5.of_steps (.head s1 (Steps.trans hcomes (.head (step_leave_returned hleave) (.one ?_))))⟩
    exact stepR_endRangeFunc (P := P) (b := c.fr a []) (a := { a with defers := mark ++ a.defers }) (k := k) (cs := cs) hend
theorem Cov.rangeX {α β : Type} (FsD : α → List Hp) (blD : α → Blks) (slD : α → List OwnS) (FsE : β → List Hp) (blE : β → Blks) (slE : β → List OwnS) (J : β → Code) (I : Nat → α → Prop) (IE : β → Prop) (x0 : α) {g : Operand} {ps : Array Tmp} {as1 body : Code} {f : FuncId} (cap : List Value) {N : Nat} {V : Nat → List Value → Prop} {FsS : List Hp}
    (hro : c.ro = none) (hg : ev ρ g = some (.func (.func f) #[] cap.toArray)) (hcall : ∀ args w, (callFunc f args).run P w = .ok (.enter f args) w) (hF : Fs = FsD x0 ++ FsS) (hF0 : ∀ G ∈ FsD x0, ∀ b, G b = none) (hb : bl = blD x0 ++ bls) (hs : sl = slD x0 ++ sls)
    (hit : IterX P f cap FsS N V) (hps : ∀ i v, V i v → v.length = ps.size) (hpt : ps.all (Nat.blt · nt) = true) (hI : I 0 x0)
    (round : ∀ (l : Nat) (tmps : Array Value) (D : Nat) (i : Nat) (x : α) (v : List Value), V i v → I i x → ∀ w1 S1, w0.heap.size ≤ w1.heap.size →
      Cov nt w1 S1 [] ((ps.toList.zip v).reverse ++ ρ) (FsD x ++ FsS) (blD x ++ [(l, loopObj .ready c.fn tmps ps as1 body D)]) (slD x)
        (Run P ⟨c.fn, some l⟩ (RoundX FsD blD slD FsE blE slE FsS (FsD x ++ FsS) (I (i + 1)) IE l (loopObj .ready c.fn tmps ps as1 body D) (fun y => doneObj c.fn tmps ps as1 body D (J y)) w1 S1) [.code as1, .beginRound, .code body]))
    (after : ∀ r x, I N x → (∀ G ∈ FsD x, Bd w0 S0 FsS G) → Cov nt w0 S0 ({ target := .collected r, args := #[] } :: df) ρ (FsD x ++ FsS) (blD x ++ (r, .deferred (some [])) :: bls) (slD x ++ sls) (Run P c R0 k))
    (exit : ∀ r y, IE y → (∀ G ∈ FsE y, Bd w0 S0 FsS G) → Cov nt w0 S0 ({ target := .collected r, args := #[] } :: df) ρ (FsE y ++ FsS) (blE y ++ (r, .deferred (some [])) :: bls) (slE y ++ sls) (Run P c R0 (.code (J y) :: k))) :
    Cov nt w0 S0 df ρ Fs bl sl (Run P c R0 (.code (.rangeFunc g ps as1 body) :: k)) := fun a w hf hi => by
  subst hF hb hs
  have he := run_enterLoop_outer (P := P) (w := w) c.fn a.tmps ps as1 body
  rw [← hro] at he
  have hi1 := hi.alloc (.deferred (some []))
  have hi2 := hi1.alloc (loopObj .ready c.fn a.tmps ps as1 body w.heap.size)
  have hl : (w.alloc (.deferred (some []))).heap.size = w.heap.size + 1 := World.size_alloc ..
  rw [hl] at hi2
  have hperm : ((w.heap.size + 1, loopObj .ready c.fn a.tmps ps as1 body w.heap.size) :: (w.heap.size, Obj.deferred (some [])) :: (blD x0 ++ bls)).Perm ((blD x0 ++ [(w.heap.size + 1, loopObj .ready c.fn a.tmps ps as1 body w.heap.size)]) ++ (w.heap.size, Obj.deferred (some [])) :: bls) := by
    rw [List.append_assoc]
    refine List.Perm.trans ?_ List.perm_append_comm
    simp only [List.cons_append, List.nil_append]
    refine List.Perm.cons _ (List.Perm.cons _ ?_)
    exact List.perm_append_comm
  have hi3 := hi2.perm hperm (List.Perm.refl _)
  have hlb : w0.heap.size ≤ w.heap.size + 1 := by have := hi.keep.size; omega
  exact rangeCore (FsD := FsD) (blD := blD) (slD := slD) (FsE := FsE) (blE := blE) (slE := slE) (J := J) (I := I) (IE := IE) (x0 := x0) hf he hi3 hlb hg hcall hF0 hit hps hpt hI (fun i x v => round _ _ _ i x v) (fun x h1 h2 => after _ x h1 h2) (fun y h1 h2 => exit _ y h1 h2)
end
end Go.Proofs.Ytmfppphlhgneeaa
end

section
namespace Go.Proofs.Ytmfppphlhgneeaa
open Go.RowKit
def viewG (b : Option Nat) (T : TypeId) (pre cs post : List Value) : Guest where
  blks := b.toList
  nodup := by cases b <;> simp
  holds w := ∀ g, b = some g → w.heap[g]? = some (.cells (pre ++ cs ++ post).toArray T (0, 0))
  lt w h x hx := by
    cases b with
    | none => simp at hx
    | some g => simp at hx; subst hx; exact own_lt (h _ rfl)
  same w w' h e g hg := by subst hg; rw [e g (by simp)]; exact h g rfl
def VA (a : Option Addr) (b : Option Nat) (n k : Nat) (pre cs : List Value) : Prop := n ≤ k ∧ (cs ≠ [] → ∃ g, b = some g ∧ a = some ⟨g, pre.length, none⟩)
def VB (a : Option Addr) (b : Option Nat) (n k sz : Nat) (post : List Value) : Prop :=
  (a = none ∧ b = none ∧ n = 0 ∧ k = 0) ∨ ∃ g, a = some ⟨g, 0, none⟩ ∧ b = some g ∧ n ≤ k ∧ k ≤ maxLen ∧ n * sz + post.length = k * sz
theorem flat_len {sz : Nat} : ∀ {xs : List (List Value)}, (∀ x ∈ xs, x.length = sz) → xs.flatten.length = xs.length * sz
  | [], _ => by simp
  | x :: xs, h => by simp only [List.flatten_cons, List.length_append, List.length_cons, Nat.add_mul]; rw [h x List.mem_cons_self, flat_len fun y hy => h y (List.mem_cons_of_mem _ hy)]; omega
theorem OL.clen {α : Type} {Q : Rep α} {G : Hp} {cs : List Value} {l : List α} (h : OL Q G cs l) : cs.length = l.length * Q.sz := by
  obtain ⟨_, xs, rfl, h3, h4⟩ := h
  rw [flat_len h3, h4.1]
theorem VA.len {a : Option Addr} {b : Option Nat} {n n' k : Nat} {pre cs cs' : List Value} (h : VA a b n k pre cs) (hn : n' = n) (hc : cs'.length = cs.length) : VA a b n' k pre cs' :=
  ⟨hn ▸ h.1, fun hne => h.2 fun e => hne (by rw [e] at hc; exact List.eq_nil_of_length_eq_zero hc)⟩
theorem VA.call {α : Type} {Q : Rep α} {G G' : Hp} {a : Option Addr} {b : Option Nat} {k : Nat} {pre cs cs' : List Value} {l l' : List α} (h : VA a b l.length k pre cs) (ho : OL Q G cs l) (ho' : OL Q G' cs' l') (hl : l'.length = l.length) : VA a b l'.length k pre cs' :=
  h.len hl (by rw [ho.clen, ho'.clen, hl])
theorem view_cells {w : World} {a : Option Addr} {b : Option Nat} {n k : Nat} {T : TypeId} {pre cs post : List Value} (h : (viewG b T pre cs post).holds w) (va : VA a b n k pre cs) (hn : 0 < cs.length) :
    ∃ g, a = some ⟨g, pre.length, none⟩ ∧ b = some g ∧ w.heap[g]? = some (.cells (pre ++ cs ++ post).toArray T (0, 0)) ∧ ∀ (q : Nat) (v : Value), cs[q]? = some v → w.cell? ⟨g, pre.length + q, none⟩ = some v := by
  obtain ⟨g, hb, ha⟩ := va.2 (by rintro rfl; simp at hn)
  have hw := h g hb
  refine ⟨g, ha, hb, hw, fun q v hq => ?_⟩
  rw [cell_of_row w g _ _ T (0, 0) hw]
  have hl : q < cs.length := (List.getElem?_eq_some_iff.1 hq).1
  simp only [List.getElem?_toArray]
  rw [List.append_assoc, List.getElem?_append_right (by omega), Nat.add_sub_cancel_left, List.getElem?_append_left hl]
  exact hq
def Rd (s : OwnS) (G : Hp) : Prop := ∃ w, s.holds w ∧ ∀ b ∈ s.blocks, G b = w.heap[b]?
def Rep.flat {α : Type} (Q : Rep α) : Prop := ∀ (G G' : Hp) (c : List Value) (x : α), Q.r G c x → Q.r G' c x
theorem Rep.flat_int (k : IntKind) : (Rep.int k).flat := fun _ _ _ _ h => h
theorem Rep.flat_bool : Rep.bool.flat := fun _ _ _ _ h => h
theorem OL.flat {α : Type} {Q : Rep α} (hf : Q.flat) {G G' : Hp} {cs : List Value} {l : List α} (h : OL Q G' cs l) : OL Q G cs l := by
  obtain ⟨hb, xs, h1, h3, h4, h5⟩ := h
  exact ⟨hb, xs, h1, h3, h4, fun i c x hc hx => hf _ _ _ _ (h5 i c x hc hx)⟩
section
variable {P : Program} {c : Cx} {R : Value → World → Prop} {nt : Nat} {w0 : World} {S0 : List Nat} {df : List Deferred} {ρ ρ' : Env} {Fs Fs' Fin B : List Hp} {bl bl' : Blks} {sl sl' : List OwnS}
  {K K' : Act → World → Prop} {k : List Item} {ty : TypeId} {α : Type} {G : Hp}
theorem QOp.idxV (q : Nat) {Q : Rep α} {a : Option Addr} {b : Option Nat} {m T sz : Nat} {l : List α} {pre cs post : List Value} {i : Int} {u : α} {kk : IntKind} {t el : TypeId} {x j : Operand} (hs : sl[q]? = some (.g (viewG b T pre cs post))) (va : VA a b l.length m pre cs) (ho : OL Q G cs l)
    (hx : ev ρ x = some (.slice a l.length m)) (hj : ev ρ j = some (.int kk i)) (he : lidx l i = some u) (ht : slOf P t = some el) (hz : szOf P el = some sz) (hn : sz = Q.sz) (h0 : Nat.blt 0 sz = true) : QOp P ρ Fs bl sl (.indexAddr t x j) ty (elemPtr (.slice a l.length m) i.toNat sz) := .of fun e he' w hm => by
  obtain ⟨h3, h4, _⟩ := lidx_some he
  have h0' : 0 < sz := by simpa [Nat.blt_eq] using h0
  have hpos : 0 < cs.length := by rw [ho.clen, ← hn]; exact Nat.mul_pos (by omega) h0'
  obtain ⟨g, rfl, _⟩ := view_cells (hm.slh _ (List.mem_of_getElem? hs)) va hpos
  refine run_v (s := Instr.indexAt t (e x) (e j)) ?_
  rw [he' x _ hx, he' j _ hj]
  exact run_indexAt ht hz h3 h4
theorem elem_cellsV {w : World} {Q : Rep α} {a : Option Addr} {b : Option Nat} {m T sz n : Nat} {l : List α} {pre cs post d : List Value} (h : (viewG b T pre cs post).holds w) (va : VA a b l.length m pre cs) (ho : OL Q G cs l) (hq : sz = Q.sz) (h0 : Nat.blt 0 sz = true) (hn : n < l.length) (he : Elem sz cs n d) :
    ∃ g, a = some ⟨g, pre.length, none⟩ ∧ b = some g ∧ w.heap[g]? = some (.cells (pre ++ cs ++ post).toArray T (0, 0)) ∧ ∀ (q : Nat) (v : Value), d[q]? = some v → w.cell? ⟨g, pre.length + (n * sz + q), none⟩ = some v := by
  have h0' : 0 < sz := by simpa [Nat.blt_eq] using h0
  have hpos : 0 < cs.length := by rw [ho.clen, ← hq]; exact Nat.mul_pos (by omega) h0'
  obtain ⟨g, ha, hb, hw, hc⟩ := view_cells h va hpos
  exact ⟨g, ha, hb, hw, fun q v hv => hc _ _ (he.2 q v hv)⟩
theorem QOp.loadV (q off : Nat) {Q : Rep α} {a : Option Addr} {b : Option Nat} {m T sz s bytes : Nat} {l : List α} {pre cs post d z : List Value} {i : Int} {u : α} {t : TypeId} {x : Operand} {p v : Value} (hs : sl[q]? = some (.g (viewG b T pre cs post))) (va : VA a b l.length m pre cs) (ho : OL Q G cs l) (hn : sz = Q.sz) (h0 : Nat.blt 0 sz = true)
    (he : lidx l i = some u) (hd : Elem sz cs i.toNat d) (hx : ev ρ x = some p) (hp : PtrO p a l.length m i.toNat sz off) (ht : TyI P t false s bytes z) (hv : d[off]? = some v) : QOp P ρ Fs bl sl (.load t x) ty v := .of fun e he' w hm => by
  obtain ⟨h3, h4, _⟩ := lidx_some he
  obtain ⟨g, rfl, _, _, hc⟩ := elem_cellsV (hm.slh _ (List.mem_of_getElem? hs)) va ho hn h0 (by omega) hd
  refine run_v (s := Instr.loadAt t (e x)) ?_
  rw [he' x _ hx]
  rcases hp with ⟨rfl, rfl⟩ | rfl
  · simp only [elemPtr, addr_add]
    exact run_loadVar_s (run_isAgg ht.agg) (by simpa using hc 0 v hv)
  · simp only [elemPtr, ptrAdd, addr_add]
    exact run_loadVar_s (run_isAgg ht.agg) (by rw [Nat.add_assoc]; exact hc off v hv)
theorem OL.upd {Q : Rep α} {sz off : Nat} {cs dc cv : List Value} {l l' : List α} {i : Int} {y : α} (ho : OL Q G cs l) (hn : sz = Q.sz) (hl : lupd l i y = some l') (hd : Elem sz cs i.toNat dc) (hfit : off + cv.length ≤ sz) (hy : Q.r G (dc.take off ++ cv ++ dc.drop (off + cv.length)) y) :
    OL Q G (cs.take (i.toNat * sz + off) ++ cv ++ cs.drop (i.toNat * sz + off + cv.length)) l' ∧ l'.length = l.length ∧ i.toNat < l.length ∧ (cs.take (i.toNat * sz + off) ++ cv ++ cs.drop (i.toNat * sz + off + cv.length)).length = cs.length := by
  subst hn
  obtain ⟨hi0, hil, rfl⟩ := lupd_some hl
  have hcl := ho.clen
  obtain ⟨hb1, xs, rfl, h3, h4⟩ := ho
  have hxs : ∃ ys : List { c : List Value // c.length = Q.sz }, xs = ys.map (·.1) := ⟨xs.attach.map fun c => ⟨c.1, h3 _ c.2⟩, by simp⟩
  obtain ⟨ys, rfl⟩ := hxs
  have e1 : ys.length = l.length := by have := h4.1; simpa using this
  have hj : i.toNat < ys.length := by omega
  have hdc : (ys[i.toNat]).1 = dc := by
    apply List.ext_getElem?
    intro j
    rcases Nat.lt_or_ge j dc.length with h | h
    · have hjl : j < (ys[i.toNat]).1.length := by rw [(ys[i.toNat]).2, ← hd.1]; exact h
      have g1 := get_flatten (ys.map (·.1)) i.toNat (ys[i.toNat]).1 j _ h3 (by rw [List.getElem?_map, List.getElem?_eq_getElem hj]; rfl) (List.getElem?_eq_getElem hjl)
      have g2 := hd.2 j _ (List.getElem?_eq_getElem h)
      rw [g1] at g2
      rw [List.getElem?_eq_getElem hjl, g2, List.getElem?_eq_getElem h]
    · rw [List.getElem?_eq_none h, List.getElem?_eq_none (by rw [(ys[i.toNat]).2, ← hd.1]; exact h)]
  have hlen : (dc.take off ++ cv ++ dc.drop (off + cv.length)).length = Q.sz := by
    simp only [List.length_append, List.length_take, List.length_drop, hd.1]; omega
  have hgd : ys.getD i.toNat ys[i.toNat] = ys[i.toNat] := by rw [List.getD_eq_getElem?_getD, List.getElem?_eq_getElem hj]; rfl
  have hset := flat_set (f := fun c : { c : List Value // c.length = Q.sz } => c.1) (sz := Q.sz) (fun c => c.2) (ys[i.toNat]) (off := off) (c := cv) hfit (y := ⟨_, hlen⟩) ys i.toNat hj (by rw [hgd, hdc])
  have hle : (i.toNat + 1) * Q.sz ≤ l.length * Q.sz := Nat.mul_le_mul_right _ (by omega)
  rw [Nat.add_mul] at hle
  refine ⟨?_, List.length_set, by omega, by simp only [List.length_append, List.length_take, List.length_drop]; omega⟩
  rw [hset]
  refine ⟨by simp; omega, _, rfl, fun c hc => by obtain ⟨c', _, rfl⟩ := List.mem_map.1 hc; exact c'.2, by simp [e1], fun j c x hc hx => ?_⟩
  simp only [List.getElem?_map, List.getElem?_set] at hc hx
  by_cases hij : i.toNat = j
  · subst hij
    rw [if_pos rfl] at hc hx
    simp [hj, show i.toNat < l.length by omega] at hc hx
    subst hc hx
    simpa only [List.append_assoc] using hy
  · rw [if_neg hij] at hc hx
    exact h4.2 j c x (by rw [List.getElem?_map]; exact hc) hx
theorem Cov.storeV (q : Nat) (off : Nat) {Q : Rep α} {a : Option Addr} {b : Option Nat} {m T sz : Nat} {l l' : List α} {pre cs post dc : List Value} {i : Int} {y : α} {t : TypeId} {x u : Operand} {v p : Value} {agg : Bool} {bytes : Nat} {z : List Value} (hs : Stp P K' ⟨none, .store t x u, ty, none⟩ K)
    (hi : sl[q]? = some (.g (viewG b T pre cs post))) (va : VA a b l.length m pre cs) (hn : sz = Q.sz) (h0 : Nat.blt 0 sz = true) (ho : OL Q G cs l) (hl : lupd l i y = some l') (hx : ev ρ x = some p) (hp : PtrO p a l.length m i.toNat sz off) (hu : ev ρ u = some v) (ht : TyI P t agg (cellsL v).length bytes z) (hd : Elem sz cs i.toNat dc)
    (hy : Q.r G (dc.take off ++ cellsL v ++ dc.drop (off + (cellsL v).length)) y) (h1 : (cellsL v).all (·.oneCell') = true) (hfit : Nat.ble (off + (cellsL v).length) sz = true)
    (hk : ∀ cs', l'.length = l.length → OL Q G cs' l' → VA a b l'.length m pre cs' → Cov nt w0 S0 df ρ Fs bl (sl.set q (.g (viewG b T pre cs' post))) K) : Cov nt w0 S0 df ρ Fs bl sl K' := fun aa w hfi hinv => by
  refine hs aa w ?_
  have hfit' : off + (cellsL v).length ≤ sz := by simpa [Nat.ble_eq] using hfit
  obtain ⟨ho', hll, hil, hcl⟩ := ho.upd hn hl hd hfit' hy
  obtain ⟨g, rfl, rfl, hw, _⟩ := elem_cellsV (hinv.mem.slh _ (List.mem_of_getElem? hi)) va ho hn h0 hil hd
  have hle : i.toNat * sz + off + (cellsL v).length ≤ cs.length := by
    rw [ho.clen, ← hn]
    have : (i.toNat + 1) * sz ≤ l.length * sz := Nat.mul_le_mul_right _ hil
    rw [Nat.add_mul] at this
    omega
  obtain ⟨w', hr, kw, hb'⟩ := storeVar_run (P := P) (cs := pre ++ cs ++ post) (o := pre.length + (i.toNat * sz + off)) (cs' := pre ++ (cs.take (i.toNat * sz + off) ++ cellsL v ++ cs.drop (i.toNat * sz + off + (cellsL v).length)) ++ post) ht hw h1 (by simp only [List.length_append]; omega) (by
    have e1 : (pre ++ cs ++ post).take (pre.length + (i.toNat * sz + off)) = pre ++ cs.take (i.toNat * sz + off) := by
      rw [List.append_assoc, List.take_append, Nat.add_sub_cancel_left, List.take_of_length_le (l := pre) (by omega), List.take_append_of_le_length (by omega)]
    have e2 : (pre ++ cs ++ post).drop (pre.length + (i.toNat * sz + off) + (cellsL v).length) = cs.drop (i.toNat * sz + off + (cellsL v).length) ++ post := by
      rw [List.append_assoc, Nat.add_assoc, List.drop_append, Nat.add_sub_cancel_left, List.drop_of_length_le (l := pre) (by omega), List.nil_append, List.drop_append_of_le_length (by omega)]
    rw [e1, e2]
    simp only [List.append_assoc])
  have hrun : (execOp aa.eval (⟨none, .store t x u, ty, none⟩ : OpX).oper).run P w = .ok .skip w' := by
    refine run_u (s := Instr.storeAt t (aa.eval x) (aa.eval u)) ?_
    rw [ev_sound hfi hx, ev_sound hfi hu]
    rcases hp with ⟨rfl, rfl⟩ | rfl
    · simp only [elemPtr, addr_add]
      exact hr
    · simp only [elemPtr, ptrAdd, addr_add, Nat.add_assoc] at hr ⊢
      exact hr
  unfold Oper.wp
  rw [hrun]
  refine hk _ hll ho' (va.len hll hcl) _ _ (hfi.put_none _) (hinv.set_s q hi (s' := .g (viewG (some g) T pre _ post)) (by simpa [OwnS.blocks, viewG] using kw) ?_ (by simp [OwnS.blocks, viewG]) (fun b hb => .inl (by simpa [OwnS.blocks, viewG] using hb)))
  intro g' hg'
  cases hg'
  exact hb'
theorem Inv.set_same {w : World} (h : Inv w0 S0 Fs bl sl w) (i : Nat) {s s' : OwnS} (hi : sl[i]? = some s) (hs : s'.holds w) (hnd : s'.blocks.Nodup) (hb : ∀ b ∈ s'.blocks, b ∈ s.blocks) : Inv w0 S0 Fs bl (sl.set i s') w :=
  h.set_s i hi (Keep.refl w _) hs hnd fun b h => .inl (hb b h)
theorem Cov.toV (q : Nat) {a : Option Addr} {n m T sz : Nat} {cs : List Value} (hi : sl[q]? = some (.s (.slice a n m) T sz n cs))
    (hk : ∀ b post, VA a b n m [] cs → VB a b n m sz post → Cov nt w0 S0 df ρ Fs bl (sl.set q (.g (viewG b T [] cs post))) K) : Cov nt w0 S0 df ρ Fs bl sl K := fun aa w hfi hinv => by
  have hown : w.ownsRow 0 T sz (.slice a n m) n cs := hinv.mem.slh _ (List.mem_of_getElem? hi)
  rcases hown.2 with ⟨hv, h0⟩ | ⟨g, cap, cur, hv, _, hg, hnc, hm2, hcs, htk⟩
  · cases hv
    have hc0 : cs = [] := List.eq_nil_of_length_eq_zero (by rw [hown.1]; simp)
    subst hc0
    exact hk none [] ⟨Nat.le_refl _, fun h => absurd rfl h⟩ (.inl ⟨rfl, rfl, rfl, rfl⟩) _ _ hfi (hinv.set_same q hi (s' := .g (viewG none T [] [] [])) (fun g hg => by cases hg) (by simp [OwnS.blocks, viewG]) (by simp [OwnS.blocks, viewG]))
  · cases hv
    have hcur : cur = ([] ++ cs ++ cur.toList.drop (n * sz)).toArray := by rw [← htk]; simp
    refine hk (some g) (cur.toList.drop (n * sz)) ⟨hnc, fun _ => ⟨g, rfl, rfl⟩⟩ (.inr ⟨g, rfl, rfl, hnc, hm2, ?_⟩) _ _ hfi (hinv.set_same q hi (s' := .g (viewG (some g) T [] cs (cur.toList.drop (n * sz)))) (fun g' hg' => ?_) (by simp [OwnS.blocks, viewG]) (by simp [OwnS.blocks, viewG, Value.ownBlock]))
    · have : n * sz ≤ m * sz := Nat.mul_le_mul_right _ hnc
      simp only [List.length_drop, Array.length_toList, hcs]; omega
    · cases hg'; rw [hg]; exact congrArg (fun c => some (Obj.cells c T (0, 0))) hcur
theorem Cov.ofV (q : Nat) {Q : Rep α} {a : Option Addr} {b : Option Nat} {n m T sz : Nat} {cs post : List Value} {l : List α} (hi : sl[q]? = some (.g (viewG b T [] cs post))) (vb : VB a b n m sz post) (hl : l.length = n) (ho : OL Q G cs l) (hn : sz = Q.sz)
    (hk : Cov nt w0 S0 df ρ Fs bl (sl.set q (.s (.slice a l.length m) T sz l.length cs)) K) : Cov nt w0 S0 df ρ Fs bl sl K := fun aa w hfi hinv => by
  subst hl
  have hh : (viewG b T [] cs post).holds w := hinv.mem.slh _ (List.mem_of_getElem? hi)
  have hcl := ho.clen
  rcases vb with ⟨rfl, rfl, h0, rfl⟩ | ⟨g, rfl, rfl, h1, h2, h3⟩
  · have hc0 : cs = [] := List.eq_nil_of_length_eq_zero (by rw [hcl, h0]; simp)
    refine hk _ _ hfi (hinv.set_same q hi (s' := .s (.slice none l.length 0) T sz l.length cs) ?_ (by simp [OwnS.blocks, Value.ownBlock]) (by simp [OwnS.blocks, Value.ownBlock]))
    rw [hc0, h0]
    exact World.ownsRow_nil w 0 T sz
  · refine hk _ _ hfi (hinv.set_same q hi (s' := .s (.slice (some ⟨g, 0, none⟩) l.length m) T sz l.length cs) ?_ (by simp [OwnS.blocks, Value.ownBlock]) (by simp [OwnS.blocks, Value.ownBlock, viewG]))
    refine ⟨by rw [hcl, hn], .inr ⟨g, m, _, rfl, Nat.zero_le _, hh g rfl, h1, h2, ?_, ?_⟩⟩
    · simp only [List.nil_append, List.size_toArray, List.length_append, hcl, ← hn]; exact h3
    · simp only [List.nil_append]
      exact List.take_left' (by rw [hcl, hn])
theorem SlR.rd {Q : Rep α} {G' : Hp} {a : Option Addr} {m T sz : Nat} {l : List α} {cs : List Value} (ho : OL Q G cs l) (hn : sz = Q.sz) (hle : HpLe G G') (h : Rd (.s (.slice a l.length m) T sz l.length cs) G') : SlR Q G' a m l := by
  obtain ⟨w, hh, hb⟩ := h
  have hown : w.ownsRow 0 T sz (.slice a l.length m) l.length cs := hh
  have hlb := ho.1
  obtain ⟨_, xs, rfl, h3, h4⟩ := ho
  have e1 : xs.length = l.length := h4.1
  refine ⟨by omega, xs, ⟨a, m, by rw [e1], ?_, fun x hx => h3 x hx, fun hne => ?_⟩, h4.mono hle⟩
  · rw [e1]
    rcases hown.2 with ⟨hv, h0⟩ | ⟨g, cap, cur, hv, _, hg, hnc, hm2, hcs, htk⟩
    · simp only [Value.slice.injEq] at hv; omega
    · simp only [Value.slice.injEq] at hv; omega
  · rcases hown.2 with ⟨hv, h0⟩ | ⟨g, cap, cur, hv, _, hg, hnc, hm2, hcs, htk⟩
    · rw [h0] at e1; exact absurd (List.eq_nil_of_length_eq_zero e1) hne
    · cases hv
      refine ⟨g, 0, rfl, fun i x hx j v hj => ?_⟩
      have := hb g (by simp [OwnS.blocks, Value.ownBlock])
      unfold rcell
      rw [this, hg]
      have hfl := get_flatten xs i x j v h3 hx hj
      have hlt : i * Q.sz + j < l.length * Q.sz := by
        have hi : i < xs.length := (List.getElem?_eq_some_iff.1 hx).1
        have hj' : j < Q.sz := by rw [← h3 x (List.mem_of_getElem? hx)]; exact (List.getElem?_eq_some_iff.1 hj).1
        have : (i + 1) * Q.sz ≤ l.length * Q.sz := Nat.mul_le_mul_right _ (by omega)
        rw [Nat.add_mul] at this
        omega
      rw [← htk, hn, List.getElem?_take_of_lt hlt] at hfl
      simpa using hfl
theorem RetW.flat {f : FuncId} {args : Array Value} {bin : Blks} {sin : List OwnS} {Q : Value → Blks → List OwnS → Hp → Prop} (h : RetW P f args Fs bin sin Q) : RetG P f args Fs bin sin fun v _ bo so => ∃ G2, Q v bo so G2 :=
  fun w h1 h2 h3 h4 h5 => (h w h1 h2 h3 h4 h5).mono fun _ w' ⟨Fr, bo, so, a, b, d⟩ => ⟨Fr, bo, so, a, b, whole w', d _ fun F hF x o hx => b.mem.fs F hF x o hx⟩
theorem Inv.lendB {w : World} {s1 sB s2 : List OwnS} (hi : Inv w0 S0 (G :: B) bl (s1 ++ (sB ++ s2)) w) : ∃ G', HpLe G G' ∧ (∀ s ∈ sB, Rd s G') ∧ Inv w0 S0 (G' :: G :: B) bl (s1 ++ s2) w ∧ (∀ Fin, Bd w0 S0 Fin G → Bd w0 S0 Fin G') ∧
    ∀ w' Fs2 bo so, Inv w0 S0 (Fs2 ++ G' :: G :: B) bo (so ++ s2) w' → Inv w0 S0 (G :: B) bo (so ++ (sB ++ s2)) w' := by
  classical
  let G' : Hp := fun b => if b ∈ sB.flatMap OwnS.blocks then w.heap[b]? else G b
  have hblk : ∀ b, b ∈ blks bl (s1 ++ (sB ++ s2)) ↔ b ∈ blks bl (s1 ++ s2) ∨ b ∈ sB.flatMap OwnS.blocks := fun b => by
    simp only [blks, List.flatMap_append, List.mem_append]
    constructor
    · rintro (h | h | h | h) <;> simp [h]
    · rintro ((h | h | h) | h) <;> simp [h]
  have hperm : (blks bl (s1 ++ (sB ++ s2))).Perm (sB.flatMap OwnS.blocks ++ blks bl (s1 ++ s2)) := by
    simp only [blks, List.flatMap_append]
    have e1 : (s1.flatMap OwnS.blocks ++ (sB.flatMap OwnS.blocks ++ s2.flatMap OwnS.blocks)).Perm (sB.flatMap OwnS.blocks ++ (s1.flatMap OwnS.blocks ++ s2.flatMap OwnS.blocks)) := by
      rw [← List.append_assoc, ← List.append_assoc]; exact List.perm_append_comm.append_right _
    exact (e1.append_left _).trans (List.perm_append_comm_assoc _ _ _)
  have hnd := List.nodup_append.1 (hperm.nodup_iff.1 hi.nodup)
  have hmine : ∀ b ∈ sB.flatMap OwnS.blocks, b ∈ blks bl (s1 ++ (sB ++ s2)) := fun b hb => (hblk b).2 (.inr hb)
  have hapG : ∀ b ∈ sB.flatMap OwnS.blocks, ∀ F ∈ G :: B, F b = none := fun b hb F hF => hi.apart b (hmine b hb) F hF
  have hle : HpLe G G' := fun b o hb => by
    show (if _ then _ else _) = _
    rw [if_neg fun h => by rw [hapG b h G List.mem_cons_self] at hb; cases hb]; exact hb
  have hG'w : HpIn G' w := fun b o hb => by
    have hb' : (if b ∈ sB.flatMap OwnS.blocks then w.heap[b]? else G b) = some o := hb
    split at hb'
    · exact hb'
    · exact hi.mem.fs G List.mem_cons_self b o hb'
  have hval : ∀ b ∈ sB.flatMap OwnS.blocks, G' b = w.heap[b]? := fun b hb => by show (if _ then _ else _) = _; rw [if_pos hb]
  have hhold : ∀ s ∈ sB, s.holds w := fun s hs => hi.mem.slh s (List.mem_append_right _ (List.mem_append_left _ hs))
  refine ⟨G', hle, fun s hs => ⟨w, hhold s hs, fun b hb => hval b (List.mem_flatMap.2 ⟨s, hs, hb⟩)⟩, ?_, fun Fin hbd b o hb => ?_, ?_⟩
  · refine hi.change [] (by simp) (Keep.refl w []) (fun F hF => ?_) hi.mem.own (fun s hs => hi.mem.slh s ?_) hnd.2.1 (fun b hb => .inl ((hblk b).2 (.inl hb)))
    · rcases List.mem_cons.1 hF with rfl | hF
      · refine .inr ⟨hG'w, fun b hb => ?_⟩
        have hn : b ∉ sB.flatMap OwnS.blocks := fun h => hnd.2.2 b h b hb rfl
        show (if _ then _ else _) = _
        rw [if_neg hn]
        exact hi.apart b ((hblk b).2 (.inl hb)) G List.mem_cons_self
      · exact .inl hF
    · rcases List.mem_append.1 hs with h | h
      · exact List.mem_append_left _ h
      · exact List.mem_append_right _ (List.mem_append_right _ h)
  · by_cases hm : b ∈ sB.flatMap OwnS.blocks
    · rcases hi.mine b (hmine b hm) with h | h
      · exact .inr (.inl h)
      · exact .inl h
    · refine hbd b o ?_
      have hb' : (if b ∈ sB.flatMap OwnS.blocks then w.heap[b]? else G b) = some o := hb
      rwa [if_neg hm] at hb'
  · intro w' Fs2 bo so hi'
    have hG'm : G' ∈ Fs2 ++ G' :: G :: B := List.mem_append_right _ List.mem_cons_self
    have hblk' : ∀ b, b ∈ blks bo (so ++ (sB ++ s2)) ↔ b ∈ blks bo (so ++ s2) ∨ b ∈ sB.flatMap OwnS.blocks := fun b => by
      simp only [blks, List.flatMap_append, List.mem_append]
      constructor
      · rintro (h | h | h | h) <;> simp [h]
      · rintro ((h | h | h) | h) <;> simp [h]
    have hperm' : (blks bo (so ++ (sB ++ s2))).Perm (sB.flatMap OwnS.blocks ++ blks bo (so ++ s2)) := by
      simp only [blks, List.flatMap_append]
      have e1 : (so.flatMap OwnS.blocks ++ (sB.flatMap OwnS.blocks ++ s2.flatMap OwnS.blocks)).Perm (sB.flatMap OwnS.blocks ++ (so.flatMap OwnS.blocks ++ s2.flatMap OwnS.blocks)) := by
        rw [← List.append_assoc, ← List.append_assoc]; exact List.perm_append_comm.append_right _
      exact (e1.append_left _).trans (List.perm_append_comm_assoc _ _ _)
    have hlt : ∀ b ∈ sB.flatMap OwnS.blocks, ∃ o, w.heap[b]? = some o := fun b hb => by
      obtain ⟨s, hs, hb⟩ := List.mem_flatMap.1 hb
      exact ⟨_, Array.getElem?_eq_getElem (OwnS.lt (hhold s hs) b hb)⟩
    have hsame : ∀ b ∈ sB.flatMap OwnS.blocks, w'.heap[b]? = w.heap[b]? := fun b hb => by
      obtain ⟨o, ho⟩ := hlt b hb
      rw [ho]; exact hi'.mem.fs G' hG'm b o (by rw [hval b hb]; exact ho)
    refine ⟨⟨fun F hF => hi'.mem.fs F (List.mem_append_right _ (List.mem_cons_of_mem _ hF)), hi'.mem.own, fun s hs => ?_⟩, hi'.keep, ?_, fun b hb => ?_, fun b hb F hF => ?_⟩
    · rcases List.mem_append.1 hs with h | h
      · exact hi'.mem.slh s (List.mem_append_left _ h)
      · rcases List.mem_append.1 h with h | h
        · exact OwnS.same (hhold s h) fun b hb => hsame b (List.mem_flatMap.2 ⟨s, h, hb⟩)
        · exact hi'.mem.slh s (List.mem_append_right _ h)
    · rw [hperm'.nodup_iff, List.nodup_append]
      refine ⟨hnd.1, hi'.nodup, fun a ha b hb e => ?_⟩
      subst e
      have h1 := hi'.apart a hb G' hG'm
      obtain ⟨o, ho⟩ := hlt a ha
      rw [hval a ha, ho] at h1
      cases h1
    · rcases (hblk' b).1 hb with h | h
      · exact hi'.mine b h
      · exact hi.mine b (hmine b h)
    · rcases (hblk' b).1 hb with h | h
      · exact hi'.apart b h F (List.mem_append_right _ (List.mem_cons_of_mem _ hF))
      · exact hapG b h F hF
theorem Cov.callB {b1 b2 : Blks} {s1 sB s2 : List OwnS} (vs cap : List Value) {d : Nat} {f : FuncId} {fop : Operand} {args : Array Operand} {ts : Array TypeId} {Q : Value → Blks → List OwnS → Prop} (hs : Stp P K' ⟨some d, .call ⟨.value fop, args, ts⟩, ty, none⟩ K)
    (hf : ev ρ fop = some (.func (.func f) #[] cap.toArray)) (ha : args.toList.map (ev ρ) = vs.map some) (hcall : ∀ args w, (callFunc f args).run P w = .ok (.enter f args) w) (hbl : bl = b1 ++ b2) (hsl : sl = s1 ++ (sB ++ s2))
    (hr : ∀ Fs' G', HpLe G G' → (∀ s ∈ sB, Rd s G') → G' ∈ Fs' → RetG P f (vs ++ cap).toArray Fs' b1 s1 (fun v _ bo so => Q v bo so)) (hd : Nat.blt d nt = true)
    (hk : ∀ v bo so, Q v bo so → Cov nt w0 S0 df ((d, v) :: ρ) (G :: B) (bo ++ b2) (so ++ (sB ++ s2)) K) : Cov nt w0 S0 df ρ (G :: B) bl sl K' := fun a w hfi hi => by
  subst hsl
  obtain ⟨G', hle, hrd, hi2, _, hback⟩ := hi.lendB
  exact Cov.callg vs cap hs hf ha hcall hbl rfl (hr (G' :: G :: B) G' hle hrd List.mem_cons_self) hd (fun v Fr bo so _ hq a' w' hf' hi' => hk v bo so hq a' w' hf' (hback w' [Fr] _ _ hi')) a w hfi hi2
end
end Go.Proofs.Ytmfppphlhgneeaa
end

section
namespace Go.Proofs.Ytmfppphlhgneeaa
open Go.RowKit
structure NE where
  a : Option Addr
  n : Nat
  k : Nat
  cs : List Value
def NE.nil : NE := ⟨none, 0, 0, []⟩
def NE.h (e : NE) : Option Addr × Nat × Nat := (e.a, e.n, e.k)
def NE.s (T : TypeId) (m : Nat) (e : NE) : OwnS := .s (.slice e.a e.n e.k) T m e.n e.cs
def nblks (T : TypeId) (m : Nat) (es : List NE) : List Nat := es.flatMap fun e => (e.s T m).blocks
def packG (T : TypeId) (m : Nat) (es : List NE) : Guest where
  blks := if (nblks T m es).Nodup then nblks T m es else []
  nodup := by split; assumption; simp
  holds w := (nblks T m es).Nodup ∧ ∀ e ∈ es, (e.s T m).holds w
  lt w h b hb := by
    rw [if_pos h.1] at hb
    obtain ⟨e, he, hb⟩ := List.mem_flatMap.1 hb
    exact OwnS.lt (h.2 e he) b hb
  same w w' h hs := ⟨h.1, fun e he => OwnS.same (h.2 e he) fun b hb => hs b (by rw [if_pos h.1]; exact List.mem_flatMap.2 ⟨e, he, hb⟩)⟩
def Rep.hdr : Rep (Option Addr × Nat × Nat) where
  sz := 1
  r _ c x := c = [.slice x.1 x.2.1 x.2.2]
  len h := by rw [h]; rfl
  mono _ h := h
  one h := by rw [h]; rfl
def NL {α : Type} (Q : Rep α) (G : Hp) (es : List NE) (cs : List Value) (x : List (List α)) : Prop :=
  OL Rep.hdr G cs (es.map NE.h) ∧ es.length = x.length ∧ ∀ (i : Nat) (e : NE) (y : List α), es[i]? = some e → x[i]? = some y → e.n = y.length ∧ OL Q G e.cs y
theorem NL.mono {α : Type} {Q : Rep α} {G G' : Hp} {es : List NE} {cs : List Value} {x : List (List α)} (hg : HpLe G G') (h : NL Q G es cs x) : NL Q G' es cs x :=
  ⟨h.1.mono hg, h.2.1, fun i e y h1 h2 => ⟨(h.2.2 i e y h1 h2).1, (h.2.2 i e y h1 h2).2.mono hg⟩⟩
theorem Rep.flat_hdr : Rep.hdr.flat := fun _ _ _ _ h => h
theorem NL.flat {α : Type} {Q : Rep α} (hf : Q.flat) {G G' : Hp} {es : List NE} {cs : List Value} {x : List (List α)} (h : NL Q G' es cs x) : NL Q G es cs x :=
  ⟨OL.flat Rep.flat_hdr h.1, h.2.1, fun i e y h1 h2 => ⟨(h.2.2 i e y h1 h2).1, OL.flat hf (h.2.2 i e y h1 h2).2⟩⟩
theorem NL.len' {α : Type} {Q : Rep α} {G : Hp} {es : List NE} {cs : List Value} {x : List (List α)} (h : NL Q G es cs x) : x.length ≤ 9223372036854775807 := by
  have := h.1.len'; rw [List.length_map, h.2.1] at this; exact this
theorem NL.get {α : Type} {Q : Rep α} {G : Hp} {es : List NE} {cs : List Value} {x : List (List α)} (h : NL Q G es cs x) {i : Int} {y : List α} (hx : lidx x i = some y) :
    ∃ e, es[i.toNat]? = some e ∧ e.n = y.length ∧ OL Q G e.cs y ∧ Elem 1 cs i.toNat [.slice e.a y.length e.k] := by
  obtain ⟨h3, h4, h5⟩ := lidx_some hx
  have hlt : i.toNat < es.length := by rw [h.2.1]; omega
  have he : es[i.toNat]? = some es[i.toNat] := List.getElem?_eq_getElem hlt
  obtain ⟨hn, ho⟩ := h.2.2 _ _ _ he h5
  refine ⟨es[i.toNat], he, hn, ho, ?_⟩
  obtain ⟨c, hc1, hc2⟩ := h.1.get (i := i) (x := es[i.toNat].h) (by
    unfold lidx
    rw [if_pos h3, List.getElem?_map, he]; rfl)
  have : c = [.slice es[i.toNat].a es[i.toNat].n es[i.toNat].k] := hc2
  rw [this, hn] at hc1
  exact hc1
section
variable {P : Program} {c : Cx} {R : Value → World → Prop} {nt : Nat} {w0 : World} {S0 : List Nat} {df : List Deferred} {ρ ρ' : Env} {Fs Fs' Fin B : List Hp} {bl bl' : Blks} {sl sl' : List OwnS}
  {K K' : Act → World → Prop} {k : List Item} {ty : TypeId} {α : Type} {G : Hp}
theorem QOp.inN (q : Nat) {T : TypeId} {m : Nat} {es : List NE} {i : Nat} {e : NE} {n : Nat} {op : Op} {v : Value} (hs : sl[q]? = some (.g (packG T m es))) (he : es[i]? = some e) (hn : e.n = n)
    (h : QOp P ρ Fs bl [.s (.slice e.a n e.k) T m n e.cs] op ty v) : QOp P ρ Fs bl sl op ty v := fun nt df a w hf hm => by
  subst hn
  refine h nt df a w hf ⟨hm.fs, hm.own, fun s hs' => ?_⟩
  rw [List.mem_singleton.1 hs']
  exact (hm.slh _ (List.mem_of_getElem? hs)).2 e (List.mem_of_getElem? he)
theorem nil_s (T : TypeId) (m : Nat) : (NE.nil.s T m).blocks = [] := rfl
theorem nil_holds (w : World) (T : TypeId) (m : Nat) : (NE.nil.s T m).holds w := World.ownsRow_nil w 0 T m
theorem nblks_set (T : TypeId) (m : Nat) : ∀ (es : List NE) (i : Nat) (e e' : NE), es[i]? = some e → ((nblks T m (es.set i e')) ++ (e.s T m).blocks).Perm ((e'.s T m).blocks ++ nblks T m es)
  | [], i, e, e', h => by simp at h
  | x :: es, 0, e, e', h => by
    simp at h; subst h
    simp only [List.set_cons_zero, nblks, List.flatMap_cons]
    rw [List.append_assoc]
    exact List.Perm.append_left _ List.perm_append_comm
  | x :: es, i + 1, e, e', h => by
    have ih := nblks_set T m es i e e' (by simpa using h)
    simp only [List.set_cons_succ, nblks, List.flatMap_cons] at ih ⊢
    rw [List.append_assoc]
    exact (ih.append_left _).trans (List.perm_append_comm_assoc _ _ _)
theorem Cov.takeN (q : Nat) {T : TypeId} {m : Nat} {es : List NE} {i : Nat} {e : NE} {n : Nat} (hs : sl[q]? = some (.g (packG T m es))) (he : es[i]? = some e) (hn : e.n = n)
    (h : Cov nt w0 S0 df ρ Fs bl (.s (.slice e.a n e.k) T m n e.cs :: sl.set q (.g (packG T m (es.set i NE.nil)))) K) : Cov nt w0 S0 df ρ Fs bl sl K := fun aa w hf hi => by
  subst hn
  have hh : (packG T m es).holds w := hi.mem.slh _ (List.mem_of_getElem? hs)
  have hp := nblks_set T m es i e NE.nil he
  rw [nil_s, List.nil_append] at hp
  have hnd := hp.nodup_iff.2 hh.1
  have hnd2 := List.nodup_append.1 hnd
  have hb1 : (packG T m es).blks = nblks T m es := if_pos hh.1
  have hb2 : (packG T m (es.set i NE.nil)).blks = nblks T m (es.set i NE.nil) := if_pos hnd2.1
  have hp1 : (blks bl sl).Perm ((packG T m es).blks ++ blks bl (sl.eraseIdx q)) := by
    have h1 := ((perm_erase sl q _ hs).flatMap_right OwnS.blocks).append_left (bl.map (·.1))
    refine h1.trans ?_
    simp only [List.flatMap_cons, blks]
    exact List.perm_append_comm_assoc _ _ _
  have hp2 : (blks bl (.s (.slice e.a e.n e.k) T m e.n e.cs :: sl.set q (.g (packG T m (es.set i NE.nil))))).Perm (blks bl sl) := by
    refine List.Perm.trans ?_ hp1.symm
    simp only [blks, List.flatMap_cons]
    have h1 := (set_perm_flat OwnS.blocks sl q _ (.g (packG T m (es.set i NE.nil))) hs).append_left ((e.s T m).blocks)
    have h2 : ((e.s T m).blocks ++ (OwnS.blocks (.g (packG T m (es.set i NE.nil))) ++ (sl.eraseIdx q).flatMap OwnS.blocks)).Perm ((packG T m es).blks ++ (sl.eraseIdx q).flatMap OwnS.blocks) := by
      rw [← List.append_assoc]
      refine List.Perm.append_right _ ?_
      show ((e.s T m).blocks ++ (packG T m (es.set i NE.nil)).blks).Perm _
      rw [hb1, hb2]
      exact List.perm_append_comm.trans hp
    exact ((h1.trans h2).append_left _).trans (List.perm_append_comm_assoc _ _ _)
  refine h aa w hf (hi.change [] (by simp) (Keep.refl w []) (fun G hG => .inl hG) hi.mem.own (fun s hs' => ?_) (hp2.nodup_iff.2 hi.nodup) (fun b hb => .inl (hp2.mem_iff.1 hb)))
  rcases List.mem_cons.1 hs' with rfl | hs'
  · exact hh.2 e (List.mem_of_getElem? he)
  · obtain ⟨j, hj, rfl⟩ := List.getElem_of_mem hs'
    rw [List.getElem_set]
    split
    · refine ⟨hnd2.1, fun x hx => ?_⟩
      rcases List.mem_or_eq_of_mem_set hx with hx | rfl
      · exact hh.2 x hx
      · exact nil_holds w T m
    · exact hi.mem.slh _ (List.getElem_mem (by simpa using hj))
theorem Cov.putN (q : Nat) {T : TypeId} {m : Nat} {es : List NE} {i : Nat} {a : Option Addr} {n kk : Nat} {cs : List Value} {s2 : List OwnS} (hsl : sl = .s (.slice a n kk) T m n cs :: s2) (hs : s2[q]? = some (.g (packG T m es))) (he : es[i]? = some NE.nil)
    (h : Cov nt w0 S0 df ρ Fs bl (s2.set q (.g (packG T m (es.set i ⟨a, n, kk, cs⟩)))) K) : Cov nt w0 S0 df ρ Fs bl sl K := fun aa w hf hi => by
  subst hsl
  have hh : (packG T m es).holds w := hi.mem.slh _ (List.mem_cons_of_mem _ (List.mem_of_getElem? hs))
  have ho : (OwnS.s (.slice a n kk) T m n cs).holds w := hi.mem.slh _ List.mem_cons_self
  have hp := nblks_set T m es i NE.nil ⟨a, n, kk, cs⟩ he
  rw [nil_s, List.append_nil] at hp
  have hb1 : (packG T m es).blks = nblks T m es := if_pos hh.1
  have hq : (blks bl (.s (.slice a n kk) T m n cs :: s2)).Perm (nblks T m (es.set i ⟨a, n, kk, cs⟩) ++ blks bl (s2.eraseIdx q)) := by
    simp only [blks, List.flatMap_cons]
    have h1 := ((perm_erase s2 q _ hs).flatMap_right OwnS.blocks).append_left ((OwnS.s (.slice a n kk) T m n cs).blocks)
    simp only [List.flatMap_cons] at h1
    rw [← List.append_assoc (OwnS.blocks _) (OwnS.blocks (.g (packG T m es)))] at h1
    have h2 : ((OwnS.s (.slice a n kk) T m n cs).blocks ++ OwnS.blocks (.g (packG T m es))).Perm (nblks T m (es.set i ⟨a, n, kk, cs⟩)) := by
      show (_ ++ (packG T m es).blks).Perm _
      rw [hb1]; exact hp.symm
    exact ((h1.trans (h2.append_right _)).append_left _).trans (List.perm_append_comm_assoc _ _ _)
  have hnd := hq.nodup_iff.1 hi.nodup
  have hnd1 := (List.nodup_append.1 hnd).1
  have hb2 : (packG T m (es.set i ⟨a, n, kk, cs⟩)).blks = nblks T m (es.set i ⟨a, n, kk, cs⟩) := if_pos hnd1
  have hp2 : (blks bl (s2.set q (.g (packG T m (es.set i ⟨a, n, kk, cs⟩))))).Perm (blks bl (.s (.slice a n kk) T m n cs :: s2)) := by
    refine List.Perm.trans ?_ hq.symm
    simp only [blks]
    have h1 := (set_perm_flat OwnS.blocks s2 q _ (.g (packG T m (es.set i ⟨a, n, kk, cs⟩))) hs)
    have h2 : OwnS.blocks (.g (packG T m (es.set i ⟨a, n, kk, cs⟩))) = nblks T m (es.set i ⟨a, n, kk, cs⟩) := hb2
    rw [h2] at h1
    exact (h1.append_left _).trans (List.perm_append_comm_assoc _ _ _)
  refine h aa w hf (hi.change [] (by simp) (Keep.refl w []) (fun G hG => .inl hG) hi.mem.own (fun s hs' => ?_) (hp2.nodup_iff.2 hi.nodup) (fun b hb => .inl (hp2.mem_iff.1 hb)))
  obtain ⟨j, hj, rfl⟩ := List.getElem_of_mem hs'
  rw [List.getElem_set]
  split
  · refine ⟨hnd1, fun x hx => ?_⟩
    rcases List.mem_or_eq_of_mem_set hx with hx | rfl
    · exact hh.2 x hx
    · exact ho
  · exact hi.mem.slh _ (List.mem_cons_of_mem _ (List.getElem_mem (by simpa using hj)))
theorem nblks_nil (T : TypeId) (m : Nat) : ∀ n, nblks T m (List.replicate n NE.nil) = []
  | 0 => rfl
  | n + 1 => by
    have := nblks_nil T m n
    unfold nblks at this ⊢
    rw [List.replicate_succ, List.flatMap_cons, nil_s, List.nil_append]; exact this
theorem Cov.pack0 (T : TypeId) (m n : Nat) (h : Cov nt w0 S0 df ρ Fs bl (.g (packG T m (List.replicate n NE.nil)) :: sl) K) : Cov nt w0 S0 df ρ Fs bl sl K := fun aa w hf hi => by
  have hb0 := nblks_nil T m n
  have hb : blks bl (.g (packG T m (List.replicate n NE.nil)) :: sl) = blks bl sl := by
    have : (packG T m (List.replicate n NE.nil)).blks = [] := by show (if _ then _ else _) = _; rw [hb0]; simp
    simp only [blks, List.flatMap_cons, OwnS.blocks, this, List.nil_append]
  refine h aa w hf (hi.change [] (by simp) (Keep.refl w []) (fun G hG => .inl hG) hi.mem.own (fun s hs => ?_) (by rw [hb]; exact hi.nodup) (fun b hx => .inl (by rwa [hb] at hx)))
  rcases List.mem_cons.1 hs with rfl | hs
  · refine ⟨by rw [hb0]; simp, fun e he => ?_⟩
    rw [(List.mem_replicate.1 he).2]; exact nil_holds w T m
  · exact hi.mem.slh s hs
theorem Cov.makeN {Q : Rep α} (T : TypeId) (m : Nat) {d : Nat} {t el : TypeId} {x y : Operand} {n : Int} {agg : Bool} {bytes : Nat} {l : List (List α)} (hs : Stp P K' ⟨some d, .makeSlice t x y, ty, none⟩ K) (ht : slOf P t = some el) (hel : TyI P el agg 1 bytes [.slice none 0 0])
    (hx : ev ρ x = some (.int .i64 n)) (hy : ev ρ y = some (.int .i64 n)) (hl : lmk n ([] : List α) = some l) (hby : Nat.ble bytes 8388608 = true) (hd : Nat.blt d nt = true)
    (hk : ∀ b es cs, w0.heap.size ≤ b → NL Q G es cs l → Cov nt w0 S0 df ((d, .slice (some ⟨b, 0, none⟩) l.length l.length) :: ρ) Fs bl (.s (.slice (some ⟨b, 0, none⟩) l.length l.length) el 1 l.length cs :: .g (packG T m es) :: sl) K) : Cov nt w0 S0 df ρ Fs bl sl K' := by
  obtain ⟨h0, h1, rfl⟩ := lmk_some hl
  refine Cov.pack0 T m n.toNat ?_
  refine Cov.makeR (G := G) (Q := Rep.hdr) (zx := (none, 0, 0)) (l := List.replicate n.toNat (none, 0, 0)) hs ht hel rfl rfl rfl rfl hx hy ?_ hby hd fun b cs hb ho => ?_
  · unfold lmk at hl ⊢
    split at hl
    · rename_i hh; rw [if_pos hh]
    · cases hl
  · have hk' := hk b (List.replicate n.toNat NE.nil) cs hb ⟨by rw [List.map_replicate]; exact ho, by simp, fun i e z h1 h2 => by
      rw [List.getElem?_replicate] at h1 h2
      split at h1
      · rename_i hh; rw [if_pos hh] at h2; cases h1; cases h2; exact ⟨rfl, OL.nil⟩
      · cases h1⟩
    simpa using hk'
theorem NL.set {Q : Rep α} {es : List NE} {cs cs' : List Value} {x x' : List (List α)} {i : Int} {y : List α} {e : NE} (h : NL Q G es cs x) (hl : lupd x i y = some x') (hn : e.n = y.length) (ho : OL Q G e.cs y) (hc : OL Rep.hdr G cs' ((es.map NE.h).set i.toNat e.h)) : NL Q G (es.set i.toNat e) cs' x' := by
  obtain ⟨hi0, hil, rfl⟩ := lupd_some hl
  refine ⟨by rw [List.map_set]; exact hc, by simp [h.2.1], fun j e' y' h1 h2 => ?_⟩
  rw [List.getElem?_set] at h1 h2
  by_cases hij : i.toNat = j
  · subst hij
    have := h.2.1
    rw [if_pos rfl, if_pos (by omega)] at h1
    rw [if_pos rfl, if_pos (by omega)] at h2
    cases h1; cases h2
    exact ⟨hn, ho⟩
  · rw [if_neg hij] at h1 h2
    exact h.2.2 j e' y' h1 h2
theorem NL.hole {es : List NE} {i : Nat} {e : NE} (he : es[i]? = some e) : (es.set i NE.nil)[i]? = some NE.nil := by
  rw [List.getElem?_set, if_pos rfl, if_pos (List.getElem?_eq_some_iff.1 he).1]
theorem Cov.storeN (q1 q2 : Nat) {Q : Rep α} {oa : Option Addr} {om T0 T m : Nat} {x x' : List (List α)} {es : List NE} {cs ics : List Value} {i : Int} {y : List α} {a : Option Addr} {kk : Nat} {t : TypeId} {px u : Operand} {p : Value} {agg : Bool} {bytes : Nat} {z : List Value} {s2 : List OwnS} {e : NE} (hs : Stp P K' ⟨none, .store t px u, ty, none⟩ K)
    (hsl : sl = .s (.slice a y.length kk) T m y.length ics :: s2) (h1 : s2[q1]? = some (.s (.slice oa x.length om) T0 1 x.length cs)) (h2 : s2[q2]? = some (.g (packG T m (es.set i.toNat NE.nil)))) (hN : NL Q G es cs x) (he : es[i.toNat]? = some e) (ho : OL Q G ics y) (hl : lupd x i y = some x')
    (hx : ev ρ px = some p) (hp : PtrO p oa x.length om i.toNat 1 0) (hu : ev ρ u = some (.slice a y.length kk)) (ht : TyI P t agg 1 bytes z) (hq : (q1 == q2) = false)
    (hk : ∀ es' cs', x'.length = x.length → NL Q G es' cs' x' → Cov nt w0 S0 df ρ Fs bl ((s2.set q1 (.s (.slice oa x'.length om) T0 1 x'.length cs')).set q2 (.g (packG T m es'))) K) : Cov nt w0 S0 df ρ Fs bl sl K' := by
  refine Cov.putN q2 hsl h2 (NL.hole he) ?_
  have hq' : q1 ≠ q2 := by simpa using hq
  have e1 : x.length = (es.map NE.h).length := by rw [List.length_map, hN.2.1]
  have hlen : x'.length = x.length := by obtain ⟨_, _, rfl⟩ := lupd_some hl; simp
  obtain ⟨hi0, hil, _⟩ := lupd_some hl
  have hilt : i.toNat < es.length := by have := hN.2.1; omega
  have hel : Elem 1 cs i.toNat [.slice e.a e.n e.k] := by
    obtain ⟨c, hc1, hc2⟩ := hN.1.get (i := i) (x := e.h) (by
      unfold lidx
      rw [if_pos hi0, List.getElem?_map, he]; rfl)
    have : c = [.slice e.a e.n e.k] := hc2
    rwa [this] at hc1
  refine Cov.storeR q1 0 (Q := Rep.hdr) (y := (a, y.length, kk)) (l := es.map NE.h) (l' := (es.map NE.h).set i.toNat (a, y.length, kk)) (sz := 1) hs (by rw [List.getElem?_set_ne (Ne.symm hq'), h1, e1]) rfl hN.1 ?_ hx (by rw [← e1]; exact hp) hu ht hel ?_ rfl rfl fun cs' hll ho' => ?_
  · unfold lupd
    rw [if_pos ⟨hi0, by rw [← e1]; exact hil⟩]
  · show _ = [_]
    simp [cellsL, Value.cells]
  · have hN' : NL Q G (es.set i.toNat ⟨a, y.length, kk, ics⟩) cs' x' := hN.set hl rfl ho (by simpa [NE.h] using ho')
    have hk' := hk _ cs' hlen hN'
    have e2 : ((es.map NE.h).set i.toNat (a, y.length, kk)).length = x'.length := by rw [List.length_set, ← e1, hlen]
    rw [e2]
    rw [List.set_set] at *
    rw [List.set_comm _ _ hq']  at hk'
    exact hk'
theorem Cov.backN (q1 q : Nat) {Q : Rep α} {oa : Option Addr} {om T0 T m : Nat} {x x' : List (List α)} {es : List NE} {cs ics : List Value} {i : Int} {y : List α} {s2 : List OwnS} {e : NE} (hsl : sl = .s (.slice e.a y.length e.k) T m y.length ics :: s2) (h1 : s2[q1]? = some (.s (.slice oa x.length om) T0 1 x.length cs)) (h2 : s2[q]? = some (.g (packG T m (es.set i.toNat NE.nil)))) (hN : NL Q G es cs x) (he : es[i.toNat]? = some e) (hn : y.length = e.n) (ho : OL Q G ics y) (hl : lupd x i y = some x')
    (hk : ∀ es', x'.length = x.length → NL Q G es' cs x' → Cov nt w0 S0 df ρ Fs bl ((s2.set q1 (.s (.slice oa x'.length om) T0 1 x'.length cs)).set q (.g (packG T m es'))) K) : Cov nt w0 S0 df ρ Fs bl sl K := by
  refine Cov.putN q hsl h2 (NL.hole he) ?_
  have hlen : x'.length = x.length := by obtain ⟨_, _, rfl⟩ := lupd_some hl; simp
  have hN' : NL Q G (es.set i.toNat ⟨e.a, y.length, e.k, ics⟩) cs x' := hN.set hl rfl ho (by
    have : (es.map NE.h).set i.toNat (NE.h ⟨e.a, y.length, e.k, ics⟩) = es.map NE.h := by
      have h3 : (es.map NE.h)[i.toNat]? = some (NE.h ⟨e.a, y.length, e.k, ics⟩) := by rw [List.getElem?_map, he]; simp [NE.h, hn]
      obtain ⟨hlt, h4⟩ := List.getElem?_eq_some_iff.1 h3
      rw [← h4]; exact List.set_getElem_self hlt
    rw [this]; exact hN.1)
  have hk' := hk _ hlen hN'
  have hs : s2.set q1 (.s (.slice oa x'.length om) T0 1 x'.length cs) = s2 := by
    obtain ⟨hlt, h4⟩ := List.getElem?_eq_some_iff.1 h1
    rw [hlen, ← h4]; exact List.set_getElem_self hlt
  rw [hs] at hk'
  rw [List.set_set]
  exact hk'
theorem Rd.entry {T m : Nat} {es : List NE} {G' : Hp} (h : Rd (.g (packG T m es)) G') {e : NE} (he : e ∈ es) : Rd (e.s T m) G' := by
  obtain ⟨w, hh, hb⟩ := h
  exact ⟨w, hh.2 e he, fun b hbe => hb b (by
    show b ∈ (if _ then _ else _)
    rw [if_pos hh.1]; exact List.mem_flatMap.2 ⟨e, he, hbe⟩)⟩
theorem SlR.rdN {Q : Rep α} {G' : Hp} {a : Option Addr} {kk T0 T m : Nat} {x : List (List α)} {es : List NE} {cs : List Value} (hN : NL Q G es cs x) (hm : m = Q.sz) (hle : HpLe G G') (h1 : Rd (.s (.slice a x.length kk) T0 1 x.length cs) G') (h2 : Rd (.g (packG T m es)) G') : SlR (Rep.sl Q) G' a kk x := by
  refine SlR.rd (G := G') (T := T0) ?_ rfl (HpLe.refl _) h1
  obtain ⟨⟨hb, xs, rfl, h3, h4⟩, h5, h6⟩ := hN
  rw [List.length_map] at hb
  refine ⟨by omega, xs, rfl, h3, by rw [h4.1, List.length_map, h5], fun i c y hc hy => ?_⟩
  have hlt : i < es.length := by rw [h5]; exact (List.getElem?_eq_some_iff.1 hy).1
  have he : es[i]? = some es[i] := List.getElem?_eq_getElem hlt
  obtain ⟨hn, ho⟩ := h6 i _ y he hy
  have hc' : c = [.slice es[i].a es[i].n es[i].k] := h4.2 i c es[i].h hc (by rw [List.getElem?_map, he]; rfl)
  refine ⟨es[i].a, es[i].k, by rw [hc', hn], ?_⟩
  have hr := h2.entry (List.getElem_mem hlt)
  unfold NE.s at hr
  rw [hn] at hr
  exact SlR.rd ho hm hle hr
theorem Cov.freezeN {Q : Rep α} {a : Option Addr} {kk T0 T m : Nat} {x : List (List α)} {es : List NE} {cs : List Value} {s2 : List OwnS} (hsl : sl = .s (.slice a x.length kk) T0 1 x.length cs :: .g (packG T m es) :: s2) (hN : NL Q G es cs x) (hm : m = Q.sz) (hB : Bd w0 S0 B G)
    (hk : ∀ G', HpLe G G' → Bd w0 S0 B G' → SlR (Rep.sl Q) G' a kk x → Cov nt w0 S0 df ρ (G' :: B) bl s2 K) : Cov nt w0 S0 df ρ (G :: B) bl sl K := fun aa w hf hi => by
  subst hsl
  have hi' : Inv w0 S0 (G :: B) bl ([] ++ ([.s (.slice a x.length kk) T0 1 x.length cs, .g (packG T m es)] ++ s2)) w := hi
  obtain ⟨G', hle, hrd, hi2, hbd, _⟩ := hi'.lendB
  refine Cov.less (Fs' := G' :: B) ?_ (hk G' hle (hbd B hB) (SlR.rdN hN hm hle (hrd _ List.mem_cons_self) (hrd _ (List.mem_cons_of_mem _ List.mem_cons_self)))) aa w hf hi2
  intro F hF
  rcases List.mem_cons.1 hF with rfl | hF
  · exact List.mem_cons_self
  · exact List.mem_cons_of_mem _ (List.mem_cons_of_mem _ hF)
end
end Go.Proofs.Ytmfppphlhgneeaa
end

section
namespace Go.Proofs.Ytmfppphlhgneeaa
open Go.RowKit
set_option linter.unusedVariables false
theorem SlR.cells {α : Type} {Q : Rep α} {G : Hp} {a : Option Addr} {k : Nat} {l : List α} (h : SlR Q G a k l) : ∃ xs : List (List Value), (∀ x ∈ xs, x.length = Q.sz) ∧ RL Q G xs l ∧ (a = none → l = []) ∧
    ∀ w, HpIn G w → ∀ ad, a = some ad → ∀ (j : Nat) u, xs.flatten[j]? = some u → w.cell? (ad.add j) = some u := by
  have hnil : a = none → l = [] := fun e => h.isnil (by simp [e])
  obtain ⟨_, xs, ⟨a', cap, hv, hc, hsz, hcc⟩, hrl⟩ := h
  simp only [Value.slice.injEq] at hv
  obtain ⟨rfl, hlen, rfl⟩ := hv
  refine ⟨xs, hsz, hrl, hnil, fun w hw ad had j u hj => ?_⟩
  have hne : xs ≠ [] := by rintro rfl; simp at hj
  obtain ⟨b, o, hb, hcell⟩ := hcc hne
  rw [had] at hb
  cases hb
  have hfl := flat_len hsz
  have hlt : j < xs.length * Q.sz := by rw [← hfl]; exact (List.getElem?_eq_some_iff.1 hj).1
  have hpos : 0 < Q.sz := by
    rcases Nat.eq_zero_or_pos Q.sz with h | h
    · rw [h] at hlt; omega
    · exact h
  have hq : j / Q.sz < xs.length := Nat.div_lt_of_lt_mul (by rw [Nat.mul_comm]; exact hlt)
  have hm : j % Q.sz < Q.sz := Nat.mod_lt _ hpos
  have hxq : xs[j / Q.sz]? = some xs[j / Q.sz] := List.getElem?_eq_getElem hq
  have hl2 := hsz _ (List.getElem_mem hq)
  have hg := get_flatten xs (j / Q.sz) _ (j % Q.sz) ((xs[j / Q.sz])[j % Q.sz]'(by omega)) hsz hxq (List.getElem?_eq_getElem _)
  have hdm : j / Q.sz * Q.sz + j % Q.sz = j := by rw [Nat.mul_comm]; exact Nat.div_add_mod j Q.sz
  rw [hdm] at hg
  rw [hg] at hj
  have := hcell (j / Q.sz) _ hxq (j % Q.sz) u (by rw [List.getElem?_eq_getElem (by omega)]; exact hj)
  rw [Nat.add_assoc, hdm] at this
  rw [addr_add]
  exact hw.cell this
section
variable {P : Program} {c : Cx} {R : Value → World → Prop} {nt : Nat} {w0 : World} {S0 : List Nat} {df : List Deferred} {ρ ρ' : Env} {Fs Fs' Fin B : List Hp} {bl bl' : Blks} {sl sl' : List OwnS}
  {K K' : Act → World → Prop} {k : List Item} {ty : TypeId} {α : Type} {G : Hp}
end
end Go.Proofs.Ytmfppphlhgneeaa
end

section
namespace Go.Proofs.Ytmfppphlhgneeaa
open Go.RowKit
variable {P : Program} {ρ : Env} {Fs : List Hp} {bl : Blks} {sl : List OwnS} {ty : TypeId}
theorem QOp.shrw {t u : TypeId} {x y : Operand} {k k' : IntKind} {m n : Int} (hx : ev ρ x = some (.int k m)) (hy : ev ρ y = some (.int k' n)) (hn : 0 ≤ n) : QOp P ρ Fs bl sl (.binOp .shr t x y u) ty (.int k (shrI k m n)) :=
  .bin hx hy fun w => by
    have h1 : (eqGuard .shr t x y (.int k m) (.int k' n)).run P w = .ok () w := rfl
    rw [Sem.run_bind, h1]
    simp only [Result.andThen_ok]
    have : Op.shift .shr k m k' n = pure (.int k (shrI k m n)) := by
      unfold Op.shift shrI; rw [if_neg (by omega)]
    simp only [binOp]
    rw [this]
    rfl
end Go.Proofs.Ytmfppphlhgneeaa
end

section
namespace Go.Proofs.Ytmfppphlhgneeaa
open Go.RowKit
set_option linter.unusedVariables false
def PartV (a : Option Addr) (sz : Nat) (v : Value) (i len : Nat) : Prop := ∃ a' c', v = .slice a' len c' ∧ len ≤ c' ∧ (len ≠ 0 → ∀ g, a = some ⟨g, 0, none⟩ → a' = some ⟨g, i * sz, none⟩)
theorem PartV.whole {a : Option Addr} {sz n m : Nat} (h : n ≤ m) : PartV a sz (.slice a n m) 0 n := ⟨a, m, rfl, h, fun _ g e => by rw [e]; simp⟩
theorem PartV.sub {a : Option Addr} {sz : Nat} {v : Value} {i len : Nat} (h : PartV a sz v i len) {i' j' : Nat} (h1 : i' ≤ j') (h2 : j' ≤ len) : PartV a sz (subV v i' j' sz) (i + i') (j' - i') := by
  obtain ⟨a', c', rfl, hc, ha⟩ := h
  refine ⟨_, _, rfl, by omega, fun hne g e => ?_⟩
  have := ha (by omega) g e
  subst this
  rw [if_neg (by omega)]
  simp [addr_add, Nat.add_mul]
theorem run_copy_gen {P : Program} (w : World) (dT sT ty elem : TypeId) (sz g o dLen dCap sLen : Nat) (s : Value) (cur : Array Value) (t : TypeId) (cs : List Value)
    (hu : P.underlying dT = some (.slice elem)) (hs : szOf P elem = some sz) (hg : w.heap[g]? = some (.cells cur t (0, 0))) (hl : (Builtin.lenOf s).run P w = .ok sLen w)
    (hf : (Builtin.firstCells sz (Nat.min sLen dLen) s).run P w = .ok cs.toArray w) (hfit : o + cs.length ≤ cur.size) (h1 : ∀ v ∈ cs, v.oneCell' = true) :
    (Builtin.copy_ #[dT, sT] ty #[.slice (some ⟨g, o, none⟩) dLen dCap, s]).run P w = .ok (goInt (Nat.min sLen dLen)) (w.setRow g (cur.toList.take o ++ cs ++ cur.toList.drop (o + cs.length)).toArray) := by
  have hst := run_storeCells_at P g o t cs 0 cur w hg (by simpa using hfit) h1
  simp only [Nat.add_zero] at hst
  unfold Builtin.copy_
  simp [run_underlying hu, hl, run_sizeOf hs, hf, hst]
theorem run_copy_zero {P : Program} (w : World) (dT sT ty elem : TypeId) (sz dLen dCap sLen : Nat) (d : Option Addr) (s : Value) (hu : P.underlying dT = some (.slice elem)) (hs : szOf P elem = some sz) (hl : (Builtin.lenOf s).run P w = .ok sLen w)
    (hf : (Builtin.firstCells sz 0 s).run P w = .ok #[] w) (h0 : Nat.min sLen dLen = 0) :
    (Builtin.copy_ #[dT, sT] ty #[.slice d dLen dCap, s]).run P w = .ok (goInt 0) w := by
  unfold Builtin.copy_
  cases d <;> simp [run_underlying hu, hl, run_sizeOf hs, hf, h0, storeCells]
def SrcV (P : Program) (Fs : List Hp) (bl : Blks) (sl : List OwnS) {α : Type} (Q : Rep α) (G : Hp) (s : Value) (ls : List α) : Prop :=
  ∀ w, Mem Fs bl sl w → (Builtin.lenOf s).run P w = .ok ls.length w ∧ ∀ n, n ≤ ls.length → n ≤ 16777216 → ∃ c : List Value, (Builtin.firstCells Q.sz n s).run P w = .ok c.toArray w ∧ OL Q G c (ls.take n)
section
variable {α : Type} {Q : Rep α} {G : Hp}
theorem OL.take {cs : List Value} {l : List α} (h : OL Q G cs l) (i : Nat) : OL Q G (cs.take (i * Q.sz)) (l.take i) := by
  obtain ⟨hb, xs, rfl, h3, h4, h5⟩ := h
  have key : ∀ (xs : List (List Value)) (i : Nat), (∀ x ∈ xs, x.length = Q.sz) → xs.flatten.take (i * Q.sz) = (xs.take i).flatten := by
    intro xs
    induction xs with
    | nil => intro i _; simp
    | cons x xs ih =>
      intro i hx
      cases i with
      | zero => simp
      | succ i =>
        have hl := hx x List.mem_cons_self
        rw [List.flatten_cons, List.take_succ_cons, List.flatten_cons, ← ih i fun y hy => hx y (List.mem_cons_of_mem _ hy), Nat.add_mul, List.take_append, hl, List.take_of_length_le (by omega)]
        congr 2; omega
  refine ⟨by rw [List.length_take]; omega, xs.take i, key xs i h3, fun x hx => h3 x (List.mem_of_mem_take hx), by rw [List.length_take, List.length_take, h4], fun j c x hc hx => ?_⟩
  have hj : j < i := by
    rcases Nat.lt_or_ge j i with h | h
    · exact h
    · rw [List.getElem?_take_eq_none h] at hx; cases hx
  rw [List.getElem?_take_of_lt hj] at hc hx
  exact h5 j c x hc hx
theorem OL.drop {cs : List Value} {l : List α} (h : OL Q G cs l) (i : Nat) : OL Q G (cs.drop (i * Q.sz)) (l.drop i) := by
  obtain ⟨hb, xs, rfl, h3, h4, h5⟩ := h
  have key : ∀ (xs : List (List Value)) (i : Nat), (∀ x ∈ xs, x.length = Q.sz) → xs.flatten.drop (i * Q.sz) = (xs.drop i).flatten := by
    intro xs
    induction xs with
    | nil => intro i _; simp
    | cons x xs ih =>
      intro i hx
      cases i with
      | zero => simp
      | succ i =>
        have hl := hx x List.mem_cons_self
        rw [List.flatten_cons, List.drop_succ_cons, ← ih i fun y hy => hx y (List.mem_cons_of_mem _ hy), Nat.add_mul, List.drop_append, hl, List.drop_of_length_le (by omega), List.nil_append]
        congr 1; omega
  refine ⟨by rw [List.length_drop]; omega, xs.drop i, key xs i h3, fun x hx => h3 x (List.mem_of_mem_drop hx), by rw [List.length_drop, List.length_drop, h4], fun j c x hc hx => ?_⟩
  rw [List.getElem?_drop] at hc hx
  exact h5 _ c x hc hx
theorem OL.append {cs cs' : List Value} {l l' : List α} (h : OL Q G cs l) (h' : OL Q G cs' l') (hb : l.length + l'.length ≤ 16777216) : OL Q G (cs ++ cs') (l ++ l') := by
  obtain ⟨_, xs, rfl, h3, h4, h5⟩ := h
  obtain ⟨_, ys, rfl, k3, k4, k5⟩ := h'
  refine ⟨by rw [List.length_append]; exact hb, xs ++ ys, by rw [List.flatten_append], fun x hx => ?_, by rw [List.length_append, List.length_append, h4, k4], fun j c x hc hx => ?_⟩
  · rcases List.mem_append.1 hx with hx | hx
    · exact h3 x hx
    · exact k3 x hx
  · by_cases hj : j < xs.length
    · rw [List.getElem?_append_left hj] at hc
      rw [List.getElem?_append_left (by omega)] at hx
      exact h5 j c x hc hx
    · rw [List.getElem?_append_right (by omega)] at hc
      rw [List.getElem?_append_right (by omega)] at hx
      rw [h4] at hc
      exact k5 _ c x hc hx
theorem OL.ones {cs : List Value} {l : List α} (h : OL Q G cs l) : ∀ v ∈ cs, v.oneCell' = true := fun v hv => by
  obtain ⟨_, xs, rfl, h3, h4, h5⟩ := h
  obtain ⟨x, hx, hvx⟩ := List.mem_flatten.1 hv
  obtain ⟨i, hi, rfl⟩ := List.getElem_of_mem hx
  have := Q.one (h5 i _ _ (List.getElem?_eq_getElem hi) (List.getElem?_eq_getElem (by omega)))
  exact List.all_eq_true.1 this v hvx
end
section
variable {P : Program} {Fs : List Hp} {bl : Blks} {sl : List OwnS} {α : Type} {Q : Rep α} {G : Hp}
theorem SrcV.nil : SrcV P Fs bl sl Q G (.slice none 0 0) ([] : List α) := fun w _ => ⟨rfl, fun n hn _ => by
  obtain rfl : n = 0 := by simpa using hn
  exact ⟨[], by simp [Builtin.firstCells], OL.nil⟩⟩
theorem SrcV.rd {a : Option Addr} {k : Nat} {l : List α} (h : SlR Q G a k l) (hG : G ∈ Fs) : SrcV P Fs bl sl Q G (.slice a l.length k) l := fun w hm => ⟨rfl, fun n hn hb => by
  obtain ⟨xs, h1, h2, h3, h4⟩ := h.cells
  have ho : OL Q G (xs.take n).flatten (l.take n) := by
    refine ⟨by rw [List.length_take]; omega, xs.take n, rfl, fun x hx => h1 x (List.mem_of_mem_take hx), by rw [List.length_take, List.length_take, h2.1], fun j c x hc hx => ?_⟩
    have hj : j < n := by
      rcases Nat.lt_or_ge j n with h | h
      · exact h
      · rw [List.getElem?_take_eq_none h] at hx; cases hx
    rw [List.getElem?_take_of_lt hj] at hc hx
    exact h2.2 j c x hc hx
  refine ⟨_, ?_, ho⟩
  have hcl := ho.clen
  rw [List.length_take, Nat.min_eq_left hn] at hcl
  cases a with
  | none =>
    have := h3 rfl
    subst this
    obtain rfl : n = 0 := by simpa using hn
    simp [Builtin.firstCells]
  | some ad =>
    refine run_firstCells_some _ _ _ _ _ _ _ hcl fun j v hj => ?_
    have hpre : (xs.take n).flatten <+: xs.flatten := ⟨(xs.drop n).flatten, by rw [← List.flatten_append, List.take_append_drop]⟩
    obtain ⟨r, hr⟩ := hpre
    refine h4 w (hm.fs G hG) ad rfl j v ?_
    rw [← hr, List.getElem?_append_left (List.getElem?_eq_some_iff.1 hj).1]
    exact hj⟩
theorem SrcV.part (q : Nat) {a : Option Addr} {m T : Nat} {l ls : List α} {cs : List Value} {v : Value} {i : Nat} (hs : sl[q]? = some (.s (.slice a l.length m) T Q.sz l.length cs)) (ho : OL Q G cs l) (hp : PartV a Q.sz v i ls.length) (hl : ls = (l.drop i).take ls.length) : SrcV P Fs bl sl Q G v ls := fun w hm => by
  obtain ⟨a', c', rfl, hc, ha⟩ := hp
  refine ⟨rfl, fun n hn hb => ?_⟩
  by_cases h0 : n = 0
  · subst h0
    refine ⟨[], ?_, by simpa using OL.nil⟩
    cases a' with
    | none => simp [Builtin.firstCells]
    | some ad => exact run_firstCells_some (P := P) (w := w) (size := Q.sz) (n := 0) (b := ad) (len := ls.length) (cap := c') (cs := []) (by simp) (by simp)
  have hlen : ls.length ≤ l.length - i := by
    have := congrArg List.length hl
    rw [List.length_take, List.length_drop] at this
    omega
  have hown : w.ownsRow 0 T Q.sz (.slice a l.length m) l.length cs := hm.slh _ (List.mem_of_getElem? hs)
  obtain ⟨g, rfl, hcell⟩ := own_cells hown (by omega)
  have := ha (by omega) g rfl
  subst this
  have h1 := (ho.drop i).take n
  have e : (l.drop i).take n = ls.take n := by rw [hl, List.take_take, Nat.min_eq_left hn]
  rw [e] at h1
  refine ⟨_, ?_, h1⟩
  have hcl := h1.clen
  have hln : (ls.take n).length = n := by simp; omega
  rw [hln] at hcl
  refine run_firstCells_some _ _ _ _ _ _ _ hcl fun j u hj => ?_
  have hjl : j < n * Q.sz := by rw [← hcl]; exact (List.getElem?_eq_some_iff.1 hj).1
  rw [List.getElem?_take_of_lt hjl, List.getElem?_drop] at hj
  rw [addr_add]
  refine hcell _ _ ?_ hj
  have h2 : (i + n) * Q.sz ≤ l.length * Q.sz := Nat.mul_le_mul_right _ (by omega)
  rw [Nat.add_mul] at h2
  omega
theorem SrcV.osub (q : Nat) {a : Option Addr} {m T : Nat} {l ls : List α} {cs : List Value} {v : Value} {lo hi : Int} (hs : sl[q]? = some (.s (.slice a l.length m) T Q.sz l.length cs)) (ho : OL Q G cs l) (hp : PartV a Q.sz v lo.toNat (hi - lo).toNat) (hu : lsub l lo hi = some ls) : SrcV P Fs bl sl Q G v ls := by
  obtain ⟨h1, h2, h3, rfl⟩ := lsub_some hu
  have e : ((l.drop lo.toNat).take (hi - lo).toNat).length = (hi - lo).toNat := by simp only [List.length_take, List.length_drop]; omega
  exact SrcV.part q hs ho (by rw [e]; exact hp) (by rw [e])
theorem SrcV.own (q : Nat) {a : Option Addr} {m T : Nat} {l : List α} {cs : List Value} (hs : sl[q]? = some (.s (.slice a l.length m) T Q.sz l.length cs)) (ho : OL Q G cs l) (hc : l.length ≤ m) : SrcV P Fs bl sl Q G (.slice a l.length m) l :=
  SrcV.part q hs ho (PartV.whole hc) (by simp)
theorem SrcV.str {s : ByteArray} (hs : s.size ≤ 9223372036854775807) : SrcV P Fs bl sl (Rep.int .u8) G (.string s) (toB s) := fun w _ => by
  have hlen : (toB s).length = s.size := by unfold toB; simp
  refine ⟨by rw [hlen]; rfl, fun n hn hb => ?_⟩
  have e : (Builtin.firstCells (Rep.int .u8).sz n (.string s)).run P w = .ok (((toB s).take n).map fun x => Value.int .u8 x).toArray w := by
    simp only [Builtin.firstCells]
    show Result.ok _ w = _
    congr 1
    apply Array.ext'
    unfold toB
    simp [ByteArray.data_extract, List.map_take]
    rfl
  refine ⟨_, e, ?_⟩
  exact (OL.one_iff rfl).2 ⟨by rw [List.length_take]; omega, by simp, fun j v x hv hx => by
    rw [List.getElem?_map, hx] at hv
    simp only [Option.map_some, Option.some.injEq] at hv
    subst hv
    rfl⟩
theorem SrcV.str' {s : ByteArray} {l : List Int} (hu : tobs s = some l) : SrcV P Fs bl sl (Rep.int .u8) G (.string s) l := by
  obtain ⟨h, rfl⟩ := tobs_some hu
  exact SrcV.str h
end
section
variable {P : Program} {c : Cx} {R : Value → World → Prop} {nt : Nat} {w0 : World} {S0 : List Nat} {df : List Deferred} {ρ ρ' : Env} {Fs Fs' Fin B : List Hp} {bl bl' : Blks} {sl sl' : List OwnS}
  {K K' : Act → World → Prop} {k : List Item} {ty : TypeId} {G : Hp} {α : Type}
theorem QOp.sliceP {a : Option Addr} {sz : Nat} {lo hi i j : Int} {u : Int × Int} {v : Value} {t el : TypeId} {x : Operand} {l h : Option Operand} (hx : ev ρ x = some v) (hp : PartV a sz v lo.toNat (hi - lo).toNat) (hu : psub lo hi i j = some u)
    (ht : slOf P t = some el) (hz : szOf P el = some sz) (hlo : 0 ≤ i → Bnd ρ 0 l i.toNat) (hhi : 0 ≤ j → Bnd ρ (hi - lo).toNat h j.toNat) : QOp P ρ Fs bl sl (.slice t x l h none) ty (subV v i.toNat j.toNat sz) := by
  obtain ⟨h1, h2, h3, h4, _⟩ := psub_some hu
  obtain ⟨a', c', rfl, hc, _⟩ := hp
  exact .slice_sl hx rfl ht hz (hlo h2) (hhi (by omega)) (by omega) (by omega)
theorem PartV.psub {a : Option Addr} {sz : Nat} {lo hi i j : Int} {u : Int × Int} {v : Value} (hp : PartV a sz v lo.toNat (hi - lo).toNat) (hu : psub lo hi i j = some u) : PartV a sz (subV v i.toNat j.toNat sz) u.1.toNat (u.2 - u.1).toNat := by
  obtain ⟨h1, h2, h3, h4, rfl⟩ := psub_some hu
  have := hp.sub (i' := i.toNat) (j' := j.toNat) (by omega) (by omega)
  have e1 : lo.toNat + i.toNat = (lo + i).toNat := by omega
  have e2 : j.toNat - i.toNat = (lo + j - (lo + i)).toNat := by omega
  rw [e1, e2] at this
  exact this
theorem PartV.all {a : Option Addr} {sz n m : Nat} (h : n ≤ m) : PartV a sz (.slice a n m) (0 : Int).toNat ((n : Int) - 0).toNat := by
  have := PartV.whole (a := a) (sz := sz) h
  simpa using this
theorem QOp.idxP (q : Nat) {a : Option Addr} {m T sz : Nat} {l : List α} {cs : List Value} {lo hi i u : Int} {y : α} {kk : IntKind} {t el : TypeId} {x j : Operand} {v : Value} (hs : sl[q]? = some (.s (.slice a l.length m) T sz l.length cs)) (hx : ev ρ x = some v) (hp : PartV a sz v lo.toNat (hi - lo).toNat)
    (hj : ev ρ j = some (.int kk i)) (hu : pidx lo hi i = some u) (he : lidx l u = some y) (ht : slOf P t = some el) (hz : szOf P el = some sz) : QOp P ρ Fs bl sl (.indexAddr t x j) ty (elemPtr (.slice a l.length m) u.toNat sz) := .of fun e he' w hm => by
  obtain ⟨h1, h2, h3, rfl⟩ := pidx_some hu
  obtain ⟨h5, h6, _⟩ := lidx_some he
  obtain ⟨g, rfl, _⟩ := own_cells (hm.slh _ (List.mem_of_getElem? hs)) (by omega)
  obtain ⟨a', c', rfl, hc, ha⟩ := hp
  have := ha (by omega) g rfl
  subst this
  refine run_v (s := Instr.indexAt t (e x) (e j)) ?_
  rw [he' x _ hx, he' j _ hj]
  have := run_indexAt (P := P) (w := w) (t := t) (el := el) (a := ⟨g, lo.toNat * sz, none⟩) (len := (hi - lo).toNat) (cap := c') (k := kk) ht hz h2 (by omega)
  rw [this]
  simp only [elemPtr, addr_add]
  congr 4
  rw [show (lo + i).toNat = lo.toNat + i.toNat from by omega, Nat.add_mul, Nat.zero_add]
theorem Cov.copyG (q : Nat) {Q : Rep α} {d : Nat} {t t2 e : TypeId} {x y : Operand} {v s : Value} {a : Option Addr} {m T : Nat} {l ld ls : List α} {lo hi : Int} {cs : List Value} (hs : Stp P K' ⟨some d, .call ⟨.builtin .copy, #[x, y], #[t, t2]⟩, ty, none⟩ K) (ht : slOf P t = some e) (hz : szOf P e = some Q.sz)
    (hi0 : sl[q]? = some (.s (.slice a l.length m) T Q.sz l.length cs)) (ho : OL Q G cs l) (hd1 : lsub l lo hi = some ld) (hx : ev ρ x = some v) (hp : PartV a Q.sz v lo.toNat (hi - lo).toNat) (hy : ev ρ y = some s) (hsrc : SrcV P Fs bl sl Q G s ls) (hd : Nat.blt d nt = true)
    (hk : ∀ cs', (lcpy l lo ld.length ls).length = l.length → OL Q G cs' (lcpy l lo ld.length ls) → Cov nt w0 S0 df ((d, .int .i64 ((min ls.length ld.length : Nat) : Int)) :: ρ) Fs bl (sl.set q (.s (.slice a (lcpy l lo ld.length ls).length m) T Q.sz (lcpy l lo ld.length ls).length cs')) K) : Cov nt w0 S0 df ρ Fs bl sl K' := fun a' w hf hinv => by
  refine hs a' w ?_
  obtain ⟨a1, a2, a3, rfl⟩ := lsub_some hd1
  have hld : ((l.drop lo.toNat).take (hi - lo).toNat).length = (hi - lo).toNat := by simp only [List.length_take, List.length_drop]; omega
  rw [hld] at hk
  have hown : w.ownsRow 0 T Q.sz (.slice a l.length m) l.length cs := hinv.mem.slh _ (List.mem_of_getElem? hi0)
  obtain ⟨hlen, hcells⟩ := hsrc w hinv.mem
  obtain ⟨pa, pc, rfl, hpc, hpa⟩ := hp
  have hrunv : ∀ {z : Value} {w' : World}, (Builtin.copy_ #[t, t2] ty #[.slice pa (hi - lo).toNat pc, s]).run P w = .ok z w' →
      (execOp a'.eval (⟨some d, .call ⟨.builtin .copy, #[x, y], #[t, t2]⟩, ty, none⟩ : OpX).oper).run P w = .ok (.value z) w' := fun {z w'} h => by
    refine run_builtin (run_v (s := Builtin.copy_ #[t, t2] ty (#[x, y].map a'.eval)) ?_)
    rw [show #[x, y].map a'.eval = #[a'.eval x, a'.eval y] from by simp, ev_sound hf hx, ev_sound hf hy]
    exact h
  unfold Oper.wp
  by_cases h0 : Nat.min ls.length (hi - lo).toNat = 0
  · obtain ⟨c0, hc0, ho0⟩ := hcells 0 (by omega) (by omega)
    have hc00 : c0 = [] := by
      have := ho0.clen
      simp at this
      exact this
    subst hc00
    rw [hrunv (run_copy_zero w t t2 ty e Q.sz (hi - lo).toNat pc ls.length pa s (slOf_spec ht) hz hlen hc0 h0)]
    have h0' : min ls.length (hi - lo).toNat = 0 := h0
    have e1 := lcpy_nothing (l := l) (i := lo) h0'
    have hk' := hk cs (by rw [e1]) (by rw [e1]; exact ho)
    rw [e1, h0'] at hk'
    have e3 : sl.set q (.s (.slice a l.length m) T Q.sz l.length cs) = sl := by
      apply List.ext_getElem?
      intro z
      rw [List.getElem?_set]
      split
      · rename_i hh; subst hh
        split
        · exact hi0.symm
        · rename_i hlt; rw [List.getElem?_eq_none (by omega)]
      · rfl
    rw [e3] at hk'
    exact hk' _ _ (hf.put hd _) hinv
  · have hmin : min ls.length (hi - lo).toNat ≠ 0 := h0
    generalize hnn : min ls.length (hi - lo).toNat = n at hmin hk
    have hnn' : Nat.min ls.length (hi - lo).toNat = n := hnn
    have hb := ho.1
    obtain ⟨c0, hc0, ho0⟩ := hcells n (by omega) (by omega)
    rcases hown.2 with ⟨_, hl0⟩ | ⟨g, cap', cur, hv, hbase, hg, hnc, hm2, hcs, htake⟩
    · omega
    · cases hv
      have := hpa (by omega) g rfl
      subst this
      have hc0l := ho0.clen
      rw [List.length_take, Nat.min_eq_left (by omega)] at hc0l
      have hnl : (lo.toNat + n) * Q.sz ≤ l.length * Q.sz := Nat.mul_le_mul_right _ (by omega)
      have hlm : l.length * Q.sz ≤ m * Q.sz := Nat.mul_le_mul_right _ hnc
      have hnl' := hnl
      rw [Nat.add_mul] at hnl
      have hrun := run_copy_gen (P := P) w t t2 ty e Q.sz g (lo.toNat * Q.sz) (hi - lo).toNat pc ls.length s cur T c0 (slOf_spec ht) hz hg hlen (by rw [hnn']; exact hc0) (by rw [hc0l, hcs]; omega) ho0.ones
      rw [hrunv hrun]
      have hll : (lcpy l lo (hi - lo).toNat ls).length = l.length := lcpy_length (by omega)
      have hsrc2 : ls.take (hi - lo).toNat = ls.take n := by
        rcases Nat.le_total ls.length (hi - lo).toNat with hle | hle
        · rw [List.take_of_length_le hle, List.take_of_length_le (by omega)]
        · rw [show n = (hi - lo).toNat from by omega]
      have hlc : lcpy l lo (hi - lo).toNat ls = l.take lo.toNat ++ ls.take n ++ l.drop (lo.toNat + n) := by
        unfold lcpy; rw [hnn, hsrc2]
      have hol : OL Q G (cs.take (lo.toNat * Q.sz) ++ c0 ++ cs.drop ((lo.toNat + n) * Q.sz)) (lcpy l lo (hi - lo).toNat ls) := by
        rw [hlc]
        exact ((ho.take lo.toNat).append ho0 (by simp only [List.length_take]; omega)).append (ho.drop (lo.toNat + n)) (by simp only [List.length_append, List.length_take, List.length_drop]; omega)
      have hk' := hk _ hll hol
      rw [hll] at hk'
      have hcl := ho.clen
      have hcur : cur.toList = cs ++ cur.toList.drop (l.length * Q.sz) := by rw [← htake, List.take_append_drop]
      refine hk' _ _ ?_ (hinv.set_s q hi0 (s' := .s (.slice (some ⟨g, 0, none⟩) l.length m) T Q.sz l.length _) ?_ ?_ (by simp [OwnS.blocks, Value.ownBlock]) (fun b hb => .inl (by simpa [OwnS.blocks, Value.ownBlock] using hb)))
      · have := hf.put hd (goInt (Nat.min ls.length (hi - lo).toNat))
        rw [hnn'] at this ⊢
        exact this
      · refine ⟨rfl, rfl, rfl, by simp [World.setRow], fun x _ hD => setRow_other w g x _ (by simpa [OwnS.blocks, Value.ownBlock] using hD)⟩
      · have hclen := hol.clen
        rw [hll] at hclen
        refine ⟨hclen, .inr ⟨g, m, _, rfl, Nat.zero_le _, setRow_heap w g _ _ T (0, 0) hg, hnc, hm2, ?_, ?_⟩⟩
        · simp only [List.size_toArray, List.length_append, List.length_take, List.length_drop, Array.length_toList, hc0l]
          omega
        · simp only []
          rw [hcur]
          have e1 : List.take (lo.toNat * Q.sz) (cs ++ List.drop (l.length * Q.sz) cur.toList) = List.take (lo.toNat * Q.sz) cs := List.take_append_of_le_length (by omega)
          have e2 : List.drop (lo.toNat * Q.sz + c0.length) (cs ++ List.drop (l.length * Q.sz) cur.toList) = List.drop ((lo.toNat + n) * Q.sz) cs ++ List.drop (l.length * Q.sz) cur.toList := by
            rw [List.drop_append_of_le_length (by omega), hc0l, Nat.add_mul]
          rw [e1, e2, ← List.append_assoc]
          exact List.take_left' (by rw [hclen])
end
end Go.Proofs.Ytmfppphlhgneeaa
end
