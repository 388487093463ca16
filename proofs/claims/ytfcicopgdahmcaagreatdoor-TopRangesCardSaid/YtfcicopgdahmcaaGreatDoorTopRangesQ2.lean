/- What the proof needs, gathered by wip/gen/shake.py. -/
import Derived.Calls
import Derived.Deep.Quiet
import Derived.Below
import Derived.Laws.AppendOwn
import Derived.WalkKit
import Derived.Laws.OwnMore
import Derived.Deep.Slices
import Derived.ChangeOld
import Derived.ArgAppend
import Derived.RangeFuncIn
import Derived.RangeFuncRecord
import Derived.RangeFuncLeaves
import Derived.Laws.MakeOwn
import Derived.IntWalk
import Derived.Laws.IdiomStrings
import Derived.Laws.Cover3
import Derived.Laws.CopyOwn
import Derived.MapKept
import Derived.RangeFuncNested
import Derived.Test.YtfcicopgdahmcaaGreatDoorRows
import Derived.LaidEql
import Derived.Stop.Asserts
import Derived.RowKitTokens
import Derived.Test.YtfcicopgdahmcaaGreatDoorCards
import Derived.LaidLaws
import Derived.Look8
import Derived.MakeChecks
import Derived.Test.YtfcicopgdahmcaaGreatDoorTie
import Derived.LaidMore
import Derived.Lay
import Derived.SevenTiedAt
import Derived.Stop.Joined
import Derived.ProofKit
import Derived.OpenShut
import Derived.ShutString
import Derived.Test.YtfcicopgdahmcaaGreatDoorTopRangesQ1

section
namespace Go.Proofs.YtfcicopgdahmcaaGreatDoor
open Go.RowKit
set_option linter.unusedSimpArgs false
theorem dor_t {p q : Prop} [Decidable p] [Decidable q] (h : p) : (some (Value.bool true)) = some (.bool (decide (p ∨ q))) := by simp [h]
theorem dor_f {p q : Prop} [Decidable p] [Decidable q] (h : ¬ p) : (some (Value.bool (decide q))) = some (.bool (decide (p ∨ q))) := by simp [h]
theorem dand_t {p q : Prop} [Decidable p] [Decidable q] (h : p) : (some (Value.bool (decide q))) = some (.bool (decide (p ∧ q))) := by simp [h]
theorem dand_f {p q : Prop} [Decidable p] [Decidable q] (h : ¬ p) : (some (Value.bool false)) = some (.bool (decide (p ∧ q))) := by simp [h]
theorem bne_of {b : Bool} (h : b = false) : ¬ (b = true) := by simp [h]
theorem sval {α : Type} {f : α → Value} {x y : α} (h : some x = some y) : some (f x) = some (f y) := by cases h; rfl
section
variable {α β : Type} {A : Rep α} {S : Rep β} {G : Hp}
theorem Rep.intI (k : IntKind) (x : Int) : (Rep.int k).r G [.int k x] x := rfl
theorem Rep.boolI (x : Bool) : Rep.bool.r G [.bool x] x := rfl
theorem Rep.strI (x : ByteArray) : Rep.str.r G [.string x] x := rfl
theorem Rep.slI {a : Option Addr} {k : Nat} {l : List α} (h : SlR A G a k l) : (Rep.sl A).r G [.slice a l.length k] l := ⟨a, k, rfl, h⟩
theorem Rep.pairI {c d : List Value} {x : α} {y : β} (h : A.r G c x) (h2 : S.r G d y) : (Rep.pair A S).r G (c ++ d) (x, y) := ⟨c, d, rfl, h, h2⟩
end
section
variable {P : Program} {c : Cx} {R : Value → World → Prop} {nt : Nat} {w0 : World} {S0 : List Nat} {df : List Deferred} {ρ ρ' : Env} {Fs Fs' Fin B : List Hp} {bl bl' : Blks} {sl sl' : List OwnS}
  {K K' : Act → World → Prop} {k : List Item} {ty : TypeId} {G : Hp}
theorem Cls.of_le {w : World} {G0 : Hp} {bl0 : Blks} (h : Inv w0 S0 Fs bl sl w) (h1 : ∃ G ∈ Fs, HpLe G0 G) (h2 : ∀ p ∈ bl0, p ∈ bl) : Cls [G0] bl0 w :=
  ⟨fun F hF => by
    obtain ⟨G, hG, hle⟩ := h1
    rcases List.mem_cons.1 hF with rfl | hF
    · exact fun b o hb => h.mem.fs G hG b o (hle b o hb)
    · exact absurd hF (List.not_mem_nil), fun p hp => h.mem.own p (h2 p hp)⟩
theorem Cov.drawL {id : Nat} {ops : Array Oper} (l : OT) (bl0 : Blks) (hm : P.follows .mixedOrders = true) (hok : drawOk ops l = true) (h2 : ∀ p ∈ bl0, p ∈ bl)
    (h : Cov nt w0 S0 df ρ (G :: Fs) bl sl (DO P c R (Cls [G] bl0) (flatD ops l) k)) :
    Cov nt w0 S0 df ρ (G :: Fs) bl sl (Run P c R (.code (.region id ops true) :: k)) := Cov.draw l [G] bl0 hm hok (fun F hF => by simp at hF; subst hF; exact List.mem_cons_self) h2 h
theorem Cov.clsL {G0 : Hp} {bl0 : Blks} (h1 : HpLe G0 G) (h2 : ∀ p ∈ bl0, p ∈ bl) {K : Act → World → Prop} (h : Cov nt w0 S0 df ρ (G :: Fs) bl sl K) : Cov nt w0 S0 df ρ (G :: Fs) bl sl (fun a w => Cls [G0] bl0 w ∧ K a w) :=
  fun a w hf hi => ⟨Cls.of_le hi ⟨G, List.mem_cons_self, h1⟩ h2, h a w hf hi⟩
theorem Cov.dge_offL {G0 : Hp} {bl0 : Blks} {m : Nat} {t : Nat} {b b' : Bool} {d : Nat} {op : Op} {ty : TypeId} {os : OX} (hg : ρ.lookup t = some (.bool b')) (hb : (b' == b) = false) (hd : Nat.blt d nt = true)
    (h1 : HpLe G0 G) (h2 : ∀ p ∈ bl0, p ∈ bl) (h : Cov nt w0 S0 df ((d, undef) :: ρ) (G :: Fs) bl sl (DO P c R (Cls [G0] bl0) os k)) :
    Cov nt w0 S0 df ρ (G :: Fs) bl sl (DO P c R (Cls [G0] bl0) (.e ⟨some d, op, ty, some (t, b)⟩ m os) k) := fun a w hf hi => by
  have h3 := hf.2.2 _ _ hg
  have h4 := h _ w (hf.put hd _) hi
  match m with
  | 0 => simp only [DO, wantedT, h3, hb, Bool.false_eq_true, if_false]; exact h4
  | 1 => simp only [DO, wantedT, h3, hb, Bool.false_eq_true, if_false]; exact ⟨Cls.of_le hi ⟨G, List.mem_cons_self, h1⟩ h2, h4⟩
  | m + 2 => simp only [DO, wantedT, h3, hb, Bool.false_eq_true, if_false]; exact h4
section
variable {β : Type} (dyn : β → Env) (ρs : Env) (FsD : β → List Hp) (blD : β → Blks) (bls : Blks) (slD : β → List OwnS) (sls : List OwnS) (I : β → Prop) (hρ : Sub ρ ρs) (ib : List Nat) (hb : ib.map (bl[·]?) = bls.map some) (is : List Nat) (hs : is.map (sl[·]?) = sls.map some)
set_option linter.unusedVariables false
set_option linter.unusedSectionVars false
include hρ hb hs
theorem Cov.cutB {id : Nat} {x : Code} (hk : ∀ y, I y → Cov nt w0 S0 df (dyn y ++ ρs) (FsD y) (blD y ++ bls) (slD y ++ sls) (Run P c R k))
    (h : (∀ y, I y → Cov nt w0 S0 df (dyn y ++ ρs) (FsD y) (blD y ++ bls) (slD y ++ sls) (Run P c R k)) → Cov nt w0 S0 df ρ Fs bl sl (Run P c R (.code (.block id x) :: k))) : Cov nt w0 S0 df ρ Fs bl sl (Run P c R (.code (.block id x) :: k)) := h hk
theorem Cov.cutI {o : Operand} {x y : Code} (hk : ∀ y, I y → Cov nt w0 S0 df (dyn y ++ ρs) (FsD y) (blD y ++ bls) (slD y ++ sls) (Run P c R k))
    (h : (∀ y, I y → Cov nt w0 S0 df (dyn y ++ ρs) (FsD y) (blD y ++ bls) (slD y ++ sls) (Run P c R k)) → Cov nt w0 S0 df ρ Fs bl sl (Run P c R (.code (.cond o x y) :: k))) : Cov nt w0 S0 df ρ Fs bl sl (Run P c R (.code (.cond o x y) :: k)) := h hk
theorem Cov.cutG {id : Nat} {ops : Array Oper} {dr : Bool} (hk : ∀ y, I y → Cov nt w0 S0 df (dyn y ++ ρs) (FsD y) (blD y ++ bls) (slD y ++ sls) (Run P c R k))
    (h : (∀ y, I y → Cov nt w0 S0 df (dyn y ++ ρs) (FsD y) (blD y ++ bls) (slD y ++ sls) (Run P c R k)) → Cov nt w0 S0 df ρ Fs bl sl (Run P c R (.code (.region id ops dr) :: k))) : Cov nt w0 S0 df ρ Fs bl sl (Run P c R (.code (.region id ops dr) :: k)) := h hk
end
def OX.after : Nat → OX → OX
  | 0, t => t
  | n + 1, .q _ t => OX.after n t
  | n + 1, .e _ _ t => OX.after n t
  | n + 1, .alt t _ => OX.after (n + 1) t
  | _ + 1, t => t
section
variable (n : Nat) {β : Type} (dyn : β → Env) (ρs : Env) (FsD : β → List Hp) (blD : β → Blks) (bls : Blks) (slD : β → List OwnS) (sls : List OwnS) (I : β → Prop) (hρ : Sub ρ ρs) (ib : List Nat) (hb : ib.map (bl[·]?) = bls.map some) (is : List Nat) (hs : is.map (sl[·]?) = sls.map some)
set_option linter.unusedVariables false
set_option linter.unusedSectionVars false
include hρ hb hs
theorem Cov.cutR {os : List OpX} (hk : ∀ y, I y → Cov nt w0 S0 df (dyn y ++ ρs) (FsD y) (blD y ++ bls) (slD y ++ sls) (RO P c R (os.drop n) k))
    (h : (∀ y, I y → Cov nt w0 S0 df (dyn y ++ ρs) (FsD y) (blD y ++ bls) (slD y ++ sls) (RO P c R (os.drop n) k)) → Cov nt w0 S0 df ρ Fs bl sl (RO P c R os k)) : Cov nt w0 S0 df ρ Fs bl sl (RO P c R os k) := h hk
theorem Cov.cutD {C : World → Prop} {t : OX} (hk : ∀ y, I y → Cov nt w0 S0 df (dyn y ++ ρs) (FsD y) (blD y ++ bls) (slD y ++ sls) (DO P c R C (t.after n) k))
    (h : (∀ y, I y → Cov nt w0 S0 df (dyn y ++ ρs) (FsD y) (blD y ++ bls) (slD y ++ sls) (DO P c R C (t.after n) k)) → Cov nt w0 S0 df ρ Fs bl sl (DO P c R C t k)) : Cov nt w0 S0 df ρ Fs bl sl (DO P c R C t k) := h hk
end
theorem Cov.retWD (n : Nat) {fn : Func} {items : List Item} (hit : items = [] ∨ ∃ k, items = .code .ret :: k) (rs : List ResultVar) (vs : List Value) {Q : Value → Blks → List OwnS → Hp → Prop} (hro : c.ro = none) (hf : P.funcs[c.fn]? = some fn) (hrs : fn.results = rs.toArray)
    (hres : RVs P ρ Fs bl sl rs vs) (hsub : ∀ F ∈ Fin, F ∈ Fs) (hG : G ∈ Fs) (hbd : Bd w0 S0 Fin G) (hS : ∀ b ∈ S0, b ∈ blks bl sl) (hpost : ∀ G', HpLe G G' → Q (retVal vs) (bl.drop n) sl G') :
    Cov nt w0 S0 [] ρ Fs bl sl (Run P c (RP w0 S0 Fin (fun v Fr bl sl => ∀ G', Ext (Fr :: Fin) G' → Q v bl sl G')) items) := by
  intro a w hfi hi
  have hsb : (blks (bl.drop n) sl).Sublist (blks bl sl) := ((List.drop_sublist n bl).map _).append (List.Sublist.refl _)
  exact (Cov.part hG (fun a w hfi hinv => by
    refine Run.leave hit hro hf hfi.1 (run_results hfi hinv.mem hrs (RVs_fs (fun F hF => List.mem_cons_of_mem _ hF) rs vs hres)) ⟨Proofs.YtfcicopgdahmcaaGreatDoor.part w0 G, bl.drop n, sl, part_fresh w0 G, ?_, fun G' he => hpost G' (part_ext hbd (fun b hb => hi.apart b (hS b hb) G hG) he)⟩
    refine hinv.change [] (by simp) (Keep.refl w []) (fun F hF => .inl ?_) (fun p hp => hinv.mem.own p (List.mem_of_mem_drop hp)) hinv.mem.slh (hinv.nodup.sublist hsb) (fun b hb => .inl (hsb.subset hb))
    rcases List.mem_cons.1 hF with rfl | hF
    · exact List.mem_cons_self
    · exact List.mem_cons_of_mem _ (hsub F hF))) a w hfi hi
end
end Go.Proofs.YtfcicopgdahmcaaGreatDoor
end

section
namespace Go.Proofs.YtfcicopgdahmcaaGreatDoor
open Go.RowKit
theorem foldl_ofB : ∀ (l : List Int) (r : ByteArray), l.foldl (fun r n => r.push (UInt8.ofNat n.toNat)) r = ⟨r.data ++ (l.map fun n => UInt8.ofNat n.toNat).toArray⟩
  | [], r => by simp
  | b :: l, r => by
    simp only [List.foldl_cons]
    rw [foldl_ofB l]
    simp [ByteArray.push]
section
variable {P : Program} {c : Cx} {R : Value → World → Prop} {nt : Nat} {w0 : World} {S0 : List Nat} {df : List Deferred} {ρ ρ' : Env} {Fs Fs' Fin B : List Hp} {bl bl' : Blks} {sl sl' : List OwnS}
  {K K' : Act → World → Prop} {k : List Item} {ty : TypeId} {G : Hp} {α : Type}
theorem QOp.b2s {a : Option Addr} {m : Nat} {l : List Int} {s t e : TypeId} {x : Operand} (hs : SlR (Rep.int .u8) G a m l) (hG : G ∈ Fs) (hx : ev ρ x = some (.slice a l.length m)) (h1 : P.underlying s = some (.slice e)) (h2 : P.underlying e = some (.int .u8)) (h3 : P.underlying t = some .string) :
    QOp P ρ Fs bl sl (.convert s t x) ty (.string (ofB l)) := .of fun ev' he w hm => by
  refine run_v (s := convert s t (ev' x)) ?_
  rw [he x _ hx, run_convert_bytes_string w s t e _ _ _ h1 h2 h3]
  obtain ⟨_, xs, ⟨a', cap, hv, hle, hsz, hc⟩, hl, hr⟩ := hs
  simp only [Value.slice.injEq] at hv
  obtain ⟨rfl, hlen, rfl⟩ := hv
  cases l with
  | nil =>
    have hx0 : xs = [] := List.eq_nil_of_length_eq_zero (by simpa using hl)
    subst hx0
    cases a with
    | none => simp [Conv.bytesToString, ofB]; rfl
    | some ad =>
      rw [run_bytesToString w ad _ m [] (by simp [loadCells, loadCellsFrom])]
      rfl
  | cons y l =>
    have hne : xs ≠ [] := by intro h; rw [h] at hl; simp at hl
    obtain ⟨b, o, rfl, hcell⟩ := hc hne
    have hload : (loadCells ⟨b, o, none⟩ (y :: l).length).run P w = .ok ((y :: l).map (Value.int .u8)).toArray w := by
      have := run_loadCells (P := P) (w := w) (b := b) (o := o) ((y :: l).map (Value.int .u8)) 0 #[] (fun j v hj => ?_)
      · simpa [loadCells] using this
      · rw [List.getElem?_map] at hj
        cases hy : (y :: l)[j]? with
        | none => rw [hy] at hj; cases hj
        | some u =>
          rw [hy] at hj
          simp only [Option.map_some, Option.some.injEq] at hj
          subst hj
          have hjl : j < xs.length := by rw [hl]; exact (List.getElem?_eq_some_iff.1 hy).1
          have hrr := hr j _ u (List.getElem?_eq_getElem hjl) hy
          have hrr' : xs[j] = [Value.int .u8 u] := hrr
          have := hcell j _ (List.getElem?_eq_getElem hjl) 0 (.int .u8 u) (by rw [hrr']; rfl)
          have h5 := (hm.fs G hG).cell this
          simpa [Rep.int] using h5
    rw [run_bytesToString w _ _ m (y :: l) hload, foldl_ofB]
    simp [ofB, ByteArray.empty, ByteArray.emptyWithCapacity]
    rfl
theorem SlR.isnil {Q : Rep α} {a : Option Addr} {m : Nat} {l : List α} (h : SlR Q G a m l) (hc : a.isNone = true) : l = [] := by
  obtain ⟨_, xs, ⟨a', cap, hv, _, _, hcc⟩, hl, _⟩ := h
  simp only [Value.slice.injEq] at hv
  obtain ⟨rfl, _, _⟩ := hv
  by_cases h0 : xs = []
  · subst h0; exact List.eq_nil_of_length_eq_zero (by simpa using hl.symm)
  · obtain ⟨b, o, h1, _⟩ := hcc h0; rw [h1] at hc; cases hc
theorem SlR.sub3 {Q : Rep α} {a : Option Addr} {k : Nat} {l : List α} (h : SlR Q G a k l) {i j mx : Int} {m : List α} (hm : lsub3 l i j mx = some m) : ∃ a' k', subV3 (.slice a l.length k) i.toNat j.toNat mx.toNat Q.sz = .slice a' m.length k' ∧ SlR Q G a' k' m := by
  obtain ⟨hjm, hml, hm⟩ := lsub3_some hm
  obtain ⟨hb, xs, h1, h2, h3⟩ := h
  obtain ⟨i0, ij, jl, rfl⟩ := lsub_some hm
  have hs := h1.sub3 (l := i.toNat) (r := j.toNat) (m := mx.toNat) (by omega) (by omega) (by rw [h2]; omega)
  have hn : j.toNat - i.toNat = (j - i).toNat := by omega
  obtain ⟨a', k', hv, rest⟩ := hs
  have hl : ((xs.drop i.toNat).take (j.toNat - i.toNat)).length = ((l.drop i.toNat).take (j - i).toNat).length := by simp only [List.length_take, List.length_drop]; omega
  rw [hl] at hv rest
  refine ⟨a', k', hv, by simp only [List.length_take, List.length_drop]; omega, _, ⟨a', k', by rw [hl], by rw [hl]; exact rest.1, rest.2⟩, hl, fun q c x hc hx => ?_⟩
  rw [hn] at hc
  have hq : q < (j - i).toNat := by
    rcases Nat.lt_or_ge q (j - i).toNat with h | h
    · exact h
    · rw [List.getElem?_take_eq_none h] at hx; cases hx
  rw [List.getElem?_take_of_lt hq, List.getElem?_drop] at hc hx
  exact h3 _ _ _ hc hx
theorem QOp.sliceR3 {Q : Rep α} {a a' : Option Addr} {m m' : Nat} {l l' : List α} {i j mx : Int} {t el : TypeId} {x lo hi xm : Operand} {k1 k2 k3 : IntKind} (hs : SlR Q G a m l) (hx : ev ρ x = some (.slice a l.length m)) (hl : lsub3 l i j mx = some l')
    (ht : slOf P t = some el) (hz : szOf P el = some Q.sz) (hlo : ev ρ lo = some (.int k1 i)) (hhi : ev ρ hi = some (.int k2 j)) (hmx : ev ρ xm = some (.int k3 mx)) (hv : subV3 (.slice a l.length m) i.toNat j.toNat mx.toNat Q.sz = .slice a' l'.length m') :
    QOp P ρ Fs bl sl (.slice t x (some lo) (some hi) (some xm)) ty (.slice a' l'.length m') := by
  obtain ⟨h1, h2, h3⟩ := lsub3_some hl
  obtain ⟨h4, h5, h6, _⟩ := lsub_some h3
  obtain ⟨_, xs, ⟨_, cap, hvv, hle, _⟩, hlen, _⟩ := hs
  simp only [Value.slice.injEq] at hvv
  obtain ⟨rfl, _, rfl⟩ := hvv
  refine .cast hv (.slice3 hx hlo hhi hmx ht hz h4 h5 h1 (by omega))
theorem nil_clone {l r : List α} (hl : l = []) (h : ((lapp ([] : List α) l).bind fun u => some u) = some r) : r = [] := by
  subst hl; simp [lapp] at h; exact h
theorem QOp.eqnil {t u e : TypeId} {x y : Operand} {a : Option Addr} {n m : Nat} (ht : P.underlying t = some (.slice e)) (hx : ev ρ x = some (.slice a n m)) (hy : ev ρ y = some (.slice none 0 0)) : QOp P ρ Fs bl sl (.binOp .eql t x y u) ty (.bool a.isNone) :=
  .bin hx hy fun w => by
    have h1 : (eqGuard .eql t x y (.slice a n m) (.slice none 0 0)).run P w = .ok () w := rfl
    rw [Sem.run_bind, h1]
    simp only [Result.andThen_ok]
    have h2 := run_equal_slice_nil (P := P) w t e a n m ht
    simp [binOp, h2]
end
end Go.Proofs.YtfcicopgdahmcaaGreatDoor
end

section
namespace Go.Proofs.YtfcicopgdahmcaaGreatDoor
open Go.RowKit
theorem flat1 : ∀ {xs : List (List Value)}, (∀ x ∈ xs, x.length = 1) → ∀ (i : Nat) (v : Value), xs.flatten[i]? = some v ↔ xs[i]? = some [v]
  | [], _, i, v => by simp
  | x :: xs, h, i, v => by
    have hx := h x List.mem_cons_self
    match x, hx with
    | [u], _ =>
      cases i with
      | zero => simp
      | succ i => simpa using flat1 (xs := xs) (fun y hy => h y (List.mem_cons_of_mem _ hy)) i v
theorem flat1_len : ∀ {xs : List (List Value)}, (∀ x ∈ xs, x.length = 1) → xs.flatten.length = xs.length
  | [], _ => rfl
  | x :: xs, h => by
    simp only [List.flatten_cons, List.length_append, List.length_cons, h x List.mem_cons_self, flat1_len (xs := xs) (fun y hy => h y (List.mem_cons_of_mem _ hy))]; omega
theorem flat_single : ∀ cs : List Value, cs = (cs.map fun v => [v]).flatten
  | [] => rfl
  | v :: cs => by rw [List.map_cons, List.flatten_cons, ← flat_single cs]; rfl
theorem OL.one_iff {α : Type} {Q : Rep α} {G : Hp} {cs : List Value} {l : List α} (hQ : Q.sz = 1) : OL Q G cs l ↔ l.length ≤ 16777216 ∧ cs.length = l.length ∧ ∀ (i : Nat) (v : Value) (x : α), cs[i]? = some v → l[i]? = some x → Q.r G [v] x := by
  constructor
  · rintro ⟨hb, xs, rfl, h3, h4, h5⟩
    rw [hQ] at h3
    exact ⟨hb, by rw [flat1_len h3, h4], fun i v x hv hx => h5 i [v] x ((flat1 h3 i v).1 hv) hx⟩
  · rintro ⟨hb, hl, h⟩
    refine ⟨hb, cs.map fun v => [v], flat_single cs, fun x hx => by obtain ⟨v, _, rfl⟩ := List.mem_map.1 hx; rw [hQ]; rfl, by simpa using hl, fun i c x hc hx => ?_⟩
    rw [List.getElem?_map] at hc
    cases hv : cs[i]? with
    | none => rw [hv] at hc; cases hc
    | some v => rw [hv] at hc; simp only [Option.map_some, Option.some.injEq] at hc; subst hc; exact h i v x hv hx
theorem lcpy_length {α : Type} {l src : List α} {i : Int} {n : Nat} (h : i.toNat + min src.length n ≤ l.length) : (lcpy l i n src).length = l.length := by
  unfold lcpy; simp only [List.length_append, List.length_take, List.length_drop]; omega
theorem lcpy_nothing {α : Type} {l src : List α} {i : Int} {n : Nat} (h : min src.length n = 0) : lcpy l i n src = l := by
  unfold lcpy
  have : src.take n = [] := by apply List.eq_nil_of_length_eq_zero; rw [List.length_take]; omega
  rw [this, h]; simp
section
variable {P : Program} {c : Cx} {R : Value → World → Prop} {nt : Nat} {w0 : World} {S0 : List Nat} {df : List Deferred} {ρ ρ' : Env} {Fs Fs' Fin B : List Hp} {bl bl' : Blks} {sl sl' : List OwnS}
  {K K' : Act → World → Prop} {k : List Item} {ty : TypeId} {G : Hp} {α : Type}
theorem Cov.owncap (q : Nat) {a : Option Addr} {n m T sz : Nat} {cs : List Value} (hi : sl[q]? = some (.s (.slice a n m) T sz n cs)) (hk : n ≤ m → Cov nt w0 S0 df ρ Fs bl sl K) : Cov nt w0 S0 df ρ Fs bl sl K := fun a' w hf hinv => by
  have hown : w.ownsRow 0 T sz _ _ _ := hinv.mem.slh _ (List.mem_of_getElem? hi)
  refine hk ?_ a' w hf hinv
  rcases hown.2 with ⟨hv, h0⟩ | ⟨g, cap', cur, h1, _, _, h3, _⟩
  · omega
  · cases h1; exact h3
end
end Go.Proofs.YtfcicopgdahmcaaGreatDoor
end

section
namespace Go.Proofs.YtfcicopgdahmcaaGreatDoor
open Go.RowKit
structure Yr (α : Type) where
  n : Nat
  r : Hp → List Value → α → Prop
  len : ∀ {G : Hp} {c : List Value} {x : α}, r G c x → c.length = n
  mono : ∀ {G G' : Hp} {c : List Value} {x : α}, HpLe G G' → r G c x → r G' c x
def Yr.v {α : Type} (R : Rep α) : Yr α where
  n := 1
  r G c x := ∃ v, c = [v] ∧ R.r G [v] x
  len h := by obtain ⟨v, h, _⟩ := h; rw [h]; rfl
  mono hg h := by obtain ⟨v, h, h2⟩ := h; exact ⟨v, h, R.mono hg h2⟩
def Yr.a {α : Type} (R : Rep α) : Yr α where
  n := 1
  r G c x := ∃ cs : List Value, c = [.agg cs.toArray] ∧ R.r G cs x
  len h := by obtain ⟨v, h, _⟩ := h; rw [h]; rfl
  mono hg h := by obtain ⟨v, h, h2⟩ := h; exact ⟨v, h, R.mono hg h2⟩
def Yr.pair {α β : Type} (A : Yr α) (B : Yr β) : Yr (α × β) where
  n := A.n + B.n
  r G c x := ∃ c1 c2, c = c1 ++ c2 ∧ A.r G c1 x.1 ∧ B.r G c2 x.2
  len h := by obtain ⟨_, _, h, h1, h2⟩ := h; rw [h, List.length_append, A.len h1, B.len h2]
  mono hg h := by obtain ⟨c1, c2, h, h1, h2⟩ := h; exact ⟨c1, c2, h, A.mono hg h1, B.mono hg h2⟩
def IterR (P : Program) {α : Type} (Y : Yr α) (f : FuncId) (cap : List Value) (G : Hp) (l : List α) : Prop :=
  ∀ Fs G1, HpLe G G1 → G1 ∈ Fs → Iter P f cap Fs l.length (fun i v => ∃ x, l[i]? = some x ∧ Y.r G1 v x)
theorem IterR.mono {P : Program} {α : Type} {Y : Yr α} {f : FuncId} {cap : List Value} {G G' : Hp} {l : List α} (hg : HpLe G G') (h : IterR P Y f cap G l) : IterR P Y f cap G' l := fun Fs G1 h1 h2 => h Fs G1 (hg.trans h1) h2
def mks (ds : List Nat) : List Deferred := ds.map fun r => { target := .collected r, args := #[] }
abbrev MK := { ds : List Nat // ds.Nodup }
def marksG (m : MK) : Guest where
  blks := m.1
  nodup := m.2
  holds w := ∀ r ∈ m.1, w.heap[r]? = some (.deferred (some []))
  lt w h b hb := own_lt (h b hb)
  same w w' h e := fun r hr => by rw [e r hr]; exact h r hr
def mk0 : MK := ⟨[], List.nodup_nil⟩
section
variable {P : Program} {c : Cx} {R : Value → World → Prop} {nt : Nat} {w0 : World} {S0 : List Nat} {df : List Deferred} {ρ ρ' : Env} {Fs Fs' Fin B : List Hp} {bl bl' : Blks} {sl sl' : List OwnS}
  {K K' : Act → World → Prop} {k : List Item} {ty : TypeId} {G : Hp}
theorem Cov.marks0 (h : Cov nt w0 S0 (mks mk0.1) ρ Fs bl (.g (marksG mk0) :: sl) K) : Cov nt w0 S0 [] ρ Fs bl sl K := fun a w hf hi =>
  h a w hf (hi.change [] (by simp) (Keep.refl w []) (fun G hG => .inl hG) hi.mem.own (fun s hs => by
    rcases List.mem_cons.1 hs with rfl | hs
    · exact fun r hr => by simp [mk0] at hr
    · exact hi.mem.slh s hs) (by simpa [blks, OwnS.blocks, marksG, mk0] using hi.nodup) (fun b hb => .inl (by simpa [blks, OwnS.blocks, marksG, mk0] using hb)))
theorem Cov.mkmerge (j : Nat) {m : MK} {r : Nat} (hb : bl[j]? = some (r, .deferred (some []))) (bl' : Blks) (hbl : bl.eraseIdx j = bl') (hk : ∀ m' : MK, Cov nt w0 S0 (mks m'.1) ρ Fs bl' (.g (marksG m') :: sl) K) :
    Cov nt w0 S0 ({ target := .collected r, args := #[] } :: mks m.1) ρ Fs bl (.g (marksG m) :: sl) K := fun a w hf hi => by
  subst hbl
  have hp1 := (perm_erase bl j _ hb).map (·.1)
  have hpm : (blks bl (.g (marksG m) :: sl)).Perm (r :: (m.1 ++ blks (bl.eraseIdx j) sl)) := by
    unfold blks
    simp only [List.flatMap_cons, OwnS.blocks, marksG, List.map_cons] at hp1 ⊢
    refine (hp1.append_right _).trans ?_
    simp only [List.cons_append]
    refine List.Perm.cons _ ?_
    rw [← List.append_assoc, ← List.append_assoc]
    exact List.perm_append_comm.append_right _
  have hnd := hpm.nodup_iff.1 hi.nodup
  have hnd2 : (r :: m.1).Nodup := (List.nodup_append.1 (by simpa using hnd : ((r :: m.1) ++ blks (bl.eraseIdx j) sl).Nodup)).1
  have hpm2 : (blks (bl.eraseIdx j) (.g (marksG ⟨r :: m.1, hnd2⟩) :: sl)).Perm (blks bl (.g (marksG m) :: sl)) := by
    refine List.Perm.trans ?_ hpm.symm
    unfold blks
    simp only [List.flatMap_cons, OwnS.blocks, marksG]
    rw [← List.append_assoc]
    refine (List.perm_append_comm.append_right _).trans ?_
    simp
  refine hk ⟨r :: m.1, hnd2⟩ a w ?_ (hi.change [] (by simp) (Keep.refl w []) (fun G hG => .inl hG) (fun p hp => hi.mem.own p (List.mem_of_mem_eraseIdx hp)) (fun s hs => ?_) (hpm2.nodup_iff.2 hi.nodup) (fun b hb => .inl (hpm2.mem_iff.1 hb)))
  · exact hf
  · rcases List.mem_cons.1 hs with rfl | hs
    · intro x hx
      rcases List.mem_cons.1 hx with rfl | hx
      · exact hi.mem.own _ (List.mem_of_getElem? hb)
      · exact hi.mem.slh _ List.mem_cons_self x hx
    · exact hi.mem.slh s (List.mem_cons_of_mem _ hs)
theorem Cov.unmarkAll : ∀ (ds : List Nat) (hn : ds.Nodup) {bl : Blks}, Cov nt w0 S0 [] ρ Fs bl sl (Out P c R) → Cov nt w0 S0 (mks ds) ρ Fs bl (.g (marksG ⟨ds, hn⟩) :: sl) (Out P c R)
  | [], _, bl, h => fun a w hf hi => h a w hf (hi.change [] (by simp) (Keep.refl w []) (fun G hG => .inl hG) hi.mem.own (fun s hs => hi.mem.slh s (List.mem_cons_of_mem _ hs)) (by simpa [blks, OwnS.blocks, marksG] using hi.nodup)
      (fun b hb => .inl (by simpa [blks, OwnS.blocks, marksG] using hb)))
  | r :: ds, hn, bl, h => fun a w hf hi => by
    have hn2 := (List.nodup_cons.1 hn).2
    have hpm : (blks ((r, Obj.deferred (some [])) :: bl) (.g (marksG ⟨ds, hn2⟩) :: sl)).Perm (blks bl (.g (marksG ⟨r :: ds, hn⟩) :: sl)) := by
      unfold blks
      simp only [List.flatMap_cons, OwnS.blocks, marksG, List.map_cons, List.cons_append]
      exact List.perm_middle.symm
    have hcov : Cov nt w0 S0 ({ target := .collected r, args := #[] } :: mks ds) ρ Fs ((r, Obj.deferred (some [])) :: bl) (.g (marksG ⟨ds, hn2⟩) :: sl) (Out P c R) :=
      Cov.unmark 0 rfl _ rfl (Cov.drop 1 0 bl (.g (marksG ⟨ds, hn2⟩) :: sl) rfl rfl (Cov.unmarkAll ds hn2 h))
    refine hcov a w hf (hi.change [] (by simp) (Keep.refl w []) (fun G hG => .inl hG) (fun p hp => ?_) (fun s hs => ?_) (hpm.nodup_iff.2 hi.nodup) (fun b hb => .inl (hpm.mem_iff.1 hb)))
    · rcases List.mem_cons.1 hp with rfl | hp
      · exact hi.mem.slh _ List.mem_cons_self r List.mem_cons_self
      · exact hi.mem.own p hp
    · rcases List.mem_cons.1 hs with rfl | hs
      · exact fun x hx => hi.mem.slh _ List.mem_cons_self x (List.mem_cons_of_mem _ hx)
      · exact hi.mem.slh s (List.mem_cons_of_mem _ hs)
theorem Cov.outS {fn : Func} (rs : List ResultVar) (vs : List Value) {Q : Value → Blks → List OwnS → Prop} (hf : P.funcs[c.fn]? = some fn) (hrs : fn.results = rs.toArray)
    (hres : RVs P ρ Fs bl sl rs vs) (hsub : ∀ F ∈ Fin, F ∈ Fs) (hpost : Q (retVal vs) bl sl) : Cov nt w0 S0 [] ρ Fs bl sl (Out P c (RP w0 S0 Fin (fun v _ bl sl => Q v bl sl))) := by
  intro a w hfi hinv items cs
  refine ⟨retVal vs, w, ⟨empHp, bl, sl, fresh_emp _, ?_, hpost⟩, { c.fr a items with mode := .returning }, Steps.refl _ _, rfl, rfl, hfi.1, rfl, fn, hf, run_results hfi hinv.mem hrs hres⟩
  refine hinv.change [] (by simp) (Keep.refl w []) (fun G hG => ?_) hinv.mem.own hinv.mem.slh hinv.nodup (fun _ hx => .inl hx)
  rcases List.mem_cons.1 hG with rfl | hG
  · exact .inr ⟨fun b o hb => by simp [empHp] at hb, fun _ _ => rfl⟩
  · exact .inl (hsub G hG)
theorem Cov.outW {fn : Func} (rs : List ResultVar) (vs : List Value) {Q : Value → Blks → List OwnS → Hp → Prop} (hf : P.funcs[c.fn]? = some fn) (hrs : fn.results = rs.toArray)
    (hres : RVs P ρ Fs bl sl rs vs) (hsub : ∀ F ∈ Fin, F ∈ Fs) (hG : G ∈ Fs) (hbd : Bd w0 S0 Fin G) (hS : ∀ b ∈ S0, b ∈ blks bl sl) (hpost : ∀ G', HpLe G G' → Q (retVal vs) bl sl G') :
    Cov nt w0 S0 [] ρ Fs bl sl (Out P c (RP w0 S0 Fin (fun v Fr bl sl => ∀ G', Ext (Fr :: Fin) G' → Q v bl sl G'))) := by
  refine Cov.part hG ?_
  intro a w hfi hinv items cs
  refine ⟨retVal vs, w, ⟨Proofs.YtfcicopgdahmcaaGreatDoor.part w0 G, bl, sl, part_fresh w0 G, ?_, fun G' he => hpost G' (part_ext hbd (fun b hb => hinv.apart b (hS b hb) G (List.mem_cons_of_mem _ hG)) he)⟩, { c.fr a items with mode := .returning }, Steps.refl _ _, rfl, rfl, hfi.1, rfl, fn, hf, run_results hfi hinv.mem hrs (RVs_fs (fun F hF => List.mem_cons_of_mem _ hF) rs vs hres)⟩
  refine hinv.change [] (by simp) (Keep.refl w []) (fun F hF => .inl ?_) hinv.mem.own hinv.mem.slh hinv.nodup (fun _ hx => .inl hx)
  rcases List.mem_cons.1 hF with rfl | hF
  · exact List.mem_cons_self
  · exact List.mem_cons_of_mem _ (hsub F hF)
theorem Cov.loopD {β : Type} (dfD : β → List Deferred) (dyn : β → Env) (ρs : Env) (FsD : β → List Hp) (blD : β → Blks) (bls : Blks) (slD : β → List OwnS) (sls : List OwnS) (I : β → Prop) (μ : β → Nat) {x : Code} (x0 : β) (hI : I x0) (hdf : df = dfD x0) (hρ : Sub ρ (dyn x0 ++ ρs)) (hF : Fs' = FsD x0 ++ Fs) (hb : bl = blD x0 ++ bls) (hs : sl = slD x0 ++ sls)
    (round : ∀ y, I y → (∀ z, I z → μ z < μ y → Cov nt w0 S0 (dfD z) (dyn z ++ ρs) (FsD z ++ Fs) (blD z ++ bls) (slD z ++ sls) (Run P c R (.inLoop x :: k))) →
      Cov nt w0 S0 (dfD y) (dyn y ++ ρs) (FsD y ++ Fs) (blD y ++ bls) (slD y ++ sls) (Run P c R (.code x :: .inLoop x :: k))) : Cov nt w0 S0 df ρ Fs' bl sl (Run P c R (.code (.loop x) :: k)) := by
  subst hF hb hs hdf
  have key : ∀ n y, μ y = n → I y → Cov nt w0 S0 (dfD y) (dyn y ++ ρs) (FsD y ++ Fs) (blD y ++ bls) (slD y ++ sls) (Run P c R (.code x :: .inLoop x :: k)) := by
    intro n
    induction n using Nat.strongRecOn with
    | _ n ih =>
      intro y hn hy
      exact round y hy fun z hz hlt => (ih (μ z) (hn ▸ hlt) z rfl hz).mono fun _ _ => Run.inLoop
  exact Cov.prune _ hρ ((key _ x0 rfl hI).mono fun _ _ => Run.loop)
section
variable {β : Type} (dfD : β → List Deferred) (dyn : β → Env) (ρs : Env) (FsD : β → List Hp) (blD : β → Blks) (bls : Blks) (slD : β → List OwnS) (sls : List OwnS) (I : β → Prop) (hρ : Sub ρ ρs) (ib : List Nat) (hb : ib.map (bl[·]?) = bls.map some) (is : List Nat) (hs : is.map (sl[·]?) = sls.map some)
set_option linter.unusedVariables false
set_option linter.unusedSectionVars false
include hρ hb hs
theorem Cov.cutBD {id : Nat} {x : Code} (hk : ∀ y, I y → Cov nt w0 S0 (dfD y) (dyn y ++ ρs) (FsD y) (blD y ++ bls) (slD y ++ sls) (Run P c R k))
    (h : (∀ y, I y → Cov nt w0 S0 (dfD y) (dyn y ++ ρs) (FsD y) (blD y ++ bls) (slD y ++ sls) (Run P c R k)) → Cov nt w0 S0 df ρ Fs bl sl (Run P c R (.code (.block id x) :: k))) : Cov nt w0 S0 df ρ Fs bl sl (Run P c R (.code (.block id x) :: k)) := h hk
end
theorem Bd.trans {G' : Hp} (h : Bd w0 S0 (G :: B) G') (hB : Bd w0 S0 B G) : Bd w0 S0 B G' := fun b o hb => by
  rcases h b o hb with h | h | ⟨F, hF, hb'⟩
  · exact .inl h
  · exact .inr (.inl h)
  · rcases List.mem_cons.1 hF with rfl | hF
    · exact hB b o hb'
    · exact .inr (.inr ⟨F, hF, hb'⟩)
end
end Go.Proofs.YtfcicopgdahmcaaGreatDoor
end

section
namespace Go.Proofs.YtfcicopgdahmcaaGreatDoor
open Go.RowKit
theorem slR_of {α : Type} {A : Rep α} {G : Hp} {f : α → List Value} {Q : α → Prop} {a : Option Addr} {n c : Nat} {l : List α} (h : Sl G A.sz (.slice a n c) (l.map f)) (hq : ∀ y ∈ l, Q y) (hm : n ≤ maxLen) (hg : l.length = n) (hr : ∀ x, Q x → A.r G (f x) x) : SlR A G a c l := by
  subst hg
  refine ⟨hm, _, h, by simp, fun i x y h1 h2 => ?_⟩
  rw [List.getElem?_map, h2] at h1
  obtain rfl := Option.some.inj h1
  exact hr y (hq y (List.mem_of_getElem? h2))
theorem slInts {k : IntKind} {G : Hp} {Q : Int → Prop} {a : Option Addr} {n c : Nat} {l : List Int} (h : Sl G 1 (.slice a n c) (l.map fun x => [Value.int k x])) (hq : ∀ y ∈ l, Q y) (hm : n ≤ maxLen) (hg : l.length = n) : SlR (Rep.int k) G a c l := slR_of h hq hm hg (fun _ _ => rfl)
end Go.Proofs.YtfcicopgdahmcaaGreatDoor
end

section
namespace Go.Proofs.YtfcicopgdahmcaaGreatDoor
set_option linter.unusedVariables false
set_option synthInstance.maxSize 2000
set_option synthInstance.maxHeartbeats 400000
def ifc233 (x : (Option Int)) : Value := match x with
  | (some x) => .iface 268 (.agg #[.int .i64 x])
  | none => .nilIface
def residue_Field_Mul (x0 : Int) (x1 : Int) (x2 : Int) : Option Int :=
  (nz x0).bind fun _ => some (Int.tmod (w64 (x1 * x2)) x0)
def residue_Field_Add (x0 : Int) (x1 : Int) (x2 : Int) : Option Int :=
  (nz x0).bind fun _ => some (Int.tmod (w64 (x1 + x2)) x0)
def residue_Field_AddTimes_B1 (z10 : Int) (z11 : Int) (rec12 : (List Int) → Option (List Int)) (x13 : Int) (i12 : Nat) (v14 : List Int) : Option (List Int) :=
  (lidx v14 (i12 : Int)).bind fun u15 => (residue_Field_Mul z10 z11 x13).bind fun u16 => (residue_Field_Add z10 u15 u16).bind fun u17 => (lidx v14 (i12 : Int)).bind fun u18 => (lupd v14 (i12 : Int) u17).bind fun u19 => rec12 u19
def residue_Field_AddTimes_L1 (z10 : Int) (z11 : Int) : (List Int) → Nat → (List Int) → Option (List Int)
  | [], i12, v13 => some v13
  | x14 :: xs, i12, v13 => residue_Field_AddTimes_B1 z10 z11 (residue_Field_AddTimes_L1 z10 z11 xs (i12 + 1)) x14 i12 v13
def residue_Field_AddTimes (x0 : Int) (x1 : (List Int)) (x2 : Int) (x3 : (List Int)) : Option (List Int) :=
  residue_Field_AddTimes_L1 x0 x2 x3 0 x1
def residue_Of_J1 (v36 : Int) : Option (Int × Bool) :=
  some (v36, true)
def residue_Of_B2 (kx37 : Int → Option (Int × Bool)) (z56 : Int) (rec52 : Int → Option (Int × Bool)) (v53 : Int) : Option (Int × Bool) :=
  if ((w64 (v53 * v53)) ≤ z56) then ((nz v53).bind fun _ => if ((Int.tmod z56 v53) = 0) then (some (0, false)) else
 rec52 (w64 (v53 + 1))) else
 kx37 z56
def residue_Of_L2 (kx37 : Int → Option (Int × Bool)) (z56 : Int) : Nat → Int → Option (Int × Bool)
  | 0, _ => none
  | n + 1, v53 => residue_Of_B2 kx37 z56 (residue_Of_L2 kx37 z56 n) v53
def residue_Of (x0 : Int) : Option (Int × Bool) :=
  if ((x0 < 2) ∨ (65521 < x0)) then (some (0, false)) else
 residue_Of_L2 residue_Of_J1 x0 big 2
def slices_IndexFunc_Lintint_B1 (z25 : Int → Option Bool) (rec18 : Option Int) (x28 : Int) (i18 : Nat) : Option Int :=
  (z25 x28).bind fun u33 => if (u33 = true) then (some (i18 : Int)) else
 rec18
def slices_IndexFunc_Lintint_L1 (z25 : Int → Option Bool) : (List Int) → Nat → Option Int
  | [], i18 => some (-1)
  | x28 :: xs, i18 => slices_IndexFunc_Lintint_B1 z25 (slices_IndexFunc_Lintint_L1 z25 xs (i18 + 1)) x28 i18
def slices_IndexFunc_Lintint (x0 : (List Int)) (x1 : Int → Option Bool) : Option Int :=
  slices_IndexFunc_Lintint_L1 x1 x0 0
def slices_ContainsFunc_Lintint (x0 : (List Int)) (x1 : Int → Option Bool) : Option Bool :=
  (slices_IndexFunc_Lintint x0 x1).bind fun u1 => some (decide (0 ≤ u1))
def residue_Field_Has (x0 : Int) (x1 : Int) : Option Bool :=
  some (decide ((0 ≤ x1) ∧ (x1 < x0)))
def residue_Field_All_f1 (x0 : Int) (x1 : Int) : Option Bool :=
  (residue_Field_Has x1 x0).bind fun u1 => some (!u1)
def residue_Field_All (x0 : Int) (x1 : (List Int)) : Option Bool :=
  (slices_ContainsFunc_Lintint x1 (fun y0 => residue_Field_All_f1 y0 x0)).bind fun u7 => some (!u7)
def vector_Combine_B1 (z10 : List Int) (z11 : Int) (rec12 : (List Int) → Option ((List Int) × Int)) (x13 : (List Int)) (i12 : Nat) (v14 : List Int) : Option ((List Int) × Int) :=
  (lidx z10 (i12 : Int)).bind fun u15 => (residue_Field_AddTimes z11 v14 u15 x13).bind fun u16 => rec12 u16
def vector_Combine_L1 (z10 : List Int) (z11 : Int) : (List (List Int)) → Nat → (List Int) → Option ((List Int) × Int)
  | [], i12, v13 => some (v13, 0)
  | x14 :: xs, i12, v13 => vector_Combine_B1 z10 z11 (vector_Combine_L1 z10 z11 xs (i12 + 1)) x14 i12 v13
def vector_Combine_J2 (z10 : List Int) (z11 : List (List Int)) (z12 : Int) (z13 : Int) (v14 : Bool) (v15 : Int) : Option ((List Int) × Int) :=
  if ((!v14) = true) then (some (([] : List Int), 9)) else
(lmk z12 0).bind fun u16 => vector_Combine_L1 z10 z13 z11 0 u16
def vector_Combine_B3 (kx10 : Bool → Int → Option ((List Int) × Int)) (z11 : Int) (z12 : Int) (z13 : Int) (rec14 : Bool → Option ((List Int) × Int)) (x15 : (List Int)) (v16 : Bool) : Option ((List Int) × Int) :=
  if ((x15.length : Int) ≠ z11) then (some (([] : List Int), 2)) else
(if (v16 = true) then ((residue_Field_All z12 x15).bind fun u17 => some u17) else some false).bind fun u18 => rec14 u18
def vector_Combine_L3 (kx10 : Bool → Int → Option ((List Int) × Int)) (z11 : Int) (z12 : Int) (z13 : Int) : (List (List Int)) → Bool → Option ((List Int) × Int)
  | [], v14 => kx10 v14 z13
  | x15 :: xs, v14 => vector_Combine_B3 kx10 z11 z12 z13 (vector_Combine_L3 kx10 z11 z12 z13 xs) x15 v14
def vector_Combine (x0 : Int) (x1 : (List Int)) (x2 : (List (List Int))) (x3 : Int) : Option ((List Int) × Int) :=
  (residue_Of x0).bind fun u2 => if ((!u2.2) = true) then (some (([] : List Int), 9)) else
 if ((x3 < 0) ∨ (64 < x3)) then (some (([] : List Int), 4)) else
 if ((x1.length : Int) ≠ (x2.length : Int)) then (some (([] : List Int), 2)) else
(residue_Field_All u2.1 x1).bind fun u22 => vector_Combine_L3 (vector_Combine_J2 x1 x2 x3 u2.1) x3 u2.1 x0 x2 u22
def parity_Answer (x0 : Int) (x1 : Int) (x2 : (List (List Int))) (x3 : (List Int)) : Option ((List Int) × Int) :=
  (vector_Combine x0 x3 x2 x1).bind fun u2 => some (u2.1, u2.2)
def ref04_Same_B1 (z29 : List Int) (rec22 : Option Bool) (x32 : Int) (i22 : Nat) : Option Bool :=
  (lidx z29 (i22 : Int)).bind fun u37 => if (x32 ≠ u37) then (some false) else
 rec22
def ref04_Same_L1 (z29 : List Int) : (List Int) → Nat → Option Bool
  | [], i22 => some true
  | x32 :: xs, i22 => ref04_Same_B1 z29 (ref04_Same_L1 z29 xs (i22 + 1)) x32 i22
def ref04_Same (x0 : (List Int)) (x1 : (List Int)) : Option Bool :=
  if ((x0.length : Int) ≠ (x1.length : Int)) then (some false) else
 ref04_Same_L1 x1 x0 0
def slices_Clone_Lintint (x0 : (List Int)) : Option (List Int) :=
  (lapp ([] : List Int) x0).bind fun u11 => some u11
def tape_valid (x0 : ((List Int) × Int)) : Option Bool :=
  some (decide ((((x0.1.length : Int) ≤ 16384) ∧ (0 ≤ x0.2)) ∧ (x0.2 ≤ (x0.1.length : Int))))
def tape_limit (x0 : Int) : Option Bool :=
  some (decide ((1 ≤ x0) ∧ (x0 ≤ 2147483647)))
def tape_position_next (x0 : (((List Int) × Int) × (List Int))) (x1 : Int) : Option (Int × Int × Int) :=
  if (x0.1.2 = (x0.1.1.length : Int)) then (some (0, 3, x0.1.2)) else
(lidx x0.1.1 x0.1.2).bind fun u5 => if ((u5 < 0) ∨ (x1 ≤ u5)) then (some (0, 8, x0.1.2)) else
 some (u5, 0, (w64 (x0.1.2 + 1)))
def tape_drawing_draw_B1 (z37 : Int) (z38 : Int) (z39 : List Int) (rec26 : Int → Int → (List Int) → Option (Int × Int × (List Int))) (v27 : Int) (v28 : Int) (v29 : List Int) : Option (Int × Int × (List Int)) :=
  if (v27 < z38) then ((tape_position_next ((z39, v28), v29) z37).bind fun u44 => if (u44.2.1 ≠ 0) then (some (u44.2.1, u44.2.2, v29)) else
(lapp v29 ([u44.1] : List Int)).bind fun u58 => rec26 (w64 (v27 + 1)) u44.2.2 u58) else
 some (0, v28, v29)
def tape_drawing_draw_L1 (z37 : Int) (z38 : Int) (z39 : List Int) : Nat → Int → Int → (List Int) → Option (Int × Int × (List Int))
  | 0, _, _, _ => none
  | n + 1, v27, v28, v29 => tape_drawing_draw_B1 z37 z38 z39 (tape_drawing_draw_L1 z37 z38 z39 n) v27 v28 v29
def tape_drawing_draw (x0 : (((List Int) × Int) × (List Int))) (x1 : Int) (x2 : Int) : Option (Int × Int × (List Int)) :=
  tape_drawing_draw_L1 x1 x2 x0.1.1 big 0 x0.1.2 x0.2
def tape_Draws (x0 : ((List Int) × Int)) (x1 : Int) (x2 : Int) : Option (((List Int) × Int) × (List Int) × Int) :=
  (tape_valid x0).bind fun u3 => if ((!u3) = true) then (some ((([] : List Int), 0), ([] : List Int), 2)) else
(tape_limit x1).bind fun u11 => if (((!u11) = true) ∨ (x2 < 0)) then (some ((([] : List Int), 0), ([] : List Int), 1)) else
(tape_drawing_draw ((x0.1, x0.2), ([] : List Int)) x1 x2).bind fun u25 => if (u25.1 ≠ 0) then (some ((([] : List Int), 0), ([] : List Int), u25.1)) else
(slices_Clone_Lintint x0.1).bind fun u38 => some ((u38, u25.2.1), u25.2.2, 0)
def curve_valid (x0 : (Int × Int)) : Option Bool :=
  some (decide ((((2 ≤ x0.1) ∧ (x0.1 ≤ 10)) ∧ (1 ≤ x0.2)) ∧ (x0.2 < x0.1)))
def curve_Check (x0 : Int) (x1 : (Int × Int)) : Option Int :=
  (residue_Of x0).bind fun u3 => if ((!u3.2) = true) then (some 9) else
(curve_valid x1).bind fun u10 => if (((!u10) = true) ∨ (x0 ≤ x1.1)) then (some 1) else
 some 0
def curve_check (x0 : Int) (x1 : (Int × Int)) (x2 : Int) : Option Int :=
  (curve_Check x0 x1).bind fun u3 => if ((u3 = 0) ∧ ((x2 < 1) ∨ (1024 < x2))) then (some 1) else
 some u3
def share_threshold (x0 : Int) : Option Bool :=
  some (decide ((0 ≤ x0) ∧ (x0 ≤ 9)))
def slices_Backward_Lintint_f1_B1 (z26 : List Int) (rec18 : Int → Option (List (Int × Int))) (v23 : Int) : Option (List (Int × Int)) :=
  if (0 ≤ v23) then ((lidx z26 v23).bind fun u31 => yc (v23, u31) <| rec18 (w64 (v23 - 1))) else
 some []
def slices_Backward_Lintint_f1_L1 (z26 : List Int) : Nat → Int → Option (List (Int × Int))
  | 0, _ => none
  | n + 1, v23 => slices_Backward_Lintint_f1_B1 z26 (slices_Backward_Lintint_f1_L1 z26 n) v23
def slices_Backward_Lintint_f1 (x1 : (List Int)) : Option ((List (Int × Int))) :=
  slices_Backward_Lintint_f1_L1 x1 big (w64 ((x1.length : Int) - 1))
def slices_Backward_Lintint (x0 : (List Int)) : Option (List (Int × Int)) :=
  (slices_Backward_Lintint_f1 x0).bind fun u7 => some u7
def residue_Field_Value_J1 (v68 : Int) : Option Int :=
  some v68
def residue_Field_Value_B2 (kx69 : Int → Option Int) (z85 : Int) (z87 : Int) (rec90 : Int → Option Int) (x10 : (Int × Int)) (v89 : Int) : Option Int :=
  (residue_Field_Mul z85 v89 z87).bind fun u11 => (residue_Field_Add z85 u11 x10.2).bind fun u12 => rec90 u12
def residue_Field_Value_L2 (kx69 : Int → Option Int) (z85 : Int) (z87 : Int) : List (Int × Int) → Int → Option Int
  | [], v89 => kx69 v89
  | x10 :: xs, v89 => residue_Field_Value_B2 kx69 z85 z87 (residue_Field_Value_L2 kx69 z85 z87 xs) x10 v89
def residue_Field_Value (x0 : Int) (x1 : (List Int)) (x2 : Int) : Option Int :=
  (slices_Backward_Lintint x1).bind fun u4 => residue_Field_Value_L2 residue_Field_Value_J1 x0 x2 u4 0
def share_shares_B1 (z66 : Int) (z67 : List Int) (rec54 : (List (Int × Int)) → Option (List (Int × Int))) (x71 : Int) (v58 : List (Int × Int)) : Option (List (Int × Int)) :=
  (residue_Field_Value z66 z67 x71).bind fun u76 => (lapp v58 ([(x71, u76)] : List (Int × Int))).bind fun u87 => rec54 u87
def share_shares_L1 (z66 : Int) (z67 : List Int) : (List Int) → (List (Int × Int)) → Option (List (Int × Int))
  | [], v58 => some v58
  | x71 :: xs, v58 => share_shares_B1 z66 z67 (share_shares_L1 z66 z67 xs) x71 v58
def share_shares (x0 : Int) (x1 : (List Int)) (x2 : (List Int)) : Option (List (Int × Int)) :=
  share_shares_L1 x0 x1 x2 ([] : List (Int × Int))
def share_Split_J1 (z10 : Int) (z11 : Int) (z12 : List Int) (z13 : List Int) (v14 : List Int) (v15 : Int) (v16 : Int) (v17 : Int) : Option ((List (Int × Int)) × ((List Int) × Int) × Int) :=
  (lapp ([z10] : List Int) z13).bind fun u18 => (share_shares z11 u18 v14).bind fun u19 => some (u19, (z12, v16), 0)
def share_Split_B2 (kx10 : (List Int) → Int → Int → Int → Option ((List (Int × Int)) × ((List Int) × Int) × Int)) (z11 : Int) (z12 : Int) (z13 : Int) (rec14 : (List Int) → Int → Option ((List (Int × Int)) × ((List Int) × Int) × Int)) (v15 : List Int) (v16 : Int) : Option ((List (Int × Int)) × ((List Int) × Int) × Int) :=
  if (v16 < z11) then ((lapp v15 ([(w64 (v16 + 1))] : List Int)).bind fun u17 => rec14 u17 (w64 (v16 + 1))) else
 kx10 v15 0 z12 z13
def share_Split_L2 (kx10 : (List Int) → Int → Int → Int → Option ((List (Int × Int)) × ((List Int) × Int) × Int)) (z11 : Int) (z12 : Int) (z13 : Int) : Nat → (List Int) → Int → Option ((List (Int × Int)) × ((List Int) × Int) × Int)
  | 0, _, _ => none
  | n + 1, v14, v15 => share_Split_B2 kx10 z11 z12 z13 (share_Split_L2 kx10 z11 z12 z13 n) v14 v15
def share_Split (x0 : Int) (x1 : Int) (x2 : Int) (x3 : Int) (x4 : ((List Int) × Int)) : Option ((List (Int × Int)) × ((List Int) × Int) × Int) :=
  (residue_Of x0).bind fun u4 => (if ((!u4.2) = true) then (some true) else (residue_Field_Has u4.1 x1).bind fun u10 => some (!u10)).bind fun u14 => if (u14 = true) then (some (([] : List (Int × Int)), (([] : List Int), 0), 9)) else
(share_threshold x2).bind fun u23 => if (((((!u23) = true) ∨ (x3 < 1)) ∨ (x0 ≤ x3)) ∨ (512 < x3)) then (some (([] : List (Int × Int)), (([] : List Int), 0), 1)) else
(tape_Draws x4 x0 x2).bind fun u43 => if (u43.2.2 ≠ 0) then (some (([] : List (Int × Int)), (([] : List Int), 0), u43.2.2)) else
 share_Split_L2 (share_Split_J1 x1 u4.1 u43.1.1 u43.2.1) x3 u43.1.2 x0 big ([] : List Int) 0
def curve_Queries_J1 (z10 : List Int) (v11 : List Int) (v12 : List (List Int)) (v13 : Int) (v14 : Int) (v15 : Int) (v16 : Int) (v17 : Int) (v18 : Int) : Option ((List (List Int)) × ((List Int) × Int) × Int) :=
  (lapp ([] : List Int) z10).bind fun u19 => some (v12, (u19, (w64 (v15 + (v11.length : Int)))), 0)
def curve_Queries_B2 (rec10 : Int → (List (List Int)) → Int → Int → Int → Int → Int → Int → Option ((List (List Int)) × ((List Int) × Int) × Int)) (z11 : Int) (z12 : Int) (z13 : Int) (z14 : Int) (z15 : Int) (z16 : Int) (z17 : Int) (rec18 : (List (List Int)) → Option ((List (List Int)) × ((List Int) × Int) × Int)) (x19 : (Int × Int)) (i18 : Nat) (v20 : List (List Int)) : Option ((List (List Int)) × ((List Int) × Int) × Int) :=
  (lidx v20 (i18 : Int)).bind fun u21 => (lapp u21 ([x19.2] : List Int)).bind fun u22 => (lidx v20 (i18 : Int)).bind fun u23 => (lupd v20 (i18 : Int) u22).bind fun u24 => rec18 u24
def curve_Queries_L2 (rec10 : Int → (List (List Int)) → Int → Int → Int → Int → Int → Int → Option ((List (List Int)) × ((List Int) × Int) × Int)) (z11 : Int) (z12 : Int) (z13 : Int) (z14 : Int) (z15 : Int) (z16 : Int) (z17 : Int) : (List (Int × Int)) → Nat → (List (List Int)) → Option ((List (List Int)) × ((List Int) × Int) × Int)
  | [], i18, v19 => rec10 (w64 (z11 + 1)) v19 z12 z13 z14 z15 z16 z17
  | x20 :: xs, i18, v19 => curve_Queries_B2 rec10 z11 z12 z13 z14 z15 z16 z17 (curve_Queries_L2 rec10 z11 z12 z13 z14 z15 z16 z17 xs (i18 + 1)) x20 i18 v19
def curve_Queries_J3 (rec10 : Int → (List (List Int)) → Int → Int → Int → Int → Int → Int → Option ((List (List Int)) × ((List Int) × Int) × Int)) (z11 : Int) (z12 : Int) (z13 : Int) (z14 : Int) (z15 : Int) (z16 : Int) (z17 : Int) (z18 : List (List Int)) (v19 : List (Int × Int)) (v20 : Int) : Option ((List (List Int)) × ((List Int) × Int) × Int) :=
  if (v20 ≠ 0) then (some (([] : List (List Int)), (([] : List Int), 0), v20)) else
 curve_Queries_L2 rec10 z11 z12 z13 z14 z15 z16 z17 v19 0 z18
def curve_Queries_J4 (rec10 : Int → (List (List Int)) → Int → Int → Int → Int → Int → Int → Option ((List (List Int)) × ((List Int) × Int) × Int)) (z11 : Int) (z12 : List Int) (z13 : Int) (z14 : Int) (z15 : Int) (z16 : Int) (z17 : Int) (z18 : Int) (z19 : List (List Int)) (v20 : Int) : Option ((List (List Int)) × ((List Int) × Int) × Int) :=
  (lsub z12 (w64 (z11 * z17)) (w64 ((w64 (z11 + 1)) * z17))).bind fun u21 => (share_Split z18 v20 z17 z16 (u21, 0)).bind fun u22 => (curve_Queries_J3 rec10 z11 z13 z14 z15 z16 z17 z18 z19) u22.1 u22.2.2
def curve_Queries_B5 (kx10 : (List Int) → (List (List Int)) → Int → Int → Int → Int → Int → Int → Option ((List (List Int)) × ((List Int) × Int) × Int)) (z11 : Int) (z12 : List Int) (z13 : Int) (rec14 : Int → (List (List Int)) → Int → Int → Int → Int → Int → Int → Option ((List (List Int)) × ((List Int) × Int) × Int)) (v15 : Int) (v16 : List (List Int)) (v17 : Int) (v18 : Int) (v19 : Int) (v20 : Int) (v21 : Int) (v22 : Int) : Option ((List (List Int)) × ((List Int) × Int) × Int) :=
  if (v15 < z13) then (if (v15 = z11) then ((curve_Queries_J4 rec14 v15 z12 v17 v18 v19 v20 v21 v22 v16) 1) else
(curve_Queries_J4 rec14 v15 z12 v17 v18 v19 v20 v21 v22 v16) 0) else
 kx10 z12 v16 v17 v18 v19 v20 v21 v22
def curve_Queries_L5 (kx10 : (List Int) → (List (List Int)) → Int → Int → Int → Int → Int → Int → Option ((List (List Int)) × ((List Int) × Int) × Int)) (z11 : Int) (z12 : List Int) (z13 : Int) : Nat → Int → (List (List Int)) → Int → Int → Int → Int → Int → Int → Option ((List (List Int)) × ((List Int) × Int) × Int)
  | 0, _, _, _, _, _, _, _, _ => none
  | n + 1, v14, v15, v16, v17, v18, v19, v20, v21 => curve_Queries_B5 kx10 z11 z12 z13 (curve_Queries_L5 kx10 z11 z12 z13 n) v14 v15 v16 v17 v18 v19 v20 v21
def curve_Queries (x0 : Int) (x1 : (Int × Int)) (x2 : Int) (x3 : Int) (x4 : ((List Int) × Int)) : Option ((List (List Int)) × ((List Int) × Int) × Int) :=
  (curve_check x0 x1 x2).bind fun u5 => if (u5 ≠ 0) then (some (([] : List (List Int)), (([] : List Int), 0), u5)) else
 if ((x3 < 0) ∨ (x2 ≤ x3)) then (some (([] : List (List Int)), (([] : List Int), 0), 6)) else
(tape_Draws x4 x0 (w64 (x2 * x1.2))).bind fun u19 => if (u19.2.2 ≠ 0) then (some (([] : List (List Int)), (([] : List Int), 0), u19.2.2)) else
(lmk x1.1 ([] : List Int)).bind fun u39 => curve_Queries_L5 (curve_Queries_J1 x4.1) x3 u19.2.1 x2 big 0 u39 u19.1.2 0 x4.2 x1.1 x1.2 x0
def columns_Check_J1 (z10 : Int) (v98 : Int) (v99 : Bool) (v11 : Int) : Option Int :=
  if ((!v99) = true) then (some 9) else
 if (v98 < z10) then (some 11) else
 some 0
def columns_Check_B2 (kx10 : Int → Bool → Int → Option Int) (z11 : Int) (z12 : Int) (rec13 : Int → Bool → Option Int) (x14 : (Bool × (List Int))) (v15 : Int) (v16 : Bool) : Option Int :=
  if ((!x14.1) = true) then (rec13 v15 v16) else
 if ((x14.2.length : Int) ≠ z11) then (some 2) else
(if (v16 = true) then ((residue_Field_All z12 x14.2).bind fun u17 => some u17) else some false).bind fun u18 => rec13 (w64 (v15 + 1)) u18
def columns_Check_L2 (kx10 : Int → Bool → Int → Option Int) (z11 : Int) (z12 : Int) : (List (Bool × (List Int))) → Int → Bool → Option Int
  | [], v13, v14 => kx10 v13 v14 z12
  | x15 :: xs, v13, v14 => columns_Check_B2 kx10 z11 z12 (columns_Check_L2 kx10 z11 z12 xs) x15 v13 v14
def columns_Check (x0 : Int) (x1 : Int) (x2 : Int) (x3 : Int) (x4 : (List (Bool × (List Int)))) : Option Int :=
  if ((x1 < 0) ∨ (64 < x1)) then (some 4) else
 if ((x4.length : Int) ≠ x2) then (some 2) else
 columns_Check_L2 (columns_Check_J1 x3) x1 x0 x4 0 true
def code_known_f1_B1 (rec21 : Option (List (Int × Int))) (x34 : (Int × Bool)) (i21 : Nat) : Option (List (Int × Int)) :=
  if (x34.2 = true) then (yc ((w64 ((i21 : Int) + 1)), x34.1) <| rec21) else
 rec21
def code_known_f1_L1 : (List (Int × Bool)) → Nat → Option (List (Int × Int))
  | [], i21 => some []
  | x34 :: xs, i21 => code_known_f1_B1 (code_known_f1_L1 xs (i21 + 1)) x34 i21
def code_known_f1 (x1 : (List (Int × Bool))) : Option ((List (Int × Int))) :=
  code_known_f1_L1 x1 0
def code_known (x0 : (List (Int × Bool))) : Option (List (Int × Int)) :=
  (code_known_f1 x0).bind fun u7 => some u7
def code_cells_J1 (z95 : Int) (v92 : Int) : Option (Int × Int × Int) :=
  some (z95, v92, 0)
def code_cells_B2 (kx93 : Int → Option (Int × Int × Int)) (z10 : Int) (rec11 : Int → Option (Int × Int × Int)) (x12 : (Int × Int)) (v13 : Int) : Option (Int × Int × Int) :=
  (residue_Field_Has z10 x12.2).bind fun u14 => if ((!u14) = true) then (some (0, 0, 9)) else
 rec11 (w64 (v13 + 1))
def code_cells_L2 (kx93 : Int → Option (Int × Int × Int)) (z10 : Int) : List (Int × Int) → Int → Option (Int × Int × Int)
  | [], v11 => kx93 v11
  | x12 :: xs, v11 => code_cells_B2 kx93 z10 (code_cells_L2 kx93 z10 xs) x12 v11
def code_cells (x0 : Int) (x1 : (List (Int × Bool))) : Option (Int × Int × Int) :=
  (residue_Of x0).bind fun u5 => if ((!u5.2) = true) then (some (0, 0, 9)) else
 if ((32 < (x1.length : Int)) ∨ (x0 ≤ (x1.length : Int))) then (some (0, 0, 4)) else
(code_known x1).bind fun u21 => code_cells_L2 (code_cells_J1 u5.1) u5.1 u21 0
def residue_Field_Sub (x0 : Int) (x1 : Int) (x2 : Int) : Option Int :=
  (nz x0).bind fun _ => some (Int.tmod (w64 ((w64 (x1 - x2)) + x0)) x0)
def poly_open_J1 (z70 : Int) (v66 : Bool) (v67 : Int) : Option (Int × Int) :=
  if (v66 = true) then (some (0, 4)) else
 some (z70, 0)
def poly_open_B2 (kx68 : Bool → Int → Option (Int × Int)) (z10 : Int) (z11 : Int) (rec12 : Bool → Option (Int × Int)) (x13 : (List Int)) (v14 : Bool) : Option (Int × Int) :=
  (residue_Field_All z10 x13).bind fun u15 => if ((!u15) = true) then (some (0, 9)) else
 rec12 (decide ((v14 = true) ∨ (512 < (x13.length : Int))))
def poly_open_L2 (kx68 : Bool → Int → Option (Int × Int)) (z10 : Int) (z11 : Int) : (List (List Int)) → Bool → Option (Int × Int)
  | [], v12 => kx68 v12 z11
  | x13 :: xs, v12 => poly_open_B2 kx68 z10 z11 (poly_open_L2 kx68 z10 z11 xs) x13 v12
def poly_open (x0 : Int) (x1 : (List (List Int))) : Option (Int × Int) :=
  (residue_Of x0).bind fun u2 => if ((!u2.2) = true) then (some (0, 9)) else
 poly_open_L2 (poly_open_J1 u2.1) u2.1 x0 x1 false
def residue_Trim_J1 (z58 : List Int) (v55 : Int) : Option (List Int) :=
  (lsub z58 0 v55).bind fun u59 => some u59
def residue_Trim_B2 (kx56 : Int → Option (List Int)) (z95 : List Int) (rec91 : Int → Option (List Int)) (v92 : Int) : Option (List Int) :=
  (if (0 < v92) then ((lidx z95 (w64 (v92 - 1))).bind fun u10 => some (decide (u10 = 0))) else some false).bind fun u11 => if (u11 = true) then (rec91 (w64 (v92 - 1))) else
 kx56 v92
def residue_Trim_L2 (kx56 : Int → Option (List Int)) (z95 : List Int) : Nat → Int → Option (List Int)
  | 0, _ => none
  | n + 1, v92 => residue_Trim_B2 kx56 z95 (residue_Trim_L2 kx56 z95 n) v92
def residue_Trim (x0 : (List Int)) : Option (List Int) :=
  residue_Trim_L2 (residue_Trim_J1 x0) x0 big (x0.length : Int)
def residue_Trim_p_J1 (z59 : List Int) (v56 : Int) : Option ((Int × Int) × (List Int)) :=
  (psub 0 (z59.length : Int) 0 v56).bind fun u60 => some ((u60.1, u60.2), z59)
def residue_Trim_p_B2 (kx57 : Int → Option ((Int × Int) × (List Int))) (z92 : List Int) (rec88 : Int → Option ((Int × Int) × (List Int))) (v89 : Int) : Option ((Int × Int) × (List Int)) :=
  (if (0 < v89) then ((lidx z92 (w64 (v89 - 1))).bind fun u10 => some (decide (u10 = 0))) else some false).bind fun u11 => if (u11 = true) then (rec88 (w64 (v89 - 1))) else
 kx57 v89
def residue_Trim_p_L2 (kx57 : Int → Option ((Int × Int) × (List Int))) (z92 : List Int) : Nat → Int → Option ((Int × Int) × (List Int))
  | 0, _ => none
  | n + 1, v89 => residue_Trim_p_B2 kx57 z92 (residue_Trim_p_L2 kx57 z92 n) v89
def residue_Trim_p (x0 : (List Int)) : Option ((Int × Int) × (List Int)) :=
  residue_Trim_p_L2 (residue_Trim_p_J1 x0) x0 big (x0.length : Int)
def poly_own (x0 : (List Int)) : Option (List Int) :=
  (residue_Trim x0).bind fun u1 => (lapp ([] : List Int) u1).bind fun u13 => some u13
def residue_Field_Inverse_B1 (z23 : Int) (rec16 : Int → Int → Int → Int → Option Int) (v17 : Int) (v18 : Int) (v19 : Int) (v20 : Int) : Option Int :=
  if (v18 ≠ 0) then ((nz v18).bind fun _ => rec16 v18 (w64 (v17 - (w64 ((w64 (Int.tdiv v17 v18)) * v18)))) v20 (w64 (v19 - (w64 ((w64 (Int.tdiv v17 v18)) * v20))))) else
(nz z23).bind fun _ => (nz z23).bind fun _ => some (Int.tmod (w64 ((Int.tmod v19 z23) + z23)) z23)
def residue_Field_Inverse_L1 (z23 : Int) : Nat → Int → Int → Int → Int → Option Int
  | 0, _, _, _, _ => none
  | n + 1, v17, v18, v19, v20 => residue_Field_Inverse_B1 z23 (residue_Field_Inverse_L1 z23 n) v17 v18 v19 v20
def residue_Field_Inverse (x0 : Int) (x1 : Int) : Option Int :=
  residue_Field_Inverse_L1 x0 big x0 x1 0 1
def poly_times_B1 (z57 : Int) (z58 : List Int) (rec45 : (List Int) → Option (List Int)) (x62 : Int) (i45 : Nat) (v49 : List Int) : Option (List Int) :=
  (psub 0 (v49.length : Int) (i45 : Int) ((v49.length : Int) - 0)).bind fun u68 => (lsub v49 u68.1 u68.2).bind fun u74 => (residue_Field_AddTimes z57 u74 x62 z58).bind fun u82 => rec45 (lcpy v49 u68.1 u74.length u82)
def poly_times_L1 (z57 : Int) (z58 : List Int) : (List Int) → Nat → (List Int) → Option (List Int)
  | [], i45, v49 => some v49
  | x62 :: xs, i45, v49 => poly_times_B1 z57 z58 (poly_times_L1 z57 z58 xs (i45 + 1)) x62 i45 v49
def poly_times (x0 : Int) (x1 : (List Int)) (x2 : (List Int)) : Option (List Int) :=
  (lmk (w64 ((w64 ((x1.length : Int) + (x2.length : Int))) - 1)) 0).bind fun u1 => poly_times_L1 x0 x2 x1 0 u1
def poly_Interpolate_J1 (v10 : List Int) (v11 : List (Int × Bool)) (v12 : Int) : Option ((List Int) × Int) :=
  (poly_own v10).bind fun u13 => some (u13, 0)
def poly_Interpolate_B2 (kx10 : (List Int) → (List (Int × Bool)) → Int → Option ((List Int) × Int)) (z11 : List Int) (z12 : Int) (z13 : List (Int × Bool)) (z14 : Int) (rec15 : (List Int) → (List Int) → Option ((List Int) × Int)) (x16 : Int) (i15 : Nat) (v17 : List Int) (v18 : List Int) : Option ((List Int) × Int) :=
  (lidx z11 (i15 : Int)).bind fun u19 => (residue_Field_Value z12 v17 x16).bind fun u20 => (residue_Field_Sub z12 u19 u20).bind fun u21 => (residue_Field_Value z12 v18 x16).bind fun u22 => (residue_Field_Inverse z12 u22).bind fun u23 => (residue_Field_Mul z12 u21 u23).bind fun u24 => (lmk (v18.length : Int) 0).bind fun u25 => (lsub u25 0 (u25.length : Int)).bind fun u26 => (residue_Field_AddTimes z12 (lcpy u25 0 u26.length v17) u24 v18).bind fun u27 => (residue_Field_Sub z12 0 x16).bind fun u28 => (poly_times z12 v18 ([u28, 1] : List Int)).bind fun u29 => rec15 u27 u29
def poly_Interpolate_L2 (kx10 : (List Int) → (List (Int × Bool)) → Int → Option ((List Int) × Int)) (z11 : List Int) (z12 : Int) (z13 : List (Int × Bool)) (z14 : Int) : (List Int) → Nat → (List Int) → (List Int) → Option ((List Int) × Int)
  | [], i15, v16, v17 => kx10 v16 z13 z14
  | x18 :: xs, i15, v16, v17 => poly_Interpolate_B2 kx10 z11 z12 z13 z14 (poly_Interpolate_L2 kx10 z11 z12 z13 z14 xs (i15 + 1)) x18 i15 v16 v17
def poly_Interpolate_J3 (z10 : List Int) (z11 : List Int) (z12 : Int) (v13 : List (Int × Bool)) (v14 : Int) : Option ((List Int) × Int) :=
  poly_Interpolate_L2 poly_Interpolate_J1 z11 z12 v13 v14 z10 0 ([] : List Int) ([1] : List Int)
def poly_Interpolate_B4 (kx10 : (List (Int × Bool)) → Int → Option ((List Int) × Int)) (z11 : Int) (rec12 : (List (Int × Bool)) → Option ((List Int) × Int)) (x13 : Int) (v14 : List (Int × Bool)) : Option ((List Int) × Int) :=
  if (((mget v14 x13).getD false) = true) then (some (([] : List Int), 7)) else
 rec12 (mput v14 x13 true)
def poly_Interpolate_L4 (kx10 : (List (Int × Bool)) → Int → Option ((List Int) × Int)) (z11 : Int) : (List Int) → (List (Int × Bool)) → Option ((List Int) × Int)
  | [], v12 => kx10 v12 z11
  | x13 :: xs, v12 => poly_Interpolate_B4 kx10 z11 (poly_Interpolate_L4 kx10 z11 xs) x13 v12
def poly_Interpolate_J5 (v10 : List Int) (v11 : List Int) (v12 : Int) : Option ((List Int) × Int) :=
  (poly_open v12 ([v10, v11] : List (List Int))).bind fun u13 => if (u13.2 ≠ 0) then (some (([] : List Int), u13.2)) else
 poly_Interpolate_L4 (poly_Interpolate_J3 v10 v11 u13.1) v12 v10 ([] : List (Int × Bool))
def poly_Interpolate_B6 (kx10 : (List Int) → (List Int) → Int → Option ((List Int) × Int)) (z11 : Int) (rec12 : (List Int) → (List Int) → Option ((List Int) × Int)) (x13 : (Int × Int)) (v14 : List Int) (v15 : List Int) : Option ((List Int) × Int) :=
  (lapp v14 ([x13.1] : List Int)).bind fun u16 => (lapp v15 ([x13.2] : List Int)).bind fun u17 => rec12 u16 u17
def poly_Interpolate_L6 (kx10 : (List Int) → (List Int) → Int → Option ((List Int) × Int)) (z11 : Int) : (List (Int × Int)) → (List Int) → (List Int) → Option ((List Int) × Int)
  | [], v12, v13 => kx10 v12 v13 z11
  | x14 :: xs, v12, v13 => poly_Interpolate_B6 kx10 z11 (poly_Interpolate_L6 kx10 z11 xs) x14 v12 v13
def poly_Interpolate (x0 : Int) (x1 : (List (Int × Int))) : Option ((List Int) × Int) :=
  poly_Interpolate_L6 poly_Interpolate_J5 x0 x1 ([] : List Int) ([] : List Int)
def code_first_J1 (v10 : List (Int × Int)) : Option (List (Int × Int)) :=
  some v10
def code_first_B2 (kx10 : (List (Int × Int)) → Option (List (Int × Int))) (z11 : Int) (rec12 : (List (Int × Int)) → Option (List (Int × Int))) (x13 : (Int × Int)) (v14 : List (Int × Int)) : Option (List (Int × Int)) :=
  if ((v14.length : Int) = z11) then (kx10 v14) else
(lapp v14 ([x13] : List (Int × Int))).bind fun u15 => rec12 u15
def code_first_L2 (kx10 : (List (Int × Int)) → Option (List (Int × Int))) (z11 : Int) : List (Int × Int) → (List (Int × Int)) → Option (List (Int × Int))
  | [], v12 => kx10 v12
  | x13 :: xs, v12 => code_first_B2 kx10 z11 (code_first_L2 kx10 z11 xs) x13 v12
def code_first (x0 : (List (Int × Bool))) (x1 : Int) : Option (List (Int × Int)) :=
  (code_known x0).bind fun u3 => code_first_L2 code_first_J1 x1 u3 ([] : List (Int × Int))
def code_Fill (x0 : Int) (x1 : (List (Int × Bool))) (x2 : Int) : Option ((List Int) × Int) :=
  (code_cells x0 x1).bind fun u2 => if (u2.2.2 ≠ 0) then (some (([] : List Int), u2.2.2)) else
 if ((x2 < 1) ∨ ((x1.length : Int) < x2)) then (some (([] : List Int), 1)) else
 if (u2.2.1 < x2) then (some (([] : List Int), 11)) else
(code_first x1 x2).bind fun u22 => (poly_Interpolate x0 u22).bind fun u36 => some (u36.1, u36.2)
def unique_of (x0 : Int) : Option (Option Int) :=
  if (x0 = 0) then (some (none : (Option Int))) else
 some (some x0)
def unique_Radius (x0 : Int) (x1 : Int) : Option (Int × Int) :=
  if (((x1 < 1) ∨ (x0 < 0)) ∨ (32 < x0)) then (some (0, 1)) else
 if (x0 < x1) then (some (0, 11)) else
 some ((w64 (Int.tdiv (w64 (x0 - x1)) 2)), 0)
def unique_count_B1 (rec16 : Int → Option Int) (x26 : (Int × Bool)) (v20 : Int) : Option Int :=
  if (x26.2 = true) then (rec16 (w64 (v20 + 1))) else
 rec16 v20
def unique_count_L1 : (List (Int × Bool)) → Int → Option Int
  | [], v20 => some v20
  | x26 :: xs, v20 => unique_count_B1 (unique_count_L1 xs) x26 v20
def unique_count (x0 : (List (Int × Bool))) : Option Int :=
  unique_count_L1 x0 0
def unique_Key_J1 (v10 : Int) (v11 : Int) (v12 : Int) (v13 : List Int) (v14 : List Int) (v15 : Int) (v16 : Int) (v17 : Int) (v18 : Int) : Option ((Int × Int × Int × (List Int) × (List Int)) × Int) :=
  some ((v10, v11, v12, v13, v14), 0)
def unique_Key_J2 (rec10 : Int → Int → Int → (List Int) → (List Int) → Int → Int → Int → Int → Option ((Int × Int × Int × (List Int) × (List Int)) × Int)) (z11 : List Int) (z12 : Int) (z13 : Int) (z14 : List Int) (v15 : Int) (v16 : Bool) (v17 : Int) (v18 : Int) (v19 : Int) (v20 : List Int) (v21 : Int) (v22 : Int) (v23 : Int) (v24 : Int) : Option ((Int × Int × Int × (List Int) × (List Int)) × Int) :=
  (lidx z11 z12).bind fun u25 => (residue_Field_Mul z13 v15 u25).bind fun u26 => (lapp z14 ([u26] : List Int)).bind fun u27 => rec10 v17 (w64 (v18 + 1)) v19 v20 u27 v21 v22 v23 v24
def unique_Key_B3 (kx10 : Int → Bool → Int → Int → Int → (List Int) → Int → Int → Int → Int → Option ((Int × Int × Int × (List Int) × (List Int)) × Int)) (z11 : Int) (z12 : Int) (z13 : Int) (z14 : Int) (z15 : Int) (z16 : Bool) (z17 : Int) (z18 : Int) (z19 : Int) (z20 : Int) (rec21 : (List Int) → Option ((Int × Int × Int × (List Int) × (List Int)) × Int)) (x22 : Int) (v23 : List Int) : Option ((Int × Int × Int × (List Int) × (List Int)) × Int) :=
  (residue_Field_Mul z11 z15 x22).bind fun u24 => (residue_Field_Sub z11 0 u24).bind fun u25 => (lapp v23 ([u25] : List Int)).bind fun u26 => rec21 u26
def unique_Key_L3 (kx10 : Int → Bool → Int → Int → Int → (List Int) → Int → Int → Int → Int → Option ((Int × Int × Int × (List Int) × (List Int)) × Int)) (z11 : Int) (z12 : Int) (z13 : Int) (z14 : Int) (z15 : Int) (z16 : Bool) (z17 : Int) (z18 : Int) (z19 : Int) (z20 : Int) : (List Int) → (List Int) → Option ((Int × Int × Int × (List Int) × (List Int)) × Int)
  | [], v21 => kx10 z15 z16 z12 z13 z14 v21 z17 z18 z19 z20
  | x22 :: xs, v21 => unique_Key_B3 kx10 z11 z12 z13 z14 z15 z16 z17 z18 z19 z20 (unique_Key_L3 kx10 z11 z12 z13 z14 z15 z16 z17 z18 z19 z20 xs) x22 v21
def unique_Key_J4 (rec10 : Int → Int → Int → (List Int) → (List Int) → Int → Int → Int → Int → Option ((Int × Int × Int × (List Int) × (List Int)) × Int)) (z11 : Int) (z12 : Int) (z13 : Int) (z14 : List Int) (z15 : List Int) (v16 : List Int) (v17 : Int) (v18 : Bool) (v19 : Int) (v20 : Int) (v21 : Int) (v22 : Int) (v23 : Int) (v24 : Int) (v25 : Int) : Option ((Int × Int × Int × (List Int) × (List Int)) × Int) :=
  (lsub v16 0 (w64 (z11 + z12))).bind fun u26 => (lapp z14 u26).bind fun u27 => (lsub v16 0 z12).bind fun u28 => unique_Key_L3 (unique_Key_J2 rec10 v16 z12 z13 z15) z13 v19 v20 v21 v17 v18 v22 v23 v24 v25 u28 u27
def unique_Key_B5 (kx10 : (List Int) → Int → Bool → Int → Int → Int → Int → Int → Int → Int → Option ((Int × Int × Int × (List Int) × (List Int)) × Int)) (z11 : Int) (z12 : Int) (z13 : Int) (z14 : Int) (z15 : Bool) (z16 : Int) (z17 : Int) (z18 : Int) (z19 : Int) (z20 : Int) (z21 : Int) (z22 : Int) (rec23 : Int → (List Int) → Int → Option ((Int × Int × Int × (List Int) × (List Int)) × Int)) (v24 : Int) (v25 : List Int) (v26 : Int) : Option ((Int × Int × Int × (List Int) × (List Int)) × Int) :=
  if (v26 < z13) then ((lapp v25 ([v24] : List Int)).bind fun u27 => (residue_Field_Mul z12 v24 (w64 (z11 + 1))).bind fun u28 => rec23 u28 u27 (w64 (v26 + 1))) else
 kx10 v25 z14 z15 z16 z17 z18 z19 z20 z21 z22
def unique_Key_L5 (kx10 : (List Int) → Int → Bool → Int → Int → Int → Int → Int → Int → Int → Option ((Int × Int × Int × (List Int) × (List Int)) × Int)) (z11 : Int) (z12 : Int) (z13 : Int) (z14 : Int) (z15 : Bool) (z16 : Int) (z17 : Int) (z18 : Int) (z19 : Int) (z20 : Int) (z21 : Int) (z22 : Int) : Nat → Int → (List Int) → Int → Option ((Int × Int × Int × (List Int) × (List Int)) × Int)
  | 0, _, _, _ => none
  | n + 1, v23, v24, v25 => unique_Key_B5 kx10 z11 z12 z13 z14 z15 z16 z17 z18 z19 z20 z21 z22 (unique_Key_L5 kx10 z11 z12 z13 z14 z15 z16 z17 z18 z19 z20 z21 z22 n) v23 v24 v25
def unique_Key_B6 (kx10 : Int → Int → Int → (List Int) → (List Int) → Int → Int → Int → Int → Option ((Int × Int × Int × (List Int) × (List Int)) × Int)) (z11 : Int) (z12 : Int) (z13 : Int) (rec14 : Int → Int → Int → (List Int) → (List Int) → Int → Int → Int → Int → Option ((Int × Int × Int × (List Int) × (List Int)) × Int)) (x15 : (Int × Bool)) (i14 : Nat) (v16 : Int) (v17 : Int) (v18 : Int) (v19 : List Int) (v20 : List Int) (v21 : Int) (v22 : Int) (v23 : Int) (v24 : Int) : Option ((Int × Int × Int × (List Int) × (List Int)) × Int) :=
  if ((!x15.2) = true) then (rec14 v16 v17 v18 v19 v20 v21 v22 v23 v24) else
 unique_Key_L5 (unique_Key_J4 rec14 z11 z12 z13 v19 v20) (i14 : Int) z13 (w64 ((w64 (z11 + z12)) + 1)) x15.1 x15.2 v16 v17 v18 v21 v22 v23 v24 big 1 ([] : List Int) 0
def unique_Key_L6 (kx10 : Int → Int → Int → (List Int) → (List Int) → Int → Int → Int → Int → Option ((Int × Int × Int × (List Int) × (List Int)) × Int)) (z11 : Int) (z12 : Int) (z13 : Int) : (List (Int × Bool)) → Nat → Int → Int → Int → (List Int) → (List Int) → Int → Int → Int → Int → Option ((Int × Int × Int × (List Int) × (List Int)) × Int)
  | [], i14, v15, v16, v17, v18, v19, v20, v21, v22, v23 => kx10 v15 v16 v17 v18 v19 v20 v21 v22 v23
  | x24 :: xs, i14, v15, v16, v17, v18, v19, v20, v21, v22, v23 => unique_Key_B6 kx10 z11 z12 z13 (unique_Key_L6 kx10 z11 z12 z13 xs (i14 + 1)) x24 i14 v15 v16 v17 v18 v19 v20 v21 v22 v23
def unique_Key (x0 : Int) (x1 : (List (Int × Bool))) (x2 : Int) (x3 : Int) : Option ((Int × Int × Int × (List Int) × (List Int)) × Int) :=
  (code_Fill x0 x1 x2).bind fun u3 => if ((u3.2 ≠ 0) ∧ (u3.2 ≠ 11)) then (some ((0, 0, 0, ([] : List Int), ([] : List Int)), u3.2)) else
 if (((x3 < 0) ∨ (32 < x3)) ∨ (32 < (w64 (x2 + (w64 (2 * x3)))))) then (some ((0, 0, 0, ([] : List Int), ([] : List Int)), 1)) else
 unique_Key_L6 unique_Key_J1 x2 x3 x0 x1 0 x0 0 (w64 (x2 + (w64 (2 * x3)))) ([] : List Int) ([] : List Int) 0 0 0 x0
def solve_Check (x0 : (Int × Int × Int × (List Int) × (List Int))) : Option Int :=
  (residue_Of x0.1).bind fun u2 => if ((!u2.2) = true) then (some 9) else
 if ((((x0.2.1 < 0) ∨ (32 < x0.2.1)) ∨ (x0.2.2.1 < 0)) ∨ (32 < x0.2.2.1)) then (some 4) else
 if (((x0.2.2.2.1.length : Int) ≠ (w64 (x0.2.1 * x0.2.2.1))) ∨ ((x0.2.2.2.2.length : Int) ≠ x0.2.1)) then (some 2) else
(residue_Field_All u2.1 x0.2.2.2.1).bind fun u31 => (if ((!u31) = true) then (some true) else (residue_Field_All u2.1 x0.2.2.2.2).bind fun u51 => some (!u51)).bind fun u41 => if (u41 = true) then (some 9) else
 some 0
def solve_reduced_lead_J1 (z10 : Int) (z11 : Int) (z12 : List Int) (v13 : List (List Int)) : Option ((List (List Int)) × Int × (List Int)) :=
  (lidx z12 z10).bind fun u14 => (lupd z12 z10 (w64 (z11 + 1))).bind fun u15 => some (v13, (w64 (z11 + 1)), u15)
def solve_reduced_lead_B2 (kx10 : (List (List Int)) → Option ((List (List Int)) × Int × (List Int))) (z11 : Int) (z12 : Int) (z13 : Int) (rec14 : (List (List Int)) → Option ((List (List Int)) × Int × (List Int))) (x15 : (List Int)) (i14 : Nat) (v16 : List (List Int)) : Option ((List (List Int)) × Int × (List Int)) :=
  (lidx v16 (i14 : Int)).bind fun u17 => (if ((i14 : Int) ≠ z12) then ((lidx u17 z11).bind fun u18 => some (decide (u18 ≠ 0))) else some false).bind fun u19 => if (u19 = true) then ((lidx u17 z11).bind fun u20 => (residue_Field_Sub z13 0 u20).bind fun u21 => (lidx v16 z12).bind fun u22 => (lne z12 (i14 : Int)).bind fun _ => (residue_Field_AddTimes z13 u17 u21 u22).bind fun u23 => (lupd v16 (i14 : Int) u23).bind fun u24 => rec14 u24) else
 rec14 v16
def solve_reduced_lead_L2 (kx10 : (List (List Int)) → Option ((List (List Int)) × Int × (List Int))) (z11 : Int) (z12 : Int) (z13 : Int) : (List (List Int)) → Nat → (List (List Int)) → Option ((List (List Int)) × Int × (List Int))
  | [], i14, v15 => kx10 v15
  | x16 :: xs, i14, v15 => solve_reduced_lead_B2 kx10 z11 z12 z13 (solve_reduced_lead_L2 kx10 z11 z12 z13 xs (i14 + 1)) x16 i14 v15
def solve_reduced_lead_J3 (z10 : Int) (z11 : Int) (z12 : Int) (z13 : List Int) (v14 : List (List Int)) : Option ((List (List Int)) × Int × (List Int)) :=
  solve_reduced_lead_L2 (solve_reduced_lead_J1 z10 z11 z13) z10 z11 z12 v14 0 v14
def solve_reduced_lead_B4 (kx10 : (List (List Int)) → Option ((List (List Int)) × Int × (List Int))) (z11 : Int) (z12 : Int) (z13 : Int) (rec14 : (List (List Int)) → Option ((List (List Int)) × Int × (List Int))) (x15 : Int) (i14 : Nat) (v16 : List (List Int)) : Option ((List (List Int)) × Int × (List Int)) :=
  (lidx v16 z11).bind fun u17 => (lidx u17 (i14 : Int)).bind fun u18 => (residue_Field_Mul z13 u18 z12).bind fun u19 => (lidx v16 z11).bind fun u20 => (lidx u20 (i14 : Int)).bind fun u21 => (lupd u20 (i14 : Int) u19).bind fun u22 => (lupd v16 z11 u22).bind fun u23 => rec14 u23
def solve_reduced_lead_L4 (kx10 : (List (List Int)) → Option ((List (List Int)) × Int × (List Int))) (z11 : Int) (z12 : Int) (z13 : Int) : (List Int) → Nat → (List (List Int)) → Option ((List (List Int)) × Int × (List Int))
  | [], i14, v15 => kx10 v15
  | x16 :: xs, i14, v15 => solve_reduced_lead_B4 kx10 z11 z12 z13 (solve_reduced_lead_L4 kx10 z11 z12 z13 xs (i14 + 1)) x16 i14 v15
def solve_reduced_lead_J5 (z10 : Int) (z11 : Int) (z12 : Int) (z13 : List Int) (v14 : List (List Int)) : Option ((List (List Int)) × Int × (List Int)) :=
  (lidx v14 z12).bind fun u15 => (lidx u15 z10).bind fun u16 => (residue_Field_Inverse z11 u16).bind fun u17 => solve_reduced_lead_L4 (solve_reduced_lead_J3 z10 z12 z11 z13) z12 u17 z11 u15 0 v14
def solve_reduced_lead_J6 (z98 : Int) (z99 : Int) (z10 : Int) (z11 : List Int) (z12 : List (List Int)) (v95 : Int) : Option ((List (List Int)) × Int × (List Int)) :=
  if (v95 = (z12.length : Int)) then (some (z12, z10, z11)) else
(lidx z12 v95).bind fun u13 => (lidx z12 z10).bind fun u14 => (lidx z12 z10).bind fun u15 => (lidx z12 v95).bind fun u16 => (lupd z12 z10 u13).bind fun u17 => (lupd u17 v95 u14).bind fun u18 => (solve_reduced_lead_J5 z98 z99 z10 z11) u18
def solve_reduced_lead_B7 (kx96 : Int → Option ((List (List Int)) × Int × (List Int))) (z10 : Int) (z11 : List (List Int)) (rec12 : Int → Option ((List (List Int)) × Int × (List Int))) (v13 : Int) : Option ((List (List Int)) × Int × (List Int)) :=
  (if (v13 < (z11.length : Int)) then ((lidx z11 v13).bind fun u14 => (lidx u14 z10).bind fun u15 => some (decide (u15 = 0))) else some false).bind fun u16 => if (u16 = true) then (rec12 (w64 (v13 + 1))) else
 kx96 v13
def solve_reduced_lead_L7 (kx96 : Int → Option ((List (List Int)) × Int × (List Int))) (z10 : Int) (z11 : List (List Int)) : Nat → Int → Option ((List (List Int)) × Int × (List Int))
  | 0, _ => none
  | n + 1, v12 => solve_reduced_lead_B7 kx96 z10 z11 (solve_reduced_lead_L7 kx96 z10 z11 n) v12
def solve_reduced_lead (x0 : (Int × Int × (List (List Int)) × Int × (List Int))) (x1 : Int) : Option ((List (List Int)) × Int × (List Int)) :=
  solve_reduced_lead_L7 (solve_reduced_lead_J6 x1 x0.1 x0.2.2.2.1 x0.2.2.2.2 x0.2.2.1) x1 x0.2.2.1 big x0.2.2.2.1
def solve_reduce_B1 (z10 : Int) (z11 : Int) (z12 : Int) (rec13 : Int → (List (List Int)) → Int → (List Int) → Option (Int × Int × (List (List Int)) × Int × (List Int))) (v14 : Int) (v15 : List (List Int)) (v16 : Int) (v17 : List Int) : Option (Int × Int × (List (List Int)) × Int × (List Int)) :=
  if (v14 < z10) then ((solve_reduced_lead (z11, z12, v15, v16, v17) v14).bind fun u18 => rec13 (w64 (v14 + 1)) u18.1 u18.2.1 u18.2.2) else
 some (z11, z12, v15, v16, v17)
def solve_reduce_L1 (z10 : Int) (z11 : Int) (z12 : Int) : Nat → Int → (List (List Int)) → Int → (List Int) → Option (Int × Int × (List (List Int)) × Int × (List Int))
  | 0, _, _, _, _ => none
  | n + 1, v13, v14, v15, v16 => solve_reduce_B1 z10 z11 z12 (solve_reduce_L1 z10 z11 z12 n) v13 v14 v15 v16
def solve_reduce_J2 (v10 : Int) (v11 : Int) (v12 : List (List Int)) (v13 : Int) (v14 : List Int) (v15 : Int) (v16 : Int) (v17 : Int) : Option (Int × Int × (List (List Int)) × Int × (List Int)) :=
  solve_reduce_L1 v17 v10 v11 big 0 v12 v13 v14
def solve_reduce_B3 (kx10 : Int → Int → (List (List Int)) → Int → (List Int) → Int → Int → Int → Option (Int × Int × (List (List Int)) × Int × (List Int))) (z11 : Int) (z12 : Int) (z13 : Int) (z14 : List Int) (z15 : List Int) (z16 : List Int) (rec17 : Int → (List (List Int)) → Option (Int × Int × (List (List Int)) × Int × (List Int))) (v18 : Int) (v19 : List (List Int)) : Option (Int × Int × (List (List Int)) × Int × (List Int)) :=
  if (v18 < z11) then ((lsub z15 (w64 (v18 * z13)) (w64 ((w64 (v18 + 1)) * z13))).bind fun u20 => (lapp ([] : List Int) u20).bind fun u21 => (lidx z16 v18).bind fun u22 => (lapp u21 ([u22] : List Int)).bind fun u23 => (lapp v19 ([u23] : List (List Int))).bind fun u24 => rec17 (w64 (v18 + 1)) u24) else
 kx10 z12 z13 v19 0 z14 z12 z11 z13
def solve_reduce_L3 (kx10 : Int → Int → (List (List Int)) → Int → (List Int) → Int → Int → Int → Option (Int × Int × (List (List Int)) × Int × (List Int))) (z11 : Int) (z12 : Int) (z13 : Int) (z14 : List Int) (z15 : List Int) (z16 : List Int) : Nat → Int → (List (List Int)) → Option (Int × Int × (List (List Int)) × Int × (List Int))
  | 0, _, _ => none
  | n + 1, v17, v18 => solve_reduce_B3 kx10 z11 z12 z13 z14 z15 z16 (solve_reduce_L3 kx10 z11 z12 z13 z14 z15 z16 n) v17 v18
def solve_reduce (x0 : (Int × Int × Int × (List Int) × (List Int))) : Option (Int × Int × (List (List Int)) × Int × (List Int)) :=
  solve_reduce_L3 solve_reduce_J2 x0.2.1 x0.1 x0.2.2.1 (List.replicate 32 (0 : Int)) x0.2.2.2.1 x0.2.2.2.2 big 0 ([] : List (List Int))
def solve_reduced_solvable_B1 (z42 : Int) (rec33 : Option Bool) (x47 : (List Int)) : Option Bool :=
  (lidx x47 z42).bind fun u55 => if (u55 ≠ 0) then (some false) else
 rec33
def solve_reduced_solvable_L1 (z42 : Int) : (List (List Int)) → Option Bool
  | [] => some true
  | x47 :: xs => solve_reduced_solvable_B1 z42 (solve_reduced_solvable_L1 z42 xs) x47
def solve_reduced_solvable (x0 : (Int × Int × (List (List Int)) × Int × (List Int))) : Option Bool :=
  (lsub x0.2.2.1 x0.2.2.2.1 (x0.2.2.1.length : Int)).bind fun u1 => solve_reduced_solvable_L1 x0.2.1 u1
def solve_Solve_B1 (z93 : List (List Int)) (z95 : List Int) (z98 : Int) (rec78 : (List Int) → Option ((List Int) × Int)) (x10 : Int) (i78 : Nat) (v82 : List Int) : Option ((List Int) × Int) :=
  (lidx z95 (i78 : Int)).bind fun u11 => if (0 < u11) then ((lidx z93 (w64 (u11 - 1))).bind fun u12 => (lidx u12 z98).bind fun u13 => (lidx v82 (i78 : Int)).bind fun u14 => (lupd v82 (i78 : Int) u13).bind fun u15 => rec78 u15) else
 rec78 v82
def solve_Solve_L1 (z93 : List (List Int)) (z95 : List Int) (z98 : Int) : (List Int) → Nat → (List Int) → Option ((List Int) × Int)
  | [], i78, v82 => some (v82, 0)
  | x10 :: xs, i78, v82 => solve_Solve_B1 z93 z95 z98 (solve_Solve_L1 z93 z95 z98 xs (i78 + 1)) x10 i78 v82
def solve_Solve (x0 : (Int × Int × Int × (List Int) × (List Int))) : Option ((List Int) × Int) :=
  (solve_Check x0).bind fun u2 => if (u2 ≠ 0) then (some (([] : List Int), u2)) else
(solve_reduce x0).bind fun u10 => (solve_reduced_solvable u10).bind fun u23 => if ((!u23) = true) then (some (([] : List Int), 6)) else
(lmk x0.2.2.1 0).bind fun u31 => solve_Solve_L1 u10.2.2.1 u10.2.2.2.2 x0.2.2.1 u31 0 u31
def poly_Divide_J1 (v10 : List Int) (v11 : Int) (v12 : Int) (v13 : List Int) : Option ((List Int) × (List Int) × Int) :=
  (poly_own v13).bind fun u14 => (lsub v10 v11 v12).bind fun u15 => (poly_own u15).bind fun u16 => some (u14, u16, 0)
def poly_Divide_J2 (rec10 : (List Int) → Int → Int → (List Int) → Option ((List Int) × (List Int) × Int)) (z11 : Int) (z12 : Int) (z13 : List Int) (v14 : List Int) : Option ((List Int) × (List Int) × Int) :=
  (psub3 z11 z12 0 (w64 (((z12 - z11).toNat : Int) - 1)) (w64 (((z12 - z11).toNat : Int) - 1))).bind fun u15 => (lsub v14 u15.1 u15.2).bind fun u16 => (residue_Trim_p u16).bind fun u17 => (psub u15.1 u15.2 u17.1.1 u17.1.2).bind fun u18 => rec10 (lcpy v14 u15.1 u16.length u17.2) u18.1 u18.2 z13
def poly_Divide_B3 (kx10 : (List Int) → Int → Int → (List Int) → Option ((List Int) × (List Int) × Int)) (z11 : List Int) (z12 : Int) (z13 : Int) (z14 : Int) (rec15 : (List Int) → Int → Int → (List Int) → Option ((List Int) × (List Int) × Int)) (v16 : List Int) (v17 : Int) (v18 : Int) (v19 : List Int) : Option ((List Int) × (List Int) × Int) :=
  if (z13 ≤ ((v18 - v17).toNat : Int)) then ((pidx v17 v18 (w64 (((v18 - v17).toNat : Int) - 1))).bind fun u20 => (lidx v16 u20).bind fun u21 => (residue_Field_Mul z12 u21 z14).bind fun u22 => (lidx v19 (w64 (((v18 - v17).toNat : Int) - z13))).bind fun u23 => (lupd v19 (w64 (((v18 - v17).toNat : Int) - z13)) u22).bind fun u24 => (psub v17 v18 (w64 (((v18 - v17).toNat : Int) - z13)) (v18 - v17)).bind fun u25 => (residue_Field_Sub z12 0 u22).bind fun u26 => (lsub v16 u25.1 u25.2).bind fun u27 => (residue_Field_AddTimes z12 u27 u26 z11).bind fun u28 => (poly_Divide_J2 rec15 v17 v18 u24) (lcpy v16 u25.1 u27.length u28)) else
 kx10 v16 v17 v18 v19
def poly_Divide_L3 (kx10 : (List Int) → Int → Int → (List Int) → Option ((List Int) × (List Int) × Int)) (z11 : List Int) (z12 : Int) (z13 : Int) (z14 : Int) : Nat → (List Int) → Int → Int → (List Int) → Option ((List Int) × (List Int) × Int)
  | 0, _, _, _, _ => none
  | n + 1, v15, v16, v17, v18 => poly_Divide_B3 kx10 z11 z12 z13 z14 (poly_Divide_L3 kx10 z11 z12 z13 z14 n) v15 v16 v17 v18
def poly_Divide (x0 : Int) (x1 : (List Int)) (x2 : (List Int)) : Option ((List Int) × (List Int) × Int) :=
  (poly_open x0 ([x1, x2] : List (List Int))).bind fun u10 => if (u10.2 ≠ 0) then (some (([] : List Int), ([] : List Int), u10.2)) else
(poly_own x1).bind fun u19 => (residue_Trim x2).bind fun u28 => if ((u28.length : Int) = 0) then (some (([] : List Int), ([] : List Int), 10)) else
(lmk (max 0 (w64 ((w64 ((u19.length : Int) - (u28.length : Int))) + 1))) 0).bind fun u40 => (lidx u28 (w64 ((u28.length : Int) - 1))).bind fun u46 => (residue_Field_Inverse u10.1 u46).bind fun u51 => poly_Divide_L3 poly_Divide_J1 u28 u10.1 (u28.length : Int) u51 big u19 0 (u19.length : Int) u40
def unique_wrongs_B1 (z10 : Int) (z11 : List Int) (rec88 : (List Int) → Option (List Int)) (x12 : (Int × Bool)) (i88 : Nat) (v92 : List Int) : Option (List Int) :=
  (if (x12.2 = true) then ((residue_Field_Value z10 z11 (w64 ((i88 : Int) + 1))).bind fun u13 => some (decide (u13 ≠ x12.1))) else some false).bind fun u14 => if (u14 = true) then ((lapp v92 ([(w64 ((i88 : Int) + 1))] : List Int)).bind fun u15 => rec88 u15) else
 rec88 v92
def unique_wrongs_L1 (z10 : Int) (z11 : List Int) : (List (Int × Bool)) → Nat → (List Int) → Option (List Int)
  | [], i88, v92 => some v92
  | x12 :: xs, i88, v92 => unique_wrongs_B1 z10 z11 (unique_wrongs_L1 z10 z11 xs (i88 + 1)) x12 i88 v92
def unique_wrongs (x0 : Int) (x1 : (List (Int × Bool))) (x2 : (List Int)) : Option (List Int) :=
  unique_wrongs_L1 x0 x2 x1 0 ([] : List Int)
def unique_decode_J1 (z10 : List (Int × Bool)) (z11 : Int) (z12 : Int) (z13 : Int) (v14 : List Int) (v15 : List Int) : Option (((List Int) × (List Int)) × (Option Int)) :=
  (poly_Divide z13 v14 v15).bind fun u16 => if (((u16.2.2 ≠ 0) ∨ (0 < (u16.2.1.length : Int))) ∨ (z11 < (u16.1.length : Int))) then (some ((([] : List Int), ([] : List Int)), (some 12))) else
(unique_wrongs z13 z10 u16.1).bind fun u17 => if (z12 < (u17.length : Int)) then (some ((([] : List Int), ([] : List Int)), (some 12))) else
 some ((u16.1, u17), (none : (Option Int)))
def unique_decode (x0 : Int) (x1 : (List (Int × Bool))) (x2 : Int) : Option (((List Int) × (List Int)) × (Option Int)) :=
  (code_Fill x0 x1 x2).bind fun u3 => if (u3.2 ≠ 0) then ((unique_of u3.2).bind fun u14 => some ((([] : List Int), ([] : List Int)), u14)) else
(unique_count x1).bind fun u19 => (unique_Radius u19 x2).bind fun u23 => (unique_Key x0 x1 x2 u23.1).bind fun u27 => if (u27.2 ≠ 0) then ((unique_of u27.2).bind fun u44 => some ((([] : List Int), ([] : List Int)), u44)) else
(solve_Solve u27.1).bind fun u49 => if (u49.2 ≠ 0) then (some ((([] : List Int), ([] : List Int)), (some 12))) else
(lsub u49.1 0 (w64 (x2 + u23.1))).bind fun u10 => (lsub u49.1 (w64 (x2 + u23.1)) (u49.1.length : Int)).bind fun u11 => (slices_Clone_Lintint u11).bind fun u12 => (lapp u12 ([1] : List Int)).bind fun u13 => (unique_decode_J1 x1 x2 u23.1 x0) u10 u13
def errors_Is (x0 x1 : Option Int) : Option Bool := match x1 with
  | none => none
  | some e => some (decide (x0 = some e))
def unique_number (x0 : Option Int) : Option Int := some (x0.getD 0)
def unique_Decode (x0 : Int) (x1 : (List (Int × Bool))) (x2 : Int) : Option (((List Int) × (List Int)) × Int) :=
  (unique_decode x0 x1 x2).bind fun u3 => (errors_Is u3.2 (some 12)).bind fun u18 => if (u18 = true) then (some ((([] : List Int), ([] : List Int)), 12)) else
(unique_number u3.2).bind fun u25 => some (u3.1, u25)
def columns_Columns_Decode_J1 (v10 : List (Int × Bool)) (v11 : Int) (v12 : Int) : Option (((List Int) × (List Int)) × Int) :=
  (unique_Decode v11 v10 v12).bind fun u13 => some (u13.1, u13.2)
def columns_Columns_Decode_J2 (rec10 : (List (Int × Bool)) → Option (((List Int) × (List Int)) × Int)) (z11 : Bool) (z12 : List (Int × Bool)) (v13 : Int) : Option (((List Int) × (List Int)) × Int) :=
  (lapp z12 ([(v13, z11)] : List (Int × Bool))).bind fun u14 => rec10 u14
def columns_Columns_Decode_B3 (kx10 : (List (Int × Bool)) → Int → Int → Option (((List Int) × (List Int)) × Int)) (z11 : Int) (z12 : Int) (z13 : Int) (rec14 : (List (Int × Bool)) → Option (((List Int) × (List Int)) × Int)) (x15 : (Bool × (List Int))) (v16 : List (Int × Bool)) : Option (((List Int) × (List Int)) × Int) :=
  if (x15.1 = true) then ((lidx x15.2 z11).bind fun u17 => (columns_Columns_Decode_J2 rec14 x15.1 v16) u17) else
(columns_Columns_Decode_J2 rec14 x15.1 v16) 0
def columns_Columns_Decode_L3 (kx10 : (List (Int × Bool)) → Int → Int → Option (((List Int) × (List Int)) × Int)) (z11 : Int) (z12 : Int) (z13 : Int) : (List (Bool × (List Int))) → (List (Int × Bool)) → Option (((List Int) × (List Int)) × Int)
  | [], v14 => kx10 v14 z12 z13
  | x15 :: xs, v14 => columns_Columns_Decode_B3 kx10 z11 z12 z13 (columns_Columns_Decode_L3 kx10 z11 z12 z13 xs) x15 v14
def columns_Columns_Decode (x0 : (Int × Int × (List (Bool × (List Int))))) (x1 : Int) : Option (((List Int) × (List Int)) × Int) :=
  columns_Columns_Decode_L3 columns_Columns_Decode_J1 x1 x0.1 x0.2.1 x0.2.2 ([] : List (Int × Bool))
def cmp_isNaN_int (x0 : Int) : Option Bool :=
  some (decide (x0 ≠ x0))
def cmp_Less_int (x0 : Int) (x1 : Int) : Option Bool :=
  (cmp_isNaN_int x0).bind fun u1 => (if (u1 = true) then ((cmp_isNaN_int x1).bind fun u21 => some (!u21)) else some false).bind fun u11 => some (decide ((u11 = true) ∨ (x0 < x1)))
def slices_insertionSortOrdered_int_J1 (rec10 : Int → (List Int) → Option (List Int)) (rec11 : Int → (List Int) → Option (List Int)) (z12 : Int) (z13 : Int) (z14 : List Int) (v15 : Bool) : Option (List Int) :=
  if (v15 = true) then ((lidx z14 (w64 (z12 - 1))).bind fun u16 => (lidx z14 z12).bind fun u17 => (lidx z14 z12).bind fun u18 => (lupd z14 z12 u16).bind fun u19 => (lidx u19 (w64 (z12 - 1))).bind fun u20 => (lupd u19 (w64 (z12 - 1)) u17).bind fun u21 => rec10 (w64 (z12 - 1)) u21) else
 rec11 (w64 (z13 + 1)) z14
def slices_insertionSortOrdered_int_B2 (rec10 : Int → (List Int) → Option (List Int)) (z11 : Int) (z12 : Int) (rec13 : Int → (List Int) → Option (List Int)) (v14 : Int) (v15 : List Int) : Option (List Int) :=
  (if (z12 < v14) then ((lidx v15 v14).bind fun u16 => (lidx v15 (w64 (v14 - 1))).bind fun u17 => (cmp_Less_int u16 u17).bind fun u18 => some u18) else some false).bind fun u19 => (slices_insertionSortOrdered_int_J1 rec13 rec10 v14 z11 v15) u19
def slices_insertionSortOrdered_int_L2 (rec10 : Int → (List Int) → Option (List Int)) (z11 : Int) (z12 : Int) : Nat → Int → (List Int) → Option (List Int)
  | 0, _, _ => none
  | n + 1, v13, v14 => slices_insertionSortOrdered_int_B2 rec10 z11 z12 (slices_insertionSortOrdered_int_L2 rec10 z11 z12 n) v13 v14
def slices_insertionSortOrdered_int_B3 (z10 : Int) (z11 : Int) (rec12 : Int → (List Int) → Option (List Int)) (v13 : Int) (v14 : List Int) : Option (List Int) :=
  if (v13 < z11) then (slices_insertionSortOrdered_int_L2 rec12 v13 z10 big v13 v14) else
 some v14
def slices_insertionSortOrdered_int_L3 (z10 : Int) (z11 : Int) : Nat → Int → (List Int) → Option (List Int)
  | 0, _, _ => none
  | n + 1, v12, v13 => slices_insertionSortOrdered_int_B3 z10 z11 (slices_insertionSortOrdered_int_L3 z10 z11 n) v12 v13
def slices_insertionSortOrdered_int (x0 : (List Int)) (x1 : Int) (x2 : Int) : Option (List Int) :=
  slices_insertionSortOrdered_int_L3 x1 x2 big (w64 (x1 + 1)) x0
def math_bits_Len64_J1 (v21 : Int) (v22 : Int) : Option Int :=
  (sidx ⟨#[0, 1, 2, 2, 3, 3, 3, 3, 4, 4, 4, 4, 4, 4, 4, 4, 5, 5, 5, 5, 5, 5, 5, 5, 5, 5, 5, 5, 5, 5, 5, 5, 6, 6, 6, 6, 6, 6, 6, 6, 6, 6, 6, 6, 6, 6, 6, 6, 6, 6, 6, 6, 6, 6, 6, 6, 6, 6, 6, 6, 6, 6, 6, 6, 7, 7, 7, 7, 7, 7, 7, 7, 7, 7, 7, 7, 7, 7, 7, 7, 7, 7, 7, 7, 7, 7, 7, 7, 7, 7, 7, 7, 7, 7, 7, 7, 7, 7, 7, 7, 7, 7, 7, 7, 7, 7, 7, 7, 7, 7, 7, 7, 7, 7, 7, 7, 7, 7, 7, 7, 7, 7, 7, 7, 7, 7, 7, 7, 8, 8, 8, 8, 8, 8, 8, 8, 8, 8, 8, 8, 8, 8, 8, 8, 8, 8, 8, 8, 8, 8, 8, 8, 8, 8, 8, 8, 8, 8, 8, 8, 8, 8, 8, 8, 8, 8, 8, 8, 8, 8, 8, 8, 8, 8, 8, 8, 8, 8, 8, 8, 8, 8, 8, 8, 8, 8, 8, 8, 8, 8, 8, 8, 8, 8, 8, 8, 8, 8, 8, 8, 8, 8, 8, 8, 8, 8, 8, 8, 8, 8, 8, 8, 8, 8, 8, 8, 8, 8, 8, 8, 8, 8, 8, 8, 8, 8, 8, 8, 8, 8, 8, 8, 8, 8, 8, 8, 8, 8, 8, 8, 8, 8, 8, 8, 8, 8, 8, 8, 8, 8, 8, 8, 8, 8, 8, 8]⟩ (wu8 v21)).bind fun u25 => some (w64 (v22 + (w64 u25)))
def math_bits_Len64_J2 (v13 : Int) (v14 : Int) : Option Int :=
  if (256 ≤ v13) then (math_bits_Len64_J1 (shrI .u64 v13 8) (w64 (v14 + 8))) else
 math_bits_Len64_J1 v13 v14
def math_bits_Len64_J3 (v5 : Int) (v6 : Int) : Option Int :=
  if (65536 ≤ v5) then (math_bits_Len64_J2 (shrI .u64 v5 16) (w64 (v6 + 16))) else
 math_bits_Len64_J2 v5 v6
def math_bits_Len64 (x0 : Int) : Option Int :=
  if (4294967296 ≤ x0) then (math_bits_Len64_J3 (shrI .u64 x0 32) 32) else
 math_bits_Len64_J3 x0 0
def math_bits_Len (x0 : Int) : Option Int :=
  (math_bits_Len64 x0).bind fun u1 => some u1
def slices_pdqsortOrdered_int_B1 (z24 : Int) (z25 : Int) (z27 : List Int) (rec21 : Option (List Int)) : Option (List Int) :=
  if ((w64 (z25 - z24)) ≤ 12) then ((slices_insertionSortOrdered_int z27 z24 z25).bind fun u32 => some u32) else
 none
def slices_pdqsortOrdered_int_L1 (z24 : Int) (z25 : Int) (z27 : List Int) : Nat → Option (List Int)
  | 0 => none
  | n + 1 => slices_pdqsortOrdered_int_B1 z24 z25 z27 (slices_pdqsortOrdered_int_L1 z24 z25 z27 n)
def slices_pdqsortOrdered_int_B2 (rec10 : (List Int) → Int → Int → Int → Option (List Int)) (x0 : (List Int)) (x1 : Int) (x2 : Int) (x3 : Int) : Option (List Int) :=
  slices_pdqsortOrdered_int_L1 x1 x2 x0 big
def slices_pdqsortOrdered_int_R : Nat → (List Int) → Int → Int → Int → Option (List Int)
  | 0, _, _, _, _ => none
  | n + 1, x0, x1, x2, x3 => slices_pdqsortOrdered_int_B2 (slices_pdqsortOrdered_int_R n) x0 x1 x2 x3
def slices_pdqsortOrdered_int (x0 : (List Int)) (x1 : Int) (x2 : Int) (x3 : Int) : Option (List Int) := slices_pdqsortOrdered_int_R big x0 x1 x2 x3
def slices_Sort_Lintint (x0 : (List Int)) : Option (List Int) :=
  (math_bits_Len (IntKind.u64.wrap (x0.length : Int))).bind fun u2 => (slices_pdqsortOrdered_int x0 0 (x0.length : Int) u2).bind fun u6 => some u6
def slices_Compact_Lintint_J1 (v10 : Int) (v11 : List Int) : Option ((Int × Int) × (List Int)) :=
  (psub 0 (v11.length : Int) v10 ((v11.length : Int) - 0)).bind fun u12 => (lsub v11 u12.1 u12.2).bind fun u13 => (psub 0 ((lcpy v11 u12.1 u13.length (List.replicate u13.length 0)).length : Int) 0 v10).bind fun u14 => some ((u14.1, u14.2), (lcpy v11 u12.1 u13.length (List.replicate u13.length 0)))
def slices_Compact_Lintint_J2 (rec10 : Int → Int → (List Int) → Option ((Int × Int) × (List Int))) (z11 : Int) (z12 : Int) (z13 : Int) (z14 : Int) (z15 : List Int) (v16 : Bool) : Option ((Int × Int) × (List Int)) :=
  if (v16 = true) then ((pidx z13 z14 z12).bind fun u17 => (lidx z15 u17).bind fun u18 => (lidx z15 z11).bind fun u19 => (lupd z15 z11 u18).bind fun u20 => rec10 (w64 (z11 + 1)) (w64 (z12 + 1)) u20) else
 rec10 z11 (w64 (z12 + 1)) z15
def slices_Compact_Lintint_B3 (kx10 : Int → (List Int) → Option ((Int × Int) × (List Int))) (z11 : Int) (z12 : Int) (rec13 : Int → Int → (List Int) → Option ((Int × Int) × (List Int))) (v14 : Int) (v15 : Int) (v16 : List Int) : Option ((Int × Int) × (List Int)) :=
  if (v15 < ((z12 - z11).toNat : Int)) then ((pidx z11 z12 v15).bind fun u17 => (lidx v16 u17).bind fun u18 => (pidx z11 z12 (w64 (v15 - 1))).bind fun u19 => (lidx v16 u19).bind fun u20 => (slices_Compact_Lintint_J2 rec13 v14 v15 z11 z12 v16) (decide (u18 ≠ u20))) else
 kx10 v14 v16
def slices_Compact_Lintint_L3 (kx10 : Int → (List Int) → Option ((Int × Int) × (List Int))) (z11 : Int) (z12 : Int) : Nat → Int → Int → (List Int) → Option ((Int × Int) × (List Int))
  | 0, _, _, _ => none
  | n + 1, v13, v14, v15 => slices_Compact_Lintint_B3 kx10 z11 z12 (slices_Compact_Lintint_L3 kx10 z11 z12 n) v13 v14 v15
def slices_Compact_Lintint_J4 (rec10 : Int → Option ((Int × Int) × (List Int))) (z11 : Int) (z12 : List Int) (v13 : Bool) : Option ((Int × Int) × (List Int)) :=
  if (v13 = true) then ((psub 0 (z12.length : Int) z11 ((z12.length : Int) - 0)).bind fun u14 => slices_Compact_Lintint_L3 slices_Compact_Lintint_J1 u14.1 u14.2 big z11 1 z12) else
 rec10 (w64 (z11 + 1))
def slices_Compact_Lintint_B5 (z10 : List Int) (rec11 : Int → Option ((Int × Int) × (List Int))) (v12 : Int) : Option ((Int × Int) × (List Int)) :=
  if (v12 < (z10.length : Int)) then ((lidx z10 v12).bind fun u13 => (lidx z10 (w64 (v12 - 1))).bind fun u14 => (slices_Compact_Lintint_J4 rec11 v12 z10) (decide (u13 = u14))) else
 some ((0, (z10.length : Int)), z10)
def slices_Compact_Lintint_L5 (z10 : List Int) : Nat → Int → Option ((Int × Int) × (List Int))
  | 0, _ => none
  | n + 1, v11 => slices_Compact_Lintint_B5 z10 (slices_Compact_Lintint_L5 z10 n) v11
def slices_Compact_Lintint (x0 : (List Int)) : Option ((Int × Int) × (List Int)) :=
  if ((x0.length : Int) < 2) then (some ((0, (x0.length : Int)), x0)) else
 slices_Compact_Lintint_L5 x0 big 1
def columns_Columns_All_J1 (v10 : List (List Int)) (v11 : List Int) (v12 : Int) (v13 : Int) : Option ((List (List Int)) × (List Int) × Int) :=
  (slices_Sort_Lintint v11).bind fun u14 => (slices_Compact_Lintint u14).bind fun u15 => (lsub u15.2 u15.1.1 u15.1.2).bind fun u16 => (slices_Clone_Lintint u16).bind fun u17 => some (v10, u17, 0)
def columns_Columns_All_B2 (kx10 : (List (List Int)) → (List Int) → Int → Int → Option ((List (List Int)) × (List Int) × Int)) (z11 : Int) (z12 : Int) (z13 : Int) (z14 : List (Bool × (List Int))) (rec15 : (List (List Int)) → (List Int) → Int → Option ((List (List Int)) × (List Int) × Int)) (v16 : List (List Int)) (v17 : List Int) (v18 : Int) : Option ((List (List Int)) × (List Int) × Int) :=
  if (v18 < z11) then ((columns_Columns_Decode (z12, z13, z14) v18).bind fun u19 => if (u19.2 ≠ 0) then (some (([] : List (List Int)), ([] : List Int), 12)) else
(lapp v16 ([u19.1.1] : List (List Int))).bind fun u20 => (lapp v17 u19.1.2).bind fun u21 => rec15 u20 u21 (w64 (v18 + 1))) else
 kx10 v16 v17 z12 z13
def columns_Columns_All_L2 (kx10 : (List (List Int)) → (List Int) → Int → Int → Option ((List (List Int)) × (List Int) × Int)) (z11 : Int) (z12 : Int) (z13 : Int) (z14 : List (Bool × (List Int))) : Nat → (List (List Int)) → (List Int) → Int → Option ((List (List Int)) × (List Int) × Int)
  | 0, _, _, _ => none
  | n + 1, v15, v16, v17 => columns_Columns_All_B2 kx10 z11 z12 z13 z14 (columns_Columns_All_L2 kx10 z11 z12 z13 z14 n) v15 v16 v17
def columns_Columns_All (x0 : (Int × Int × (List (Bool × (List Int))))) (x1 : Int) : Option ((List (List Int)) × (List Int) × Int) :=
  columns_Columns_All_L2 columns_Columns_All_J1 x1 x0.1 x0.2.1 x0.2.2 big ([] : List (List Int)) ([] : List Int) 0
def columns_Coefficient (x0 : (List Int)) (x1 : Int) : Option Int :=
  if (x1 < (x0.length : Int)) then ((lidx x0 x1).bind fun u3 => some u3) else
 some 0
def curve_Decode_J1 (z10 : List Int) (v11 : List Int) (v12 : Int) (v13 : Int) (v14 : Int) (v15 : Int) (v16 : Int) : Option (((List Int) × (List Int)) × Int) :=
  some ((v11, z10), 0)
def curve_Decode_B2 (kx10 : (List Int) → Int → Int → Int → Int → Int → Option (((List Int) × (List Int)) × Int)) (z11 : Int) (z12 : Int) (z13 : Int) (z14 : Int) (rec15 : (List Int) → Option (((List Int) × (List Int)) × Int)) (x16 : (List Int)) (v17 : List Int) : Option (((List Int) × (List Int)) × Int) :=
  (columns_Coefficient x16 0).bind fun u18 => (lapp v17 ([u18] : List Int)).bind fun u19 => rec15 u19
def curve_Decode_L2 (kx10 : (List Int) → Int → Int → Int → Int → Int → Option (((List Int) × (List Int)) × Int)) (z11 : Int) (z12 : Int) (z13 : Int) (z14 : Int) : (List (List Int)) → (List Int) → Option (((List Int) × (List Int)) × Int)
  | [], v15 => kx10 v15 z11 z12 z13 z14 z11
  | x16 :: xs, v15 => curve_Decode_B2 kx10 z11 z12 z13 z14 (curve_Decode_L2 kx10 z11 z12 z13 z14 xs) x16 v15
def curve_Decode (x0 : Int) (x1 : (Int × Int)) (x2 : Int) (x3 : (List (Bool × (List Int)))) : Option (((List Int) × (List Int)) × Int) :=
  (curve_Check x0 x1).bind fun u4 => if (u4 ≠ 0) then (some ((([] : List Int), ([] : List Int)), u4)) else
(columns_Check x0 x2 x1.1 (w64 (x1.2 + 1)) x3).bind fun u11 => if (u11 ≠ 0) then (some ((([] : List Int), ([] : List Int)), u11)) else
(columns_Columns_All (x0, (w64 (x1.2 + 1)), x3) x2).bind fun u19 => if (u19.2.2 ≠ 0) then (some ((([] : List Int), ([] : List Int)), u19.2.2)) else
 curve_Decode_L2 (curve_Decode_J1 u19.2.1) x0 (w64 (x1.2 + 1)) x1.1 x1.2 u19.1 ([] : List Int)
def top_awake : Option Bool :=
  (curve_Queries 5 (3, 1) 2 1 (([4, 2] : List Int), 0)).bind fun u30 => if ((u30.2.2 ≠ 0) ∨ ((u30.1.length : Int) ≠ 3)) then (some false) else
(lidx u30.1 0).bind fun u62 => (parity_Answer 5 2 ([([1, 2] : List Int), ([3, 4] : List Int)] : List (List Int)) u62).bind fun u70 => (lidx u30.1 2).bind fun u79 => (parity_Answer 5 2 ([([1, 2] : List Int), ([3, 4] : List Int)] : List (List Int)) u79).bind fun u87 => (curve_Decode 5 (3, 1) 2 ([(true, u70.1), (false, ([] : List Int)), (true, u87.1)] : List (Bool × (List Int)))).bind fun u10 => (if (((u70.2 = 0) ∧ (u87.2 = 0)) ∧ (u10.2 = 0)) then ((ref04_Same u10.1.1 ([3, 4] : List Int)).bind fun u11 => some u11) else some false).bind fun u12 => some u12
def make_Few (x0 : (List Int)) : Option Bool :=
  some (decide ((x0.length : Int) ≤ 500))
def make_New (x0 : (List Int)) : Option ((List Int) × Int) :=
  some (x0, 0)
def make_Mod (x0 : Int) (x1 : Int) : Option Int :=
  (nz x1).bind fun _ => (nz x1).bind fun _ => some (Int.tmod (w64 ((Int.tmod x0 x1) + x1)) x1)
def make_Deck_Next (x0 : ((List Int) × Int)) (x1 : Int) : Option (Int × ((List Int) × Int)) :=
  if ((x1 < 1) ∨ ((x0.1.length : Int) ≤ x0.2)) then (some (0, x0)) else
(lidx x0.1 x0.2).bind fun u8 => (make_Mod u8 x1).bind fun u13 => some (u13, (x0.1, (w64 (x0.2 + 1))))
def make_Word_J1 (v97 : List Int) (v10 : List Int) (v11 : Int) : Option (ByteArray × ((List Int) × Int)) :=
  some ((ofB v97), (v10, v11))
def make_Word_B2 (kx10 : (List Int) → (List Int) → Int → Option (ByteArray × ((List Int) × Int))) (rec11 : (List Int) → Int → (List Int) → Int → Option (ByteArray × ((List Int) × Int))) (v12 : List Int) (v13 : Int) (v14 : List Int) (v15 : Int) : Option (ByteArray × ((List Int) × Int)) :=
  if (0 ≤ v13) then ((make_Deck_Next (v14, v15) 4).bind fun u16 => (lapp v12 ([(wu8 (w64 (97 + u16.1)))] : List Int)).bind fun u17 => rec11 u17 (w64 (v13 - 1)) u16.2.1 u16.2.2) else
 kx10 v12 v14 v15
def make_Word_L2 (kx10 : (List Int) → (List Int) → Int → Option (ByteArray × ((List Int) × Int))) : Nat → (List Int) → Int → (List Int) → Int → Option (ByteArray × ((List Int) × Int))
  | 0, _, _, _, _ => none
  | n + 1, v11, v12, v13, v14 => make_Word_B2 kx10 (make_Word_L2 kx10 n) v11 v12 v13 v14
def make_Word (x0 : ((List Int) × Int)) : Option (ByteArray × ((List Int) × Int)) :=
  (make_Deck_Next x0 4).bind fun u1 => make_Word_L2 make_Word_J1 big ([] : List Int) u1.1 u1.2.1 u1.2.2
def make_Words_J1 (rec10 : (List ByteArray) → Int → (List Int) → Int → Option ((List ByteArray) × ((List Int) × Int))) (z11 : Int) (z12 : ByteArray) (z13 : List Int) (z14 : List ByteArray) (v15 : Bool) (v16 : Int) : Option ((List ByteArray) × ((List Int) × Int)) :=
  if ((!v15) = true) then ((lapp z14 ([z12] : List ByteArray)).bind fun u17 => rec10 u17 (w64 (z11 - 1)) z13 v16) else
 rec10 z14 (w64 (z11 - 1)) z13 v16
def make_Words_B2 (kx10 : Bool → Int → Option ((List ByteArray) × ((List Int) × Int))) (z11 : ByteArray) (z12 : Int) (rec13 : Bool → Option ((List ByteArray) × ((List Int) × Int))) (x14 : ByteArray) (v15 : Bool) : Option ((List ByteArray) × ((List Int) × Int)) :=
  rec13 (decide ((v15 = true) ∨ (x14 = z11)))
def make_Words_L2 (kx10 : Bool → Int → Option ((List ByteArray) × ((List Int) × Int))) (z11 : ByteArray) (z12 : Int) : (List ByteArray) → Bool → Option ((List ByteArray) × ((List Int) × Int))
  | [], v13 => kx10 v13 z12
  | x14 :: xs, v13 => make_Words_B2 kx10 z11 z12 (make_Words_L2 kx10 z11 z12 xs) x14 v13
def make_Words_B3 (rec10 : (List ByteArray) → Int → (List Int) → Int → Option ((List ByteArray) × ((List Int) × Int))) (v11 : List ByteArray) (v12 : Int) (v13 : List Int) (v14 : Int) : Option ((List ByteArray) × ((List Int) × Int)) :=
  if (0 < v12) then ((make_Word (v13, v14)).bind fun u15 => make_Words_L2 (make_Words_J1 rec10 v12 u15.1 u15.2.1 v11) u15.1 u15.2.2 v11 false) else
 some (v11, (v13, v14))
def make_Words_L3 : Nat → (List ByteArray) → Int → (List Int) → Int → Option ((List ByteArray) × ((List Int) × Int))
  | 0, _, _, _, _ => none
  | n + 1, v10, v11, v12, v13 => make_Words_B3 (make_Words_L3 n) v10 v11 v12 v13
def make_Words (x0 : ((List Int) × Int)) (x1 : Int) : Option ((List ByteArray) × ((List Int) × Int)) :=
  (make_Deck_Next x0 (w64 (x1 + 1))).bind fun u1 => make_Words_L3 big ([] : List ByteArray) u1.1 u1.2.1 u1.2.2
def make_Fence_J1 (z10 : List Int) (v11 : List ByteArray) (v12 : Int) (v13 : Int) : Option ((Int × (List ByteArray)) × ((List Int) × Int)) :=
  (make_Deck_Next (z10, v12) 5).bind fun u14 => some (((w64 (2 + u14.1)), v11), u14.2)
def make_Fence_J2 (rec10 : (List ByteArray) → Int → Int → Option ((Int × (List ByteArray)) × ((List Int) × Int))) (z11 : Int) (z12 : ByteArray) (z13 : Int) (z14 : Int) (v15 : List ByteArray) : Option ((Int × (List ByteArray)) × ((List Int) × Int)) :=
  (lidx v15 z11).bind fun u16 => (lupd v15 z11 z12).bind fun u17 => rec10 u17 z13 z14
def make_Fence_J3 (rec10 : (List ByteArray) → Int → Int → Option ((Int × (List ByteArray)) × ((List Int) × Int))) (z11 : ByteArray) (z12 : List ByteArray) (v13 : Int) (v14 : Int) (v15 : Int) : Option ((Int × (List ByteArray)) × ((List Int) × Int)) :=
  (if (0 < v13) then ((lidx z12 (w64 (v13 - 1))).bind fun u16 => some (decide (u16 = z11))) else some false).bind fun u17 => if (u17 = true) then (rec10 z12 v14 v15) else
(lapp z12 ([ByteArray.empty] : List ByteArray)).bind fun u18 => (psub 0 (u18.length : Int) (w64 (v13 + 1)) ((u18.length : Int) - 0)).bind fun u19 => (psub 0 (u18.length : Int) v13 ((u18.length : Int) - 0)).bind fun u20 => (lsub u18 u19.1 u19.2).bind fun u21 => (lsub u18 u20.1 u20.2).bind fun u22 => (make_Fence_J2 rec10 v13 z11 v14 v15) (lcpy u18 u19.1 u21.length u22)
def make_Fence_B4 (kx10 : Int → Int → Int → Option ((Int × (List ByteArray)) × ((List Int) × Int))) (z11 : ByteArray) (z12 : Int) (z13 : Int) (z14 : List ByteArray) (rec15 : Int → Option ((Int × (List ByteArray)) × ((List Int) × Int))) (v16 : Int) : Option ((Int × (List ByteArray)) × ((List Int) × Int)) :=
  (if (0 < v16) then ((lidx z14 (w64 (v16 - 1))).bind fun u17 => some (decide (sLt z11 u17))) else some false).bind fun u18 => if (u18 = true) then (rec15 (w64 (v16 - 1))) else
 kx10 v16 z12 z13
def make_Fence_L4 (kx10 : Int → Int → Int → Option ((Int × (List ByteArray)) × ((List Int) × Int))) (z11 : ByteArray) (z12 : Int) (z13 : Int) (z14 : List ByteArray) : Nat → Int → Option ((Int × (List ByteArray)) × ((List Int) × Int))
  | 0, _ => none
  | n + 1, v15 => make_Fence_B4 kx10 z11 z12 z13 z14 (make_Fence_L4 kx10 z11 z12 z13 z14 n) v15
def make_Fence_B5 (kx10 : (List ByteArray) → Int → Int → Option ((Int × (List ByteArray)) × ((List Int) × Int))) (rec11 : (List ByteArray) → Int → Int → Option ((Int × (List ByteArray)) × ((List Int) × Int))) (x12 : ByteArray) (v13 : List ByteArray) (v14 : Int) (v15 : Int) : Option ((Int × (List ByteArray)) × ((List Int) × Int)) :=
  make_Fence_L4 (make_Fence_J3 rec11 x12 v13) x12 v14 v15 v13 big (v13.length : Int)
def make_Fence_L5 (kx10 : (List ByteArray) → Int → Int → Option ((Int × (List ByteArray)) × ((List Int) × Int))) : (List ByteArray) → (List ByteArray) → Int → Int → Option ((Int × (List ByteArray)) × ((List Int) × Int))
  | [], v11, v12, v13 => kx10 v11 v12 v13
  | x14 :: xs, v11, v12, v13 => make_Fence_B5 kx10 (make_Fence_L5 kx10 xs) x14 v11 v12 v13
def make_Fence (x0 : ((List Int) × Int)) : Option ((Int × (List ByteArray)) × ((List Int) × Int)) :=
  (make_Words x0 24).bind fun u2 => (lapp u2.1 ([⟨#[109]⟩] : List ByteArray)).bind fun u25 => make_Fence_L5 (make_Fence_J1 u2.2.1) u25 ([] : List ByteArray) u2.2.2 0
def fence_sized (x0 : Int) : Option Bool :=
  some (decide ((2 ≤ x0) ∧ (x0 ≤ 8)))
def fence_proper (x0 : ByteArray) : Option Bool :=
  some (decide ((1 ≤ (x0.size : Int)) ∧ ((x0.size : Int) ≤ 32)))
def fence_ascend_B1 (z71 : List ByteArray) (rec65 : Option Bool) (x74 : ByteArray) (i65 : Nat) : Option Bool :=
  (fence_proper x74).bind fun u79 => (if ((!u79) = true) then (some true) else (if (0 < (i65 : Int)) then ((lidx z71 (w64 ((i65 : Int) - 1))).bind fun u10 => some (decide (¬ sLt u10 x74))) else some false).bind fun u11 => some u11).bind fun u12 => if (u12 = true) then (some false) else
 rec65
def fence_ascend_L1 (z71 : List ByteArray) : (List ByteArray) → Nat → Option Bool
  | [], i65 => some true
  | x74 :: xs, i65 => fence_ascend_B1 z71 (fence_ascend_L1 z71 xs (i65 + 1)) x74 i65
def fence_ascend (x0 : (List ByteArray)) : Option Bool :=
  fence_ascend_L1 x0 x0 0
def fence_Check (x0 : (Int × (List ByteArray))) : Option Int :=
  (fence_sized x0.1).bind fun u2 => (if ((((!u2) = true) ∨ ((x0.2.length : Int) < 1)) ∨ (256 < (x0.2.length : Int))) then (some true) else (fence_ascend x0.2).bind fun u30 => some (!u30)).bind fun u20 => if (u20 = true) then (some 2) else
 some 0
def slices_Clone_Lstringstring (x0 : (List ByteArray)) : Option (List ByteArray) :=
  (lapp ([] : List ByteArray) x0).bind fun u11 => some u11
def slices_Chunk_Lstringstring_f1_B1 (z33 : List ByteArray) (z34 : Int) (rec25 : Int → Option (List (List ByteArray))) (v30 : Int) : Option (List (List ByteArray)) :=
  if (v30 < (z33.length : Int)) then ((lsub z33 v30 (z33.length : Int)).bind fun u39 => (lsub3 z33 v30 (w64 (v30 + (min z34 (u39.length : Int)))) (w64 (v30 + (min z34 (u39.length : Int))))).bind fun u45 => yc u45 <| rec25 (w64 (v30 + z34))) else
 some []
def slices_Chunk_Lstringstring_f1_L1 (z33 : List ByteArray) (z34 : Int) : Nat → Int → Option (List (List ByteArray))
  | 0, _ => none
  | n + 1, v30 => slices_Chunk_Lstringstring_f1_B1 z33 z34 (slices_Chunk_Lstringstring_f1_L1 z33 z34 n) v30
def slices_Chunk_Lstringstring_f1 (x1 : (List ByteArray)) (x2 : Int) : Option ((List (List ByteArray))) :=
  slices_Chunk_Lstringstring_f1_L1 x1 x2 big 0
def slices_Chunk_Lstringstring_J1 (z9 : Int) (z10 : List ByteArray) : Option (List (List ByteArray)) :=
  (slices_Chunk_Lstringstring_f1 z10 z9).bind fun u21 => some u21
def slices_Chunk_Lstringstring (x0 : (List ByteArray)) (x1 : Int) : Option (List (List ByteArray)) :=
  if (x1 < 1) then (none) else
(slices_Chunk_Lstringstring_J1 x1 x0)
def fence_levels_J1 (rec10 : (List (List ByteArray)) → (List ByteArray) → Option (List (List ByteArray))) (z11 : List (List ByteArray)) (v12 : List ByteArray) : Option (List (List ByteArray)) :=
  (lapp z11 ([v12] : List (List ByteArray))).bind fun u13 => rec10 u13 v12
def fence_levels_B2 (kx10 : (List ByteArray) → Option (List (List ByteArray))) (rec11 : (List ByteArray) → Option (List (List ByteArray))) (x12 : (List ByteArray)) (v13 : List ByteArray) : Option (List (List ByteArray)) :=
  (lidx x12 0).bind fun u14 => (lapp v13 ([u14] : List ByteArray)).bind fun u15 => rec11 u15
def fence_levels_L2 (kx10 : (List ByteArray) → Option (List (List ByteArray))) : List (List ByteArray) → (List ByteArray) → Option (List (List ByteArray))
  | [], v11 => kx10 v11
  | x12 :: xs, v11 => fence_levels_B2 kx10 (fence_levels_L2 kx10 xs) x12 v11
def fence_levels_B3 (z10 : Int) (rec11 : (List (List ByteArray)) → (List ByteArray) → Option (List (List ByteArray))) (v12 : List (List ByteArray)) (v13 : List ByteArray) : Option (List (List ByteArray)) :=
  if (z10 < (v13.length : Int)) then ((slices_Chunk_Lstringstring v13 z10).bind fun u14 => fence_levels_L2 (fence_levels_J1 rec11 v12) u14 ([] : List ByteArray)) else
 some v12
def fence_levels_L3 (z10 : Int) : Nat → (List (List ByteArray)) → (List ByteArray) → Option (List (List ByteArray))
  | 0, _, _ => none
  | n + 1, v11, v12 => fence_levels_B3 z10 (fence_levels_L3 z10 n) v11 v12
def fence_levels (x0 : (Int × (List ByteArray))) : Option (List (List ByteArray)) :=
  (slices_Clone_Lstringstring x0.2).bind fun u2 => fence_levels_L3 x0.1 big ([u2] : List (List ByteArray)) x0.2
def fence_Levels (x0 : (Int × (List ByteArray))) : Option ((List (List ByteArray)) × Int) :=
  (fence_Check x0).bind fun u2 => if (u2 ≠ 0) then (some (([] : List (List ByteArray)), u2)) else
(fence_levels x0).bind fun u10 => some (u10, 0)
def fence_Steps_B1 (z33 : Int) (rec28 : Int → Int → Option (Int × Int)) (v29 : Int) (v30 : Int) : Option (Int × Int) :=
  if (z33 < v29) then ((nz z33).bind fun _ => rec28 (w64 (Int.tdiv (w64 ((w64 (v29 + z33)) - 1)) z33)) (w64 (v30 + 1))) else
 some (v30, 0)
def fence_Steps_L1 (z33 : Int) : Nat → Int → Int → Option (Int × Int)
  | 0, _, _ => none
  | n + 1, v29, v30 => fence_Steps_B1 z33 (fence_Steps_L1 z33 n) v29 v30
def fence_Steps (x0 : Int) (x1 : Int) : Option (Int × Int) :=
  (if ((x0 < 1) ∨ (256 < x0)) then (some true) else (fence_sized x1).bind fun u43 => some (!u43)).bind fun u11 => if (u11 = true) then (some (0, 1)) else
 fence_Steps_L1 x1 big x0 1
def slices_Backward_LLstringLstring_f1_B1 (z29 : List (List ByteArray)) (rec21 : Int → Option (List (Int × (List ByteArray)))) (v26 : Int) : Option (List (Int × (List ByteArray))) :=
  if (0 ≤ v26) then ((lidx z29 v26).bind fun u34 => yc (v26, u34) <| rec21 (w64 (v26 - 1))) else
 some []
def slices_Backward_LLstringLstring_f1_L1 (z29 : List (List ByteArray)) : Nat → Int → Option (List (Int × (List ByteArray)))
  | 0, _ => none
  | n + 1, v26 => slices_Backward_LLstringLstring_f1_B1 z29 (slices_Backward_LLstringLstring_f1_L1 z29 n) v26
def slices_Backward_LLstringLstring_f1 (x1 : (List (List ByteArray))) : Option ((List (Int × (List ByteArray)))) :=
  slices_Backward_LLstringLstring_f1_L1 x1 big (w64 ((x1.length : Int) - 1))
def slices_Backward_LLstringLstring (x0 : (List (List ByteArray))) : Option (List (Int × (List ByteArray))) :=
  (slices_Backward_LLstringLstring_f1 x0).bind fun u7 => some u7
def sort_Search_B1 (z20 : Int → Option Bool) (rec15 : Int → Int → Option Int) (v16 : Int) (v17 : Int) : Option Int :=
  if (v16 < v17) then ((z20 (w64 ((IntKind.u64.wrap (w64 (v16 + v17))) / 2))).bind fun u25 => if ((!u25) = true) then (rec15 (w64 ((w64 ((IntKind.u64.wrap (w64 (v16 + v17))) / 2)) + 1)) v17) else
 rec15 v16 (w64 ((IntKind.u64.wrap (w64 (v16 + v17))) / 2))) else
 some v16
def sort_Search_L1 (z20 : Int → Option Bool) : Nat → Int → Int → Option Int
  | 0, _, _ => none
  | n + 1, v16, v17 => sort_Search_B1 z20 (sort_Search_L1 z20 n) v16 v17
def sort_Search (x0 : Int) (x1 : Int → Option Bool) : Option Int :=
  sort_Search_L1 x1 big 0 x0
def fence_behind_f1 (x0 : Int) (x1 : (List ByteArray)) (x2 : ByteArray) : Option Bool :=
  (lidx x1 x0).bind fun u1 => some (decide (sLt x2 u1))
def fence_behind (x0 : (List ByteArray)) (x1 : ByteArray) : Option Int :=
  (sort_Search (x0.length : Int) (fun y0 => fence_behind_f1 y0 x0 x1)).bind fun u13 => some u13
def fence_last (x0 : (List ByteArray)) (x1 : ByteArray) : Option Int :=
  (fence_behind x0 x1).bind fun u1 => some (max 0 (w64 (u1 - 1)))
def fence_blockOf (x0 : (List ByteArray)) (x1 : Int) (x2 : Int) : Option (List ByteArray) :=
  (lsub x0 (w64 (x2 * x1)) (min (w64 ((w64 (x2 + 1)) * x1)) (x0.length : Int))).bind fun u1 => some u1
def fence_Probe_J1 (z10 : ByteArray) (z11 : List ByteArray) (v12 : List Int) (v13 : Int) : Option ((List Int) × Int × Bool × Int) :=
  (lidx z11 v13).bind fun u14 => some (v12, v13, (decide (u14 = z10)), 0)
def fence_Probe_B2 (kx10 : (List Int) → Int → Option ((List Int) × Int × Bool × Int)) (z11 : Int) (z12 : ByteArray) (rec13 : (List Int) → Int → Option ((List Int) × Int × Bool × Int)) (x14 : (Int × (List ByteArray))) (v15 : List Int) (v16 : Int) : Option ((List Int) × Int × Bool × Int) :=
  (lapp v15 ([v16] : List Int)).bind fun u17 => (fence_blockOf x14.2 z11 v16).bind fun u18 => (fence_last u18 z12).bind fun u19 => rec13 u17 (w64 ((w64 (v16 * z11)) + u19))
def fence_Probe_L2 (kx10 : (List Int) → Int → Option ((List Int) × Int × Bool × Int)) (z11 : Int) (z12 : ByteArray) : List (Int × (List ByteArray)) → (List Int) → Int → Option ((List Int) × Int × Bool × Int)
  | [], v13, v14 => kx10 v13 v14
  | x15 :: xs, v13, v14 => fence_Probe_B2 kx10 z11 z12 (fence_Probe_L2 kx10 z11 z12 xs) x15 v13 v14
def fence_Probe (x0 : (Int × (List ByteArray))) (x1 : ByteArray) : Option ((List Int) × Int × Bool × Int) :=
  (fence_Check x0).bind fun u3 => if (u3 ≠ 0) then (some (([] : List Int), 0, false, u3)) else
(fence_proper x1).bind fun u11 => if ((!u11) = true) then (some (([] : List Int), 0, false, 1)) else
(fence_levels x0).bind fun u21 => (slices_Backward_LLstringLstring u21).bind fun u39 => fence_Probe_L2 (fence_Probe_J1 x1 x0.2) x0.1 x1 u39 ([] : List Int) 0
def fence_Next (x0 : Int) (x1 : Int) (x2 : (List ByteArray)) (x3 : ByteArray) : Option (Int × Int) :=
  (fence_sized x0).bind fun u1 => (if ((((!u1) = true) ∨ (x1 < 0)) ∨ (256 < x1)) then (some true) else (fence_proper x3).bind fun u57 => some (!u57)).bind fun u19 => if (u19 = true) then (some (0, 1)) else
(if (((x2.length : Int) < 1) ∨ (x0 < (x2.length : Int))) then (some true) else (fence_ascend x2).bind fun u51 => some (!u51)).bind fun u37 => if (u37 = true) then (some (0, 2)) else
(fence_last x2 x3).bind fun u45 => some ((w64 ((w64 (x1 * x0)) + u45)), 0)
def sort_SearchStrings_f1 (x0 : Int) (x1 : (List ByteArray)) (x2 : ByteArray) : Option Bool :=
  (lidx x1 x0).bind fun u1 => some (decide (¬ sLt u1 x2))
def sort_SearchStrings (x0 : (List ByteArray)) (x1 : ByteArray) : Option Int :=
  (sort_Search (x0.length : Int) (fun y0 => sort_SearchStrings_f1 y0 x0 x1)).bind fun u13 => some u13
def fence_Range_B1 (z93 : ByteArray) (z94 : Int) (z95 : Int) (z96 : Int) (z97 : Int) (z98 : List ByteArray) (rec83 : (List Int) → Int → Option ((List Int) × Int × Int)) (v84 : List Int) (v90 : Int) : Option ((List Int) × Int × Int) :=
  if (v90 < z96) then ((fence_last z98 z93).bind fun u10 => (nz z97).bind fun _ => (lapp v84 ([(min (w64 ((w64 (Int.tdiv u10 z97)) + v90)) z95)] : List Int)).bind fun u11 => rec83 u11 (w64 (v90 + 1))) else
 some (v84, z94, 0)
def fence_Range_L1 (z93 : ByteArray) (z94 : Int) (z95 : Int) (z96 : Int) (z97 : Int) (z98 : List ByteArray) : Nat → (List Int) → Int → Option ((List Int) × Int × Int)
  | 0, _, _ => none
  | n + 1, v84, v90 => fence_Range_B1 z93 z94 z95 z96 z97 z98 (fence_Range_L1 z93 z94 z95 z96 z97 z98 n) v84 v90
def fence_Range (x0 : (Int × (List ByteArray))) (x1 : ByteArray) (x2 : Int) : Option ((List Int) × Int × Int) :=
  (fence_Check x0).bind fun u2 => if (u2 ≠ 0) then (some (([] : List Int), 0, u2)) else
(fence_proper x1).bind fun u10 => if ((((!u10) = true) ∨ (x2 < 1)) ∨ (64 < x2)) then (some (([] : List Int), 0, 1)) else
(sort_SearchStrings x0.2 x1).bind fun u26 => (nz x0.1).bind fun _ => fence_Range_L1 x1 u26 (w64 (Int.tdiv (w64 ((x0.2.length : Int) - 1)) x0.1)) x2 x0.1 x0.2 big ([] : List Int) 0
def top_TopRanges_J1 (z10 : Int) (z11 : Int) (z12 : Int) (z13 : List ByteArray) (z14 : List ByteArray) : Option Bool :=
  some (decide ((min (w64 ((z13.length : Int) - z11)) (w64 ((w64 (z10 - 1)) * z12))) ≤ (z14.length : Int)))
def top_TopRanges_B2 (kx10 : Option Bool) (z11 : ByteArray) (z12 : Int) (z13 : List ByteArray) (rec14 : Option Bool) (x15 : ByteArray) (i14 : Nat) : Option Bool :=
  (if ((sLt x15 z11) ∨ ((z13.length : Int) ≤ (w64 (z12 + (i14 : Int))))) then (some true) else (lidx z13 (w64 (z12 + (i14 : Int)))).bind fun u16 => some (decide (x15 ≠ u16))).bind fun u17 => if (u17 = true) then (some false) else
 rec14
def top_TopRanges_L2 (kx10 : Option Bool) (z11 : ByteArray) (z12 : Int) (z13 : List ByteArray) : (List ByteArray) → Nat → Option Bool
  | [], i14 => kx10
  | x15 :: xs, i14 => top_TopRanges_B2 kx10 z11 z12 z13 (top_TopRanges_L2 kx10 z11 z12 z13 xs (i14 + 1)) x15 i14
def top_TopRanges_J3 (z10 : ByteArray) (z11 : Int) (z12 : Int) (z13 : Int) (z14 : List ByteArray) (v15 : List ByteArray) : Option Bool :=
  top_TopRanges_L2 (top_TopRanges_J1 z11 z12 z13 z14 v15) z10 z12 z14 v15 0
def top_TopRanges_J4 (rec10 : Int → (List ByteArray) → Int → Option Bool) (z11 : Int) (z12 : Int) (v13 : List ByteArray) : Option Bool :=
  rec10 (max z11 z12) v13 (w64 (z12 + 1))
def top_TopRanges_B5 (rec10 : Int → (List ByteArray) → Option Bool) (z11 : Int) (z12 : Int) (z13 : Int) (z14 : List ByteArray) (rec15 : Int → (List ByteArray) → Int → Option Bool) (v16 : Int) (v17 : List ByteArray) (v18 : Int) : Option Bool :=
  if (v18 < (min (z14.length : Int) (w64 ((w64 (z12 + 1)) * z13)))) then (if ((v16 < v18) ∧ (z11 ≤ v18)) then ((lidx z14 v18).bind fun u19 => (lapp v17 ([u19] : List ByteArray)).bind fun u20 => (top_TopRanges_J4 rec15 v16 v18) u20) else
(top_TopRanges_J4 rec15 v16 v18) v17) else
 rec10 v16 v17
def top_TopRanges_L5 (rec10 : Int → (List ByteArray) → Option Bool) (z11 : Int) (z12 : Int) (z13 : Int) (z14 : List ByteArray) : Nat → Int → (List ByteArray) → Int → Option Bool
  | 0, _, _, _ => none
  | n + 1, v15, v16, v17 => top_TopRanges_B5 rec10 z11 z12 z13 z14 (top_TopRanges_L5 rec10 z11 z12 z13 z14 n) v15 v16 v17
def top_TopRanges_B6 (kx10 : (List ByteArray) → Option Bool) (z11 : Int) (z12 : Int) (z13 : List ByteArray) (rec14 : Int → (List ByteArray) → Option Bool) (x15 : Int) (v16 : Int) (v17 : List ByteArray) : Option Bool :=
  top_TopRanges_L5 rec14 z11 x15 z12 z13 big v16 v17 (w64 (x15 * z12))
def top_TopRanges_L6 (kx10 : (List ByteArray) → Option Bool) (z11 : Int) (z12 : Int) (z13 : List ByteArray) : (List Int) → Int → (List ByteArray) → Option Bool
  | [], v14, v15 => kx10 v15
  | x16 :: xs, v14, v15 => top_TopRanges_B6 kx10 z11 z12 z13 (top_TopRanges_L6 kx10 z11 z12 z13 xs) x16 v14 v15
def top_TopRanges_J7 (z10 : Int) (z11 : ByteArray) (z12 : Int) (z13 : Int) (z14 : List ByteArray) (v15 : Int) : Option Bool :=
  (fence_Range (z13, z14) z11 (w64 (1 + (w64 (Int.tmod z10 5))))).bind fun u16 => (if (((u16.2.2 ≠ 0) ∨ ((u16.1.length : Int) ≠ (w64 (1 + (w64 (Int.tmod z10 5)))))) ∨ (v15 ≠ z12)) then (some true) else (lidx u16.1 0).bind fun u17 => (nz z13).bind fun _ => some (decide (u17 ≠ (w64 (Int.tdiv z12 z13))))).bind fun u18 => if (u18 = true) then (some false) else
 top_TopRanges_L6 (top_TopRanges_J3 z11 (w64 (1 + (w64 (Int.tmod z10 5)))) u16.2.1 z13 z14) u16.2.1 z13 z14 u16.1 (-1) ([] : List ByteArray)
def top_TopRanges_B8 (kx10 : Int → Option Bool) (z11 : ByteArray) (z12 : Int) (z13 : Int) (z14 : List Int) (z15 : List (List ByteArray)) (rec16 : Int → Int → Option Bool) (v17 : Int) (v18 : Int) : Option Bool :=
  if (0 ≤ v18) then ((lidx z14 (w64 ((w64 (z12 - 1)) - v18))).bind fun u19 => if (u19 ≠ v17) then (some false) else
(lidx z15 v18).bind fun u20 => (lsub u20 (w64 (v17 * z13)) (min (u20.length : Int) (w64 ((w64 (v17 + 1)) * z13)))).bind fun u21 => (fence_Next z13 v17 u21 z11).bind fun u22 => if (u22.2 ≠ 0) then (some false) else
 rec16 u22.1 (w64 (v18 - 1))) else
 kx10 v17
def top_TopRanges_L8 (kx10 : Int → Option Bool) (z11 : ByteArray) (z12 : Int) (z13 : Int) (z14 : List Int) (z15 : List (List ByteArray)) : Nat → Int → Int → Option Bool
  | 0, _, _ => none
  | n + 1, v16, v17 => top_TopRanges_B8 kx10 z11 z12 z13 z14 z15 (top_TopRanges_L8 kx10 z11 z12 z13 z14 z15 n) v16 v17
def top_TopRanges (x0 : (List Int)) (x1 : Int) : Option Bool :=
  (top_awake).bind fun u1 => if ((!u1) = true) then (some false) else
(make_Few x0).bind fun u8 => if ((!u8) = true) then (some true) else
(make_New x0).bind fun u15 => (make_Fence u15).bind fun u23 => (make_Word u23.2).bind fun u38 => (fence_Levels u23.1).bind fun u49 => (fence_Steps (u23.1.2.length : Int) u23.1.1).bind fun u62 => (fence_Probe u23.1 u38.1).bind fun u66 => if (((((u49.2 ≠ 0) ∨ (u62.2 ≠ 0)) ∨ (u66.2.2.2 ≠ 0)) ∨ ((u49.1.length : Int) ≠ u62.1)) ∨ ((u66.1.length : Int) ≠ u62.1)) then (some false) else
 top_TopRanges_L8 (top_TopRanges_J7 x1 u38.1 u66.2.1 u23.1.1 u23.1.2) u38.1 u62.1 u23.1.1 u66.1 u49.1 big 0 (w64 (u62.1 - 1))
end Go.Proofs.YtfcicopgdahmcaaGreatDoor
end

section
namespace Go.Proofs.YtfcicopgdahmcaaGreatDoor
open Go.RowKit Go.MapKept
set_option linter.unusedSectionVars false
set_option linter.unusedSimpArgs false
section
variable {α β : Type} [DecidableEq α]
def mEs (f : α → Value) (g : β → Value) : Nat → List (α × β) → List MapEntry
  | _, [] => []
  | n, x :: l => ⟨f x.1, g x.2, n⟩ :: mEs f g (n + 1) l
abbrev mObj (f : α → Value) (g : β → Value) (l : List (α × β)) : Obj := .map (mEs f g 0 l).toArray l.length
theorem mEs_app (f : α → Value) (g : β → Value) (x : α × β) : ∀ (n : Nat) (l : List (α × β)), mEs f g n (l ++ [x]) = mEs f g n l ++ [⟨f x.1, g x.2, n + l.length⟩]
  | n, [] => rfl
  | n, y :: l => by
    simp only [List.cons_append, mEs, List.length_cons, mEs_app f g x (n + 1) l]
    rw [show n + 1 + l.length = n + (l.length + 1) by omega]
theorem mEs_mod (f : α → Value) (g : β → Value) (k : α) (v : β) : ∀ (j n : Nat) (l : List (α × β)), j < l.length → (mEs f g n l).modify j (fun e => { e with key := f k, val := g v }) = mEs f g n (l.set j (k, v))
  | _, _, [], h => by simp at h
  | 0, n, y :: l, _ => by simp [mEs, List.modify]
  | j + 1, n, y :: l, h => by
    have := mEs_mod f g k v j (n + 1) l (by simpa using h)
    simp only [mEs, List.modify_succ_cons, List.set_cons_succ, this]
theorem find_mEs {d : TypeDesc} {f : α → Value} {g : β → Value} (hK : ∀ a, IsKey d (f a)) (hi : ∀ a b, f a = f b → a = b) (k : α) (v : β) : ∀ (l : List (α × β)) (n i : Nat),
    (mget l k = none ∧ Instr.findNow d (f k) (mEs f g n l) i = some none ∧ mput l k v = l ++ [(k, v)]) ∨
    ∃ b j, mget l k = some b ∧ Instr.findNow d (f k) (mEs f g n l) i = some (some (i + j, g b)) ∧ j < l.length ∧ mput l k v = l.set j (k, v) ∧ ∃ e, (mEs f g n l)[j]? = some e ∧ e.key = f k
  | [], n, i => .inl ⟨rfl, rfl, rfl⟩
  | (a, b) :: l, n, i => by
    obtain ⟨r, hr, hiff⟩ := sameNow_of_keys (hK k) (hK a)
    by_cases h : a = k
    · subst h
      have : r = true := hiff.2 rfl
      subst this
      exact .inr ⟨b, 0, by simp [mget], by simp [mEs, Instr.findNow, hr], by simp, by simp [mput], _, rfl, rfl⟩
    · have hr2 : r = false := by
        cases r with
        | false => rfl
        | true => exact absurd (hi _ _ (hiff.1 rfl)).symm h
      subst hr2
      rcases find_mEs (g := g) hK hi k v l (n + 1) (i + 1) with ⟨h1, h2, h3⟩ | ⟨b', j, h1, h2, h3, h4, e, h5, h6⟩
      · exact .inl ⟨by simp [mget, h, h1], by simp [mEs, Instr.findNow, hr, h2], by simp [mput, h, h3]⟩
      · exact .inr ⟨b', j + 1, by simp [mget, h, h1], by simp [mEs, Instr.findNow, hr, h2]; omega, by simpa using h3, by simp [mput, h, h4], e, by simpa [mEs] using h5, h6⟩
theorem mput_run {P : Program} {w : World} {t kt et : TypeId} {d : TypeDesc} {f : α → Value} {g : β → Value} (hm : P.underlying t = some (.map kt et)) (hd : P.underlying kt = some d) (hK : ∀ a, IsKey d (f a)) (hi : ∀ a b, f a = f b → a = b) {r : Nat} {l : List (α × β)} (hb : w.heap[r]? = some (mObj f g l)) (k : α) (v : β) :
    (Instr.mapUpdate t (.map (some r)) (f k) (g v)).run P w = .ok () { w with heap := w.heap.setIfInBounds r (mObj f g (mput l k v)) } := by
  rcases find_mEs hK hi (g := g) k v l 0 0 with ⟨_, h2, h3⟩ | ⟨b, j, _, h2, h3, h4, e, h5, h6⟩
  · rw [h3]
    simp [Instr.mapUpdate, run_underlying hm, MapKept.run_getObj_map hb, MapKept.run_checkKey hd (hK k), MapKept.run_findKey hd h2, MapKept.run_setObj_map _ hb]
    rw [mObj, mEs_app, List.length_append, Nat.zero_add]; rfl
  · rw [h4]
    have hk : (((mEs f g 0 l).toArray[j]?).map (·.key)).getD (f k) = f k := by simp [h5, h6]
    simp only [Nat.zero_add] at h2
    have e2 : (mEs f g 0 l).toArray.modify j (fun e => { e with key := f k, val := g v }) = (mEs f g 0 (l.set j (k, v))).toArray := by
      rw [← mEs_mod f g k v j 0 l h3]
      apply Array.ext'
      simp
    simp only [Instr.mapUpdate, Sem.run_bind, run_underlying hm, Result.andThen_ok, MapKept.run_getObj_map hb, MapKept.run_checkKey hd (hK k), MapKept.run_findKey hd h2, hk, MapKept.run_keyThatStays (hK k), e2]
    rw [mObj, List.length_set]
    exact MapKept.run_setObj_map _ hb
theorem mget_run {P : Program} {w : World} {t kt et : TypeId} {d : TypeDesc} {f : α → Value} {g : β → Value} {z : β} (hm : P.underlying t = some (.map kt et)) (hd : P.underlying kt = some d) (hK : ∀ a, IsKey d (f a)) (hi : ∀ a b, f a = f b → a = b) (hz : (P.info? et).bind (·.zero) = some (g z)) {r : Nat} {l : List (α × β)} (hb : w.heap[r]? = some (mObj f g l)) (k : α) :
    (Instr.lookup t (.map (some r)) (f k) false).run P w = .ok (g ((mget l k).getD z)) w := by
  have hzr : (zeroValue et).run P w = .ok (g z) w := by
    cases h1 : P.info? et with
    | none => rw [h1] at hz; cases hz
    | some i =>
      rw [h1] at hz
      cases h2 : i.zero with
      | none => rw [Option.bind_some, h2] at hz; cases hz
      | some u =>
        rw [Option.bind_some, h2] at hz
        obtain rfl := Option.some.inj hz
        simp [zeroValue, typeInfo, h1, h2]
  rcases find_mEs hK hi (g := g) k z l 0 0 with ⟨h1, h2, _⟩ | ⟨b, j, h1, h2, _⟩
  · simp [Instr.lookup, run_underlying hm, MapKept.run_getObj_map hb, MapKept.run_checkKey hd (hK k), MapKept.run_findKey hd h2, h1, hzr]
  · simp [Instr.lookup, run_underlying hm, MapKept.run_getObj_map hb, MapKept.run_checkKey hd (hK k), MapKept.run_findKey hd h2, h1]
end
section
variable {P : Program} {c : Cx} {R : Value → World → Prop} {nt : Nat} {w0 : World} {S0 : List Nat} {df : List Deferred} {ρ ρ' : Env} {Fs Fs' : List Hp} {bl bl' : Blks} {sl sl' : List OwnS}
  {K K' : Act → World → Prop} {k : List Item} {ty : TypeId} {α β : Type} [DecidableEq α]
theorem Cov.mkMap {d : Nat} {t : TypeId} (f : α → Value) (g : β → Value) (hs : Stp P K' ⟨some d, .makeMap t none, ty, none⟩ K) (hd : Nat.blt d nt = true)
    (hk : ∀ b, w0.heap.size ≤ b → Cov nt w0 S0 df ((d, .map (some b)) :: ρ) Fs ((b, mObj f g []) :: bl) sl K) : Cov nt w0 S0 df ρ Fs bl sl K' :=
  .new_ (fv := fun b => .map (some b)) hs (fun _ _ _ _ => run_v (s := Instr.makeMap t none) rfl) hd hk
theorem Cov.mapPut (i : Nat) {f : α → Value} {g : β → Value} {l : List (α × β)} {x : α} {y : β} {t kt et : TypeId} {dsc : TypeDesc} {m p q : Operand} {b : Nat} {op : Op} (hop : op = .mapUpdate t m p q ∨ op = .insert t m p q) (hs : Stp P K' ⟨none, op, ty, none⟩ K)
    (hm : ev ρ m = some (.map (some b))) (hp : ev ρ p = some (f x)) (hq : ev ρ q = some (g y)) (hb : bl[i]? = some (b, mObj f g l)) (ht : P.underlying t = some (.map kt et)) (hd : P.underlying kt = some dsc) (hK : ∀ a, IsKey dsc (f a)) (hi : ∀ a b, f a = f b → a = b)
    (bl' : Blks) (hbl : bl.set i (b, mObj f g (mput l x y)) = bl') (hk : Cov nt w0 S0 df ρ Fs bl' sl K) : Cov nt w0 S0 df ρ Fs bl sl K' := fun a w hf hinv => by
  refine hs a w ?_
  have hbw : w.heap[b]? = some (mObj f g l) := hinv.mem.own _ (List.mem_of_getElem? hb)
  have hr := mput_run (P := P) (w := w) ht hd hK hi hbw x y
  have hrun : (execOp a.eval (⟨none, op, ty, none⟩ : OpX).oper).run P w = .ok .skip { w with heap := w.heap.setIfInBounds b (mObj f g (mput l x y)) } := by
    rcases hop with rfl | rfl
    · refine run_u (s := Instr.mapUpdate t (a.eval m) (a.eval p) (a.eval q)) ?_
      rw [ev_sound hf hm, ev_sound hf hp, ev_sound hf hq]; exact hr
    · refine run_u (s := Instr.mapUpdate t (a.eval m) (a.eval p) (a.eval q)) ?_
      rw [ev_sound hf hm, ev_sound hf hp, ev_sound hf hq]; exact hr
  unfold Oper.wp
  rw [hrun]
  subst hbl
  have hlt : b < w.heap.size := (Array.getElem?_eq_some_iff.1 hbw).1
  exact hk _ _ (hf.put_none _) (hinv.set i hb ⟨rfl, rfl, rfl, by simp, fun z _ hz => by simp only [List.mem_singleton] at hz; simp [Ne.symm hz]⟩ (by simp [hlt]))
theorem QOp.mapGet (i : Nat) {f : α → Value} {g : β → Value} {l : List (α × β)} {x : α} {z : β} {t kt et : TypeId} {dsc : TypeDesc} {m p : Operand} {b : Nat} (hm : ev ρ m = some (.map (some b))) (hp : ev ρ p = some (f x)) (hb : bl[i]? = some (b, mObj f g l)) (ht : P.underlying t = some (.map kt et)) (hd : P.underlying kt = some dsc)
    (hK : ∀ a, IsKey dsc (f a)) (hi : ∀ a b, f a = f b → a = b) (hz : (P.info? et).bind (·.zero) = some (g z)) : QOp P ρ Fs bl sl (.lookup t m p false) ty (g ((mget l x).getD z)) := .of fun e he w hmem => by
  have hbw : w.heap[b]? = some (mObj f g l) := hmem.own _ (List.mem_of_getElem? hb)
  refine run_v (s := Instr.lookup t (e m) (e p) false) ?_
  rw [he m _ hm, he p _ hp]
  exact mget_run ht hd hK hi hz hbw x
end
theorem ik_int {k : IntKind} : ∀ a : Int, IsKey (.int k) (.int k a) := fun _ => rfl
theorem ij_int {k : IntKind} : ∀ a b : Int, Value.int k a = Value.int k b → a = b := fun _ _ h => by cases h; rfl
end Go.Proofs.YtfcicopgdahmcaaGreatDoor
end

section
namespace Go.Proofs.YtfcicopgdahmcaaGreatDoor
open Go.RowKit
section
variable {P : Program} {c : Cx} {R : Value → World → Prop} {nt : Nat} {w0 : World} {S0 : List Nat} {df : List Deferred} {ρ ρ' : Env} {Fs Fs' Fin B : List Hp} {bl bl' : Blks} {sl sl' : List OwnS}
  {K K' : Act → World → Prop} {k : List Item} {ty : TypeId} {G : Hp} {α : Type}
theorem QOp.cap {t el : TypeId} {x : Operand} {a : Option Addr} {n m : Nat} (hx : ev ρ x = some (.slice a n m)) (ht : slOf P t = some el) : QOp P ρ Fs bl sl (.call ⟨.builtin .cap, #[x], #[t]⟩) ty (.int .i64 m) := .of fun e he w _ => by
  refine run_builtin (run_v ?_)
  have hu := slOf_spec ht
  simp [Builtin.cap_, he x _ hx, run_underlying hu, goInt]
end
end Go.Proofs.YtfcicopgdahmcaaGreatDoor
end

section
namespace Go.Proofs.YtfcicopgdahmcaaGreatDoor
open Go.RowKit
def YieldsX (P : Program) (y : Value) (V : Nat → List Value → Prop) (Fs : List Hp) (𝒢 : Nat → Guest → Prop) (ℰ : Guest → Prop) : Prop :=
  ∃ l, y = .func (.yield l) #[] #[] ∧ ∀ (i : Nat) (v : List Value), V i v → ∀ R, 𝒢 i R → ∀ w, (∀ G ∈ Fs, HpIn G w) → R.holds w →
    ∃ f tmps as1 body, (Instr.yield l v.toArray).run P w = .ok (.round l f tmps as1 body) w ∧
      RoundV P l f tmps as1 body w fun r w' => ∃ R', ((r = .bool true ∧ 𝒢 (i + 1) R') ∨ (r = .bool false ∧ ℰ R')) ∧ R'.holds w' ∧ Keep w R.blks w' ∧ ∀ b ∈ R'.blks, b ∈ R.blks ∨ w.heap.size ≤ b
def IterX (P : Program) (f : FuncId) (cap : List Value) (Fs : List Hp) (N : Nat) (V : Nat → List Value → Prop) : Prop :=
  ∀ (y : Value) (𝒢 : Nat → Guest → Prop) (ℰ : Guest → Prop) (R0 : Guest), YieldsX P y V Fs 𝒢 ℰ → 𝒢 0 R0 → RetG P f (y :: cap).toArray Fs [] [.g R0] fun _ _ bl sl => bl = [] ∧ ∃ R, (𝒢 N R ∨ ℰ R) ∧ sl = [.g R]
def IterRX (P : Program) {α : Type} (Y : Yr α) (f : FuncId) (cap : List Value) (G : Hp) (l : List α) : Prop :=
  ∀ Fs G1, HpLe G G1 → G1 ∈ Fs → IterX P f cap Fs l.length (fun i v => ∃ x, l[i]? = some x ∧ Y.r G1 v x)
theorem IterRX.mono {P : Program} {α : Type} {Y : Yr α} {f : FuncId} {cap : List Value} {G G' : Hp} {l : List α} (hg : HpLe G G') (h : IterRX P Y f cap G l) : IterRX P Y f cap G' l := fun Fs G1 h1 h2 => h Fs G1 (hg.trans h1) h2
def doneObj (f : FuncId) (tmps : Array Value) (ps : Array Tmp) (as1 body : Code) (defers : Nat) (J : Code) : Obj := .loop { state := .done, pending := some J, fn := f, tmps := tmps, params := ps, assign := as1, body := body, defers := defers }
def RoundX {α β : Type} (FsD : α → List Hp) (blD : α → Blks) (slD : α → List OwnS) (FsE : β → List Hp) (blE : β → Blks) (slE : β → List OwnS) (FsS FinR : List Hp) (I1 : α → Prop) (IE : β → Prop) (l : Nat) (lo : Obj) (le : β → Obj) (w1 : World) (S1 : List Nat) (r : Value) (w' : World) : Prop :=
  (r = .bool true ∧ ∃ x', I1 x' ∧ (∀ G ∈ FsD x', Bd w1 S1 FinR G) ∧ Inv w1 S1 (FsD x' ++ FsS) (blD x' ++ [(l, lo)]) (slD x') w') ∨
  (r = .bool false ∧ ∃ y, IE y ∧ (∀ G ∈ FsE y, Bd w1 S1 FinR G) ∧ Inv w1 S1 (FsE y ++ FsS) (blE y ++ [(l, le y)]) (slE y) w')
section
variable {P : Program} {c : Cx} {R0 : Value → World → Prop} {nt : Nat} {w0 : World} {S0 : List Nat} {df : List Deferred} {ρ ρ' : Env} {Fs Fs' Fin : List Hp} {bl bl' bls : Blks} {sl sl' sls : List OwnS}
  {K K' : Act → World → Prop} {k : List Item} {ty : TypeId}
theorem Cov.yieldX {y : Value} {V : Nat → List Value → Prop} {F0 : List Hp} {𝒢 : Nat → Guest → Prop} {ℰ : Guest → Prop} {i : Nat} {R : Guest} {v : List Value} {d : Nat} {fop : Operand} {args : Array Operand} {ts : Array TypeId} {os : List OpX}
    (hy : YieldsX P y V F0 𝒢 ℰ) (hi : V i v) (hR : 𝒢 i R) (hF : ∀ G ∈ F0, G ∈ Fs) (hf : ev ρ fop = some y) (ha : args.toList.map (ev ρ) = v.map some) (hd : Nat.blt d nt = true)
    (hk : ∀ R', 𝒢 (i + 1) R' → Cov nt w0 S0 df ((d, .bool true) :: ρ) Fs bl (.g R' :: sl) (RO P c R0 os k))
    (he : ∀ R', ℰ R' → Cov nt w0 S0 df ((d, .bool false) :: ρ) Fs bl (.g R' :: sl) (RO P c R0 os k)) :
    Cov nt w0 S0 df ρ Fs bl (.g R :: sl) (RO P c R0 (⟨some d, .call ⟨.value fop, args, ts⟩, ty, none⟩ :: os) k) := fun a w hfi hinv => by
  simp only [RO, wantedT, if_true]
  refine .inr ?_
  obtain ⟨l, rfl, hy⟩ := hy
  obtain ⟨f, tmps, as1, body, hr, hround⟩ := hy i v hi R hR w (fun G hG => hinv.mem.fs G (hF G hG)) (hinv.mem.slh _ List.mem_cons_self)
  have key : ∀ (l : List Operand) (vl : List Value), l.map (ev ρ) = vl.map some → l.map a.eval = vl := by
    intro l
    induction l with
    | nil => intro vl h; cases vl <;> simp at h ⊢
    | cons x l ih =>
      intro vl h
      cases vl with
      | nil => simp at h
      | cons v vl =>
        simp only [List.map_cons, List.cons.injEq] at h
        simp only [List.map_cons, ev_sound hfi h.1, ih vl h.2]
  have h1 : args.map a.eval = v.toArray := by rw [← Array.toList_inj]; simpa using key _ _ ha
  refine ⟨l, f, tmps, as1, body, w, ?_, ?_⟩
  · simp only [OpX.oper, execOp, resolve, h1, ev_sound hfi hf, Deferred.ofValue]
    simp only [Sem.run_bind, Sem.run_pure, Result.andThen_ok, invoke]
    simpa using hr
  · intro cl cs
    obtain ⟨r, w', ⟨R', h2, h3, h4, h5⟩, hs⟩ := hround cl cs
    have hinv' := hinv.set_s 0 (s := .g R) (s' := .g R') rfl h4 h3 R'.nodup h5
    rcases h2 with ⟨rfl, h2⟩ | ⟨rfl, h2⟩
    · exact ⟨.bool true, w', hk R' h2 _ w' (hfi.put hd _) hinv', hs⟩
    · exact ⟨.bool false, w', he R' h2 _ w' (hfi.put hd _) hinv', hs⟩
section
variable {α β : Type} {FsD : α → List Hp} {blD : α → Blks} {slD : α → List OwnS} {FsE : β → List Hp} {blE : β → Blks} {slE : β → List OwnS} {FsS FinR : List Hp} {I1 : α → Prop} {IE : β → Prop} {l : Nat} {le : β → Obj} {f : FuncId} {tmps : Array Value} {ps : Array Tmp} {as1 body : Code} {D : Nat}
theorem Cov.round_endX (x' : α) (j : Nat) (hro : c.ro = some l) (hb : bl[j]? = some (l, loopObj .busy f tmps ps as1 body D)) (hI : I1 x')
    (hbl : bl.set j (l, loopObj .ready f tmps ps as1 body D) = blD x' ++ [(l, loopObj .ready f tmps ps as1 body D)]) (hsl : sl = slD x') (hFs : ∀ G ∈ FsD x' ++ FsS, G ∈ Fs) (hbd : ∀ G ∈ FsD x', Bd w0 S0 FinR G) :
    Cov nt w0 S0 [] ρ Fs bl sl (Run P c (RoundX FsD blD slD FsE blE slE FsS FinR I1 IE l (loopObj .ready f tmps ps as1 body D) le w0 S0) []) := fun a w hf hi => by
  subst hsl
  have hl := hi.mem.own _ (List.mem_of_getElem? hb)
  have hr := run_endRound (P := P) (w := w) (l := l) none hl
  have hi2 := hi.set j hb (Keep.putObj w l (loopObj .ready f tmps ps as1 body D)) (World.putObj_heap_same (own_lt hl))
  rw [hbl] at hi2
  have hi3 := hi2.change (Fs' := FsD x' ++ FsS) (bl' := blD x' ++ [(l, loopObj .ready f tmps ps as1 body D)]) (sl' := slD x') [] (by simp) (Keep.refl _ []) (fun G hG => .inl (hFs G hG)) hi2.mem.own hi2.mem.slh hi2.nodup (fun _ hb => .inl hb)
  intro cs hcs
  refine ⟨.bool true, _, .inl ⟨rfl, x', hI, hbd, hi3⟩, ?_⟩
  unfold Done
  simp only [hro]
  cases cs with
  | nil => exact absurd rfl (hcs (by simp [hro]))
  | cons cl cs =>
    refine ⟨cl, cs, rfl, .one ?_⟩
    exact stepR_round_end (P := P) (b := c.fr a []) (a := a) (c := cl) (cs := cs) (w := w) hro rfl hr
theorem Cov.round_ret {lo : Obj} (y : β) (j : Nat) (hro : c.ro = some l) (hb : bl[j]? = some (l, loopObj .busy f tmps ps as1 body D)) (hI : IE y) (hle : le y = doneObj f tmps ps as1 body D .ret)
    (hbl : bl.set j (l, doneObj f tmps ps as1 body D .ret) = blE y ++ [(l, doneObj f tmps ps as1 body D .ret)]) (hsl : sl = slE y) (hFs : ∀ G ∈ FsE y ++ FsS, G ∈ Fs) (hbd : ∀ G ∈ FsE y, Bd w0 S0 FinR G) :
    Cov nt w0 S0 [] ρ Fs bl sl (Run P c (RoundX FsD blD slD FsE blE slE FsS FinR I1 IE l lo le w0 S0) (.code .ret :: k)) := fun a w hf hi => by
  subst hsl
  have hl := hi.mem.own _ (List.mem_of_getElem? hb)
  have hr := run_endRound (P := P) (w := w) (l := l) (some .ret) hl
  have hi2 := hi.set j hb (Keep.putObj w l (doneObj f tmps ps as1 body D .ret)) (World.putObj_heap_same (own_lt hl))
  rw [hbl] at hi2
  have hi3 := hi2.change (Fs' := FsE y ++ FsS) (bl' := blE y ++ [(l, le y)]) (sl' := slE y) [] (by simp) (Keep.refl _ []) (fun G hG => .inl (hFs G hG)) (by rw [hle]; exact hi2.mem.own) hi2.mem.slh (by rw [hle]; exact hi2.nodup) (fun _ hb => .inl (by rw [hle] at hb; exact hb))
  intro cs hcs
  refine ⟨.bool false, _, .inr ⟨rfl, y, hI, hbd, hi3⟩, ?_⟩
  unfold Done
  simp only [hro]
  cases cs with
  | nil => exact absurd rfl (hcs (by simp [hro]))
  | cons cl cs =>
    refine ⟨cl, cs, rfl, .one ?_⟩
    exact stepR_round_ret (P := P) (b := c.fr a []) (a := a) (c := cl) (cs := cs) (w := w) (k := k) hro rfl hr
end
def GstE {β : Type} (FsE : β → List Hp) (blE : β → Blks) (slE : β → List OwnS) (FsS : List Hp) (l : Nat) (le : β → Obj) (w0 : World) (S0 : List Nat) (IE : β → Prop) (R : Guest) : Prop := ∃ x, IE x ∧ PureOK FsE blE slE FsS l (le x) w0 S0 x ∧ ∃ B hB hnd, R = mkGuest FsE blE slE FsS l (le x) x B hB hnd
theorem pack_of {γ : Type} {FsX : γ → List Hp} {blX : γ → Blks} {slX : γ → List OwnS} {FsD1 FsS : List Hp} {l : Nat} {lo : Obj} {x' : γ} {w w' : World} {bin : List Nat} {B : List Nat} (hSB : ∀ b ∈ bin, b ∈ B) (hsz : w0.heap.size ≤ w.heap.size)
    (hbin : ∀ b ∈ bin, b ∈ S0 ∨ w0.heap.size ≤ b) (hF1 : ∀ G ∈ FsD1, Bd w0 S0 FsS G) (hFB : ∀ G ∈ FsD1, ∀ b o, G b = some o → (∃ F ∈ FsS, (F b).isSome = true) ∨ b ∈ B)
    (hbd : ∀ G ∈ FsX x', Bd w bin (FsD1 ++ FsS) G) (hinv' : Inv w bin (FsX x' ++ FsS) (blX x' ++ [(l, lo)]) (slX x') w') :
    PureOK FsX blX slX FsS l lo w0 S0 x' ∧ ∃ B' hB' hnd', (mkGuest FsX blX slX FsS l lo x' B' hB' hnd').holds w' ∧ Keep w B w' ∧ ∀ b ∈ B', b ∈ B ∨ w.heap.size ≤ b := by
  obtain ⟨B', hB', hnd', hh', hg'⟩ := guest_of hinv'
  refine ⟨⟨hinv'.nodup, hinv'.apart, fun b hb => ?_, fun G hG b o ho => ?_⟩, B', hB', hnd', hh', ⟨hinv'.keep.os, hinv'.keep.tape, hinv'.keep.output, hinv'.keep.size, fun b hb hn => hinv'.keep.block b hb (fun h => hn (hSB b h))⟩, fun b hb => ?_⟩
  · rcases hinv'.mine b hb with h | h
    · exact hbin b h
    · exact .inr (Nat.le_trans hsz h)
  · rcases hbd G hG b o ho with h | h | ⟨F, hF, hf⟩
    · exact .inl (Nat.le_trans hsz h)
    · rcases hbin b h with h | h
      · exact .inr (.inl h)
      · exact .inl h
    · rcases List.mem_append.1 hF with hF | hF
      · exact hF1 F hF b o hf
      · exact .inr (.inr ⟨F, hF, hf⟩)
  · rcases hg' b hb with h | ⟨⟨G, hG, hs⟩, hn⟩
    · rcases hinv'.mine b h with h | h
      · exact .inl (hSB b h)
      · exact .inr h
    · obtain ⟨o, ho⟩ := Option.isSome_iff_exists.1 hs
      rcases hbd G hG b o ho with h | h | ⟨F, hF, hf⟩
      · exact .inr h
      · exact .inl (hSB b h)
      · rcases List.mem_append.1 hF with hF | hF
        · rcases hFB F hF b o hf with h | h
          · exact absurd h hn
          · exact .inl h
        · exact absurd ⟨F, hF, by rw [hf]; rfl⟩ hn
section
variable {α β : Type} {FsD : α → List Hp} {blD : α → Blks} {slD : α → List OwnS} {FsE : β → List Hp} {blE : β → Blks} {slE : β → List OwnS} {FsS : List Hp} {l : Nat} {lo : Obj} {le : β → Obj}
theorem yields_ofX {c : Cx} {V : Nat → List Value → Prop} {ps : Array Tmp} {as1 body : Code} {tmps : Array Value} {D : Nat} (I : Nat → α → Prop) (IE : β → Prop) (hlo : lo = loopObj .ready c.fn tmps ps as1 body D) (hlb : w0.heap.size ≤ l)
    (hps : ∀ i v, V i v → v.length = ps.size) (hpt : ps.all (Nat.blt · nt) = true) (hfit : Fits nt [] ρ { tmps := tmps, defers := [] })
    (round : ∀ (i : Nat) (x : α) (v : List Value), V i v → I i x → ∀ w1 S1, w0.heap.size ≤ w1.heap.size → Cov nt w1 S1 [] ((ps.toList.zip v).reverse ++ ρ) (FsD x ++ FsS) (blD x ++ [(l, lo)]) (slD x)
      (Run P ⟨c.fn, some l⟩ (RoundX FsD blD slD FsE blE slE FsS (FsD x ++ FsS) (I (i + 1)) IE l lo le w1 S1) [.code as1, .beginRound, .code body])) :
    YieldsX P (.func (.yield l) #[] #[]) V FsS (Gst FsD blD slD FsS l lo w0 S0 I) (GstE FsE blE slE FsS l le w0 S0 IE) := by
  refine ⟨l, rfl, fun i v hv R hR w hFs hh => ?_⟩
  obtain ⟨x, hI, hp, B, hB, hnd, rfl⟩ := hR
  obtain ⟨hh1, hh2, hh3, hh4⟩ := hh
  have hl : w.heap[l]? = some lo := hh2 (l, lo) (List.mem_append_right _ List.mem_cons_self)
  have hl' := hl
  rw [hlo] at hl'
  have hvl := hps i v hv
  refine ⟨_, _, _, _, run_yield (P := P) (args := v.toArray) hl' (by simpa using hvl), fun cl cs => ?_⟩
  have hfold : ((ps.zip v.toArray).foldl (fun tmps (t, a) => tmps.setIfInBounds t a) tmps) = (ps.toList.zip v).foldl (fun t p => t.setIfInBounds p.1 p.2) tmps := by
    rw [← Array.foldl_toList]
    simp
  have hfit2 := fits_params (ps.toList.zip v) (ds := []) hfit (fun p hp => by
    have h1 := (List.of_mem_zip hp).1
    have h2 := Array.all_eq_true'.1 hpt p.1 (by simpa using h1)
    exact h2) rfl
  have hSB : ∀ b ∈ blks (blD x ++ [(l, lo)]) (slD x), b ∈ B := fun b hb => hB b (.inl hb)
  have hinv : Inv w (blks (blD x ++ [(l, lo)]) (slD x)) (FsD x ++ FsS) (blD x ++ [(l, lo)]) (slD x) w :=
    ⟨⟨fun G hG => by
      rcases List.mem_append.1 hG with hG | hG
      · intro b o hb
        rcases hh1 G hG b o hb with ⟨F, hF, hf⟩ | ⟨_, h⟩
        · exact hFs F hF b o hf
        · exact h
      · exact hFs G hG, hh2, hh3⟩, Keep.refl _ _, hp.1, fun b hb => .inl hb, hp.2.1⟩
  have hsz : w0.heap.size ≤ w.heap.size := by have := own_lt hl; omega
  have hFB : ∀ G ∈ FsD x, ∀ b o, G b = some o → (∃ F ∈ FsS, (F b).isSome = true) ∨ b ∈ B := fun G hG b o ho => by
    rcases hh1 G hG b o ho with ⟨F, hF, hf⟩ | ⟨h, _⟩
    · exact .inl ⟨F, hF, by rw [hf]; rfl⟩
    · exact .inr h
  obtain ⟨r, w', hX, hd⟩ := round i x v hv hI w _ hsz _ w hfit2 hinv (cl :: cs) (by simp)
  have hd2 : Steps P (lone (Frame.round l c.fn ((ps.zip v.toArray).foldl (fun tmps (t, a) => tmps.setIfInBounds t a) tmps) as1 body .normal) (cl :: cs) w) (lone (cl.finish r) cs w') := by
    unfold Done at hd
    simp only at hd
    obtain ⟨caller, cs', he, hs⟩ := hd
    obtain ⟨rfl, rfl⟩ := List.cons.inj he
    have : Frame.round l c.fn ((ps.zip v.toArray).foldl (fun tmps (t, a) => tmps.setIfInBounds t a) tmps) as1 body .normal = (⟨c.fn, some l⟩ : Cx).fr { tmps := (ps.toList.zip v).foldl (fun t p => t.setIfInBounds p.1 p.2) tmps, defers := [] } [.code as1, .beginRound, .code body] := by
      rw [hfold]; rfl
    rw [this]
    exact hs
  rcases hX with ⟨rfl, x', hI', hbd, hinv'⟩ | ⟨rfl, y', hI', hbd, hinv'⟩
  · obtain ⟨hp', B', hB', hnd', h1, h2, h3⟩ := pack_of hSB hsz hp.2.2.1 hp.2.2.2 hFB hbd hinv'
    exact ⟨.bool true, w', ⟨mkGuest FsD blD slD FsS l lo x' B' hB' hnd', .inl ⟨rfl, x', hI', hp', B', hB', hnd', rfl⟩, h1, h2, h3⟩, hd2⟩
  · obtain ⟨hp', B', hB', hnd', h1, h2, h3⟩ := pack_of hSB hsz hp.2.2.1 hp.2.2.2 hFB hbd hinv'
    exact ⟨.bool false, w', ⟨mkGuest FsE blE slE FsS l (le y') y' B' hB' hnd', .inr ⟨rfl, y', hI', hp', B', hB', hnd', rfl⟩, h1, h2, h3⟩, hd2⟩
end
theorem loop_tail {γ : Type} {FsX : γ → List Hp} {blX : γ → Blks} {slX : γ → List OwnS} {FsS : List Hp} {x : γ} {lo : Obj} {l : Nat} {Fr : Hp} {w3 : World} {B : List Nat} {hB : ∀ b, gset FsX blX slX FsS l lo x b → b ∈ B} {hnd : B.Nodup}
    (hi6 : Inv w0 S0 (Fr :: FsS) ([] ++ bls) ([.g (mkGuest FsX blX slX FsS l lo x B hB hnd)] ++ sls) w3) (hpx : PureOK FsX blX slX FsS l lo w0 S0 x) (o' : Obj) : w3.heap[l]? = some lo ∧ Inv w0 S0 (FsX x ++ FsS) (blX x ++ bls) (slX x ++ sls) (w3.putObj l o') := by
  obtain ⟨hh1, hh2, hh3, hh4⟩ := hi6.mem.slh _ (List.mem_cons_self)
  have hpb6 : ∀ b, b ∈ B ∨ b ∈ blks bls sls → b ∈ blks ([] ++ bls) ([OwnS.g (mkGuest FsX blX slX FsS l lo x B hB hnd)] ++ sls) := fun b hb => by
    refine (blks_append _ _ _ _ _).2 (hb.imp (fun h => ?_) id)
    simpa [blks, OwnS.blocks, mkGuest] using h
  have hnd6 := (blks_perm [] bls [OwnS.g (mkGuest FsX blX slX FsS l lo x B hB hnd)] sls).nodup_iff.1 hi6.nodup
  have hgb : blks [] [OwnS.g (mkGuest FsX blX slX FsS l lo x B hB hnd)] = B := by simp [blks, OwnS.blocks, mkGuest]
  rw [hgb, List.nodup_append] at hnd6
  have hxB : ∀ b ∈ blks (blX x ++ [(l, lo)]) (slX x), b ∈ B := fun b hb => hB b (.inl hb)
  have hi7 : Inv w0 S0 (FsX x ++ FsS) ((blX x ++ [(l, lo)]) ++ bls) (slX x ++ sls) w3 := by
    refine hi6.change [] (by simp) (Keep.refl w3 []) (fun G hG => ?_) (fun p hp => ?_) (fun s hs => ?_) ?_ (fun b hb => .inl ?_)
    · rcases List.mem_append.1 hG with hG | hG
      · refine .inr ⟨fun b o hb => ?_, fun b hb => ?_⟩
        · rcases hh1 G hG b o hb with ⟨F, hF, hf'⟩ | ⟨_, h⟩
          · exact hi6.mem.fs F (List.mem_cons_of_mem _ hF) b o hf'
          · exact h
        · rcases (blks_append _ _ _ _ _).1 hb with h | h
          · exact hpx.2.1 b h G (List.mem_append_left _ hG)
          · cases hg' : G b with
            | none => rfl
            | some o =>
              rcases hh1 G hG b o hg' with ⟨F, hF, hf'⟩ | ⟨h1, _⟩
              · rw [hi6.apart b (hpb6 b (.inr h)) F (List.mem_cons_of_mem _ hF)] at hf'; cases hf'
              · exact absurd rfl (hnd6.2.2 b h1 b h)
      · exact .inl (List.mem_cons_of_mem _ hG)
    · rcases List.mem_append.1 hp with hp | hp
      · exact hh2 p hp
      · exact hi6.mem.own p (List.mem_append_right _ hp)
    · rcases List.mem_append.1 hs with hs | hs
      · exact hh3 s hs
      · exact hi6.mem.slh s (List.mem_append_right _ hs)
    · rw [(blks_perm _ _ (slX x) sls).nodup_iff, List.nodup_append]
      exact ⟨hpx.1, hnd6.2.1, fun a' ha b hb e => hnd6.2.2 a' (hxB a' ha) b hb e⟩
    · rcases (blks_append _ _ _ _ _).1 hb with h | h
      · exact hpb6 b (.inl (hxB b h))
      · exact hpb6 b (.inr h)
  have hl3 : w3.heap[l]? = some lo := hi7.mem.own (l, lo) (List.mem_append_left _ (List.mem_append_right _ List.mem_cons_self))
  refine ⟨hl3, ?_⟩
  have hp8 : (blks ((blX x ++ [(l, lo)]) ++ bls) (slX x ++ sls)).Perm (l :: blks (blX x ++ bls) (slX x ++ sls)) := by
    simp only [blks, List.append_assoc, List.map_append, List.map_cons, List.map_nil, List.cons_append, List.nil_append]
    exact List.perm_middle
  have hnd8 := List.nodup_cons.1 (hp8.nodup_iff.1 hi7.nodup)
  have hk : ∀ b ∈ blks (blX x ++ bls) (slX x ++ sls), (w3.putObj l o').heap[b]? = w3.heap[b]? := fun b hb =>
    World.putObj_heap_other (fun e => hnd8.1 (e ▸ hb))
  refine hi7.change [l] (fun b hb => ?_) (Keep.putObj w3 _ _) (fun G hG => .inl hG) (fun p hp => ?_) (fun s hs => ?_) hnd8.2 (fun b hb => .inl (hp8.mem_iff.2 (List.mem_cons_of_mem _ hb)))
  · simp only [List.mem_singleton] at hb
    subst hb
    exact hp8.mem_iff.2 List.mem_cons_self
  · rw [hk p.1 (List.mem_append_left _ (List.mem_map.2 ⟨p, hp, rfl⟩))]
    refine hi7.mem.own p ?_
    rcases List.mem_append.1 hp with hp | hp
    · exact List.mem_append_left _ (List.mem_append_left _ hp)
    · exact List.mem_append_right _ hp
  · exact OwnS.same (hi7.mem.slh s hs) fun b hb => hk b (List.mem_append_right _ (List.mem_flatMap.2 ⟨s, hs, hb⟩))
theorem rangeCore {α β : Type} {FsD : α → List Hp} {blD : α → Blks} {slD : α → List OwnS} {FsE : β → List Hp} {blE : β → Blks} {slE : β → List OwnS} {J : β → Code} {I : Nat → α → Prop} {IE : β → Prop} {x0 : α} {g : Operand} {ps : Array Tmp} {as1 body : Code} {f : FuncId} {cap : List Value} {N : Nat} {V : Nat → List Value → Prop} {FsS : List Hp}
    {a : Act} {w w1 : World} {D : Nat} {mark : List Deferred} {l : Nat} (hf : Fits nt df ρ a) (he : (Instr.enterLoop c.fn a.tmps ps as1 body c.ro).run P w = .ok (l, mark) w1)
    (hi3 : Inv w0 S0 (FsD x0 ++ FsS) ((blD x0 ++ [(l, loopObj .ready c.fn a.tmps ps as1 body D)]) ++ bls) (slD x0 ++ sls) w1) (hlb : w0.heap.size ≤ l)
    (hg : ev ρ g = some (.func (.func f) #[] cap.toArray)) (hcall : ∀ args w, (callFunc f args).run P w = .ok (.enter f args) w) (hF0 : ∀ G ∈ FsD x0, ∀ b, G b = none)
    (hit : IterX P f cap FsS N V) (hps : ∀ i v, V i v → v.length = ps.size) (hpt : ps.all (Nat.blt · nt) = true) (hI : I 0 x0)
    (round : ∀ (i : Nat) (x : α) (v : List Value), V i v → I i x → ∀ w1 S1, w0.heap.size ≤ w1.heap.size →
      Cov nt w1 S1 [] ((ps.toList.zip v).reverse ++ ρ) (FsD x ++ FsS) (blD x ++ [(l, loopObj .ready c.fn a.tmps ps as1 body D)]) (slD x)
        (Run P ⟨c.fn, some l⟩ (RoundX FsD blD slD FsE blE slE FsS (FsD x ++ FsS) (I (i + 1)) IE l (loopObj .ready c.fn a.tmps ps as1 body D) (fun y => doneObj c.fn a.tmps ps as1 body D (J y)) w1 S1) [.code as1, .beginRound, .code body]))
    (after : ∀ x, I N x → (∀ G ∈ FsD x, Bd w0 S0 FsS G) → Cov nt w0 S0 (mark ++ df) ρ (FsD x ++ FsS) (blD x ++ bls) (slD x ++ sls) (Run P c R0 k))
    (exit : ∀ y, IE y → (∀ G ∈ FsE y, Bd w0 S0 FsS G) → Cov nt w0 S0 (mark ++ df) ρ (FsE y ++ FsS) (blE y ++ bls) (slE y ++ sls) (Run P c R0 (.code (J y) :: k))) :
    Run P c R0 (.code (.rangeFunc g ps as1 body) :: k) a w := by
  have hnd3 := (blks_perm (blD x0 ++ [(l, loopObj .ready c.fn a.tmps ps as1 body D)]) bls (slD x0) sls).nodup_iff.1 hi3.nodup
  have hin : ∀ b ∈ blks (blD x0 ++ [(l, loopObj .ready c.fn a.tmps ps as1 body D)]) (slD x0), b ∈ blks ((blD x0 ++ [(l, loopObj .ready c.fn a.tmps ps as1 body D)]) ++ bls) (slD x0 ++ sls) := fun b hb => (blks_append _ _ _ _ _).2 (.inl hb)
  have hi4 : Inv w0 S0 (FsD x0 ++ FsS) (blD x0 ++ [(l, loopObj .ready c.fn a.tmps ps as1 body D)]) (slD x0) w1 :=
    hi3.change [] (by simp) (Keep.refl _ _) (fun G hG => .inl hG) (fun p hp => hi3.mem.own p (List.mem_append_left _ hp)) (fun s hs => hi3.mem.slh s (List.mem_append_left _ hs)) (List.nodup_append.1 hnd3).1 (fun b hb => .inl (hin b hb))
  obtain ⟨B, hB, hndB, hh, hgB⟩ := guest_of hi4
  have hB2 : ∀ b ∈ B, b ∈ blks (blD x0 ++ [(l, loopObj .ready c.fn a.tmps ps as1 body D)]) (slD x0) := fun b hb => by
    rcases hgB b hb with h | ⟨⟨G, hG, hs⟩, _⟩
    · exact h
    · rw [hF0 G hG b] at hs; cases hs
  have hpure : PureOK FsD blD slD FsS l (loopObj .ready c.fn a.tmps ps as1 body D) w0 S0 x0 := ⟨hi4.nodup, hi4.apart, hi4.mine, fun G hG b o ho => by rw [hF0 G hG b] at ho; cases ho⟩
  have hfit0 : Fits nt [] ρ { tmps := a.tmps, defers := [] } := ⟨rfl, hf.2.1, hf.2.2⟩
  have hy := yields_ofX (P := P) (nt := nt) (w0 := w0) (S0 := S0) (ρ := ρ) (FsD := FsD) (blD := blD) (slD := slD) (FsE := FsE) (blE := blE) (slE := slE) (FsS := FsS) (l := l) (lo := loopObj .ready c.fn a.tmps ps as1 body D) (le := fun y => doneObj c.fn a.tmps ps as1 body D (J y)) (c := c) (V := V) I IE rfl hlb hps hpt hfit0 round
  have hcon := hit _ _ _ (mkGuest FsD blD slD FsS _ _ x0 B hB hndB) hy ⟨x0, hI, hpure, B, hB, hndB, rfl⟩
  -- the state at the call
  have hi5 : Inv w0 S0 FsS ([] ++ bls) ([.g (mkGuest FsD blD slD FsS _ _ x0 B hB hndB)] ++ sls) w1 := by
    have hpb : ∀ b, b ∈ blks ([] ++ bls) ([.g (mkGuest FsD blD slD FsS _ _ x0 B hB hndB)] ++ sls) → b ∈ B ∨ b ∈ blks bls sls := fun b hb => by
      rcases (blks_append _ _ _ _ _).1 hb with h | h
      · simp only [blks, List.map_nil, List.nil_append, List.flatMap_cons, List.flatMap_nil, List.append_nil] at h
        exact .inl h
      · exact .inr h
    refine hi3.change [] (by simp) (Keep.refl _ _) (fun G hG => .inl (List.mem_append_right _ hG)) (fun p hp => hi3.mem.own p (List.mem_append_right _ hp)) (fun s hs => ?_) ?_ (fun b hb => .inl ?_)
    · rcases List.mem_cons.1 hs with rfl | hs
      · exact hh
      · exact hi3.mem.slh s (List.mem_append_right _ hs)
    · rw [(blks_perm [] _ [.g (mkGuest FsD blD slD FsS _ _ x0 B hB hndB)] sls).nodup_iff, List.nodup_append]
      have hgb : blks [] [OwnS.g (mkGuest FsD blD slD FsS l (loopObj .ready c.fn a.tmps ps as1 body D) x0 B hB hndB)] = B := by simp [blks, OwnS.blocks, mkGuest]
      rw [hgb]
      exact ⟨hndB, (List.nodup_append.1 hnd3).2.1, fun x hx y hy e => (List.nodup_append.1 hnd3).2.2 x (hB2 x hx) y hy e⟩
    · rcases hpb b hb with h | h
      · exact hin b (hB2 b h)
      · exact (blks_append _ _ _ _ _).2 (.inr h)
  intro cs hcs
  have s1 := stepR_rangeFunc (P := P) (b := c.fr a []) (a := a) (k := k) (cs := cs) (w := w) (g := g) (ps := ps) (assign := as1) (body := body) (l := l) (mark := mark)
    (d := { target := .fn (.func f) cap.toArray, args := #[.func (.yield l) #[] #[]] }) (f := f) (args := (Value.func (.yield l) #[] #[] :: cap).toArray)
    (w₁ := w1) (w₁' := w1) (w₂ := w1) he
    (by
      simp only [rangeCall, resolve, ev_sound hf hg, Deferred.ofValue]
      simp [Act.eval])
    (by
      simp only [invoke]
      simpa using hcall (Value.func (.yield l) #[] #[] :: cap).toArray _)
  obtain ⟨e, w3, fr, ⟨v, rfl, Fr, bo, so, hfr, ho, rfl, R, hR, rfl⟩, hcomes, hfn, hleave⟩ := hcon.use hi5 ((c.fr { a with defers := mark ++ a.defers } (.inRangeFunc l :: k)) :: cs)
  have hi6 := hi5.calledG hfr ho
  have hfit : Fits nt (mark ++ df) ρ { a with defers := mark ++ a.defers } := ⟨by simp [hf.1], hf.2.1, hf.2.2⟩
  rcases hR with ⟨x, hIx, hpx, B', hB', hnd', rfl⟩ | ⟨y, hIy, hpy, B', hB', hnd', rfl⟩
  · obtain ⟨hl3, hi8⟩ := loop_tail hi6 hpx (.loop { state := .exhausted, pending := none, fn := c.fn, tmps := a.tmps, params := ps, assign := as1, body := body, defers := D })
    have hend := run_endLoop (P := P) (w := w3) hl3 (by intro h; cases h)
    obtain ⟨v', w5, hR5, hd5⟩ := after x hIx hpx.2.2.2 _ _ hfit hi8 cs hcs
    refine ⟨v', w5, hR5, hd5.of_steps (.head s1 (Steps.trans hcomes (.head (step_leave_returned hleave) (.one ?_))))⟩
    exact stepR_endRangeFunc (P := P) (b := c.fr a []) (a := { a with defers := mark ++ a.defers }) (k := k) (cs := cs) hend
  · obtain ⟨hl3, hi8⟩ := loop_tail hi6 hpy (.loop { state := .exhausted, pending := some (J y), fn := c.fn, tmps := a.tmps, params := ps, assign := as1, body := body, defers := D })
    have hend := run_endLoop (P := P) (w := w3) hl3 (by intro h; cases h)
    obtain ⟨v', w5, hR5, hd5⟩ := exit y hIy hpy.2.2.2 _ _ hfit hi8 cs hcs
    refine ⟨v', w5, hR5, hd5.of_steps (.head s1 (Steps.trans hcomes (.head (step_leave_returned hleave) (.one ?_))))⟩
    exact stepR_endRangeFunc (P := P) (b := c.fr a []) (a := { a with defers := mark ++ a.defers }) (k := k) (cs := cs) hend
theorem Cov.rangeX {α β : Type} (FsD : α → List Hp) (blD : α → Blks) (slD : α → List OwnS) (FsE : β → List Hp) (blE : β → Blks) (slE : β → List OwnS) (J : β → Code) (I : Nat → α → Prop) (IE : β → Prop) (x0 : α) {g : Operand} {ps : Array Tmp} {as1 body : Code} {f : FuncId} (cap : List Value) {N : Nat} {V : Nat → List Value → Prop} {FsS : List Hp}
    (hro : c.ro = none) (hg : ev ρ g = some (.func (.func f) #[] cap.toArray)) (hcall : ∀ args w, (callFunc f args).run P w = .ok (.enter f args) w) (hF : Fs = FsD x0 ++ FsS) (hF0 : ∀ G ∈ FsD x0, ∀ b, G b = none) (hb : bl = blD x0 ++ bls) (hs : sl = slD x0 ++ sls)
    (hit : IterX P f cap FsS N V) (hps : ∀ i v, V i v → v.length = ps.size) (hpt : ps.all (Nat.blt · nt) = true) (hI : I 0 x0)
    (round : ∀ (l : Nat) (tmps : Array Value) (D : Nat) (i : Nat) (x : α) (v : List Value), V i v → I i x → ∀ w1 S1, w0.heap.size ≤ w1.heap.size →
      Cov nt w1 S1 [] ((ps.toList.zip v).reverse ++ ρ) (FsD x ++ FsS) (blD x ++ [(l, loopObj .ready c.fn tmps ps as1 body D)]) (slD x)
        (Run P ⟨c.fn, some l⟩ (RoundX FsD blD slD FsE blE slE FsS (FsD x ++ FsS) (I (i + 1)) IE l (loopObj .ready c.fn tmps ps as1 body D) (fun y => doneObj c.fn tmps ps as1 body D (J y)) w1 S1) [.code as1, .beginRound, .code body]))
    (after : ∀ r x, I N x → (∀ G ∈ FsD x, Bd w0 S0 FsS G) → Cov nt w0 S0 ({ target := .collected r, args := #[] } :: df) ρ (FsD x ++ FsS) (blD x ++ (r, .deferred (some [])) :: bls) (slD x ++ sls) (Run P c R0 k))
    (exit : ∀ r y, IE y → (∀ G ∈ FsE y, Bd w0 S0 FsS G) → Cov nt w0 S0 ({ target := .collected r, args := #[] } :: df) ρ (FsE y ++ FsS) (blE y ++ (r, .deferred (some [])) :: bls) (slE y ++ sls) (Run P c R0 (.code (J y) :: k))) :
    Cov nt w0 S0 df ρ Fs bl sl (Run P c R0 (.code (.rangeFunc g ps as1 body) :: k)) := fun a w hf hi => by
  subst hF hb hs
  have he := run_enterLoop_outer (P := P) (w := w) c.fn a.tmps ps as1 body
  rw [← hro] at he
  have hi1 := hi.alloc (.deferred (some []))
  have hi2 := hi1.alloc (loopObj .ready c.fn a.tmps ps as1 body w.heap.size)
  have hl : (w.alloc (.deferred (some []))).heap.size = w.heap.size + 1 := World.size_alloc ..
  rw [hl] at hi2
  have hperm : ((w.heap.size + 1, loopObj .ready c.fn a.tmps ps as1 body w.heap.size) :: (w.heap.size, Obj.deferred (some [])) :: (blD x0 ++ bls)).Perm ((blD x0 ++ [(w.heap.size + 1, loopObj .ready c.fn a.tmps ps as1 body w.heap.size)]) ++ (w.heap.size, Obj.deferred (some [])) :: bls) := by
    rw [List.append_assoc]
    refine List.Perm.trans ?_ List.perm_append_comm
    simp only [List.cons_append, List.nil_append]
    refine List.Perm.cons _ (List.Perm.cons _ ?_)
    exact List.perm_append_comm
  have hi3 := hi2.perm hperm (List.Perm.refl _)
  have hlb : w0.heap.size ≤ w.heap.size + 1 := by have := hi.keep.size; omega
  exact rangeCore (FsD := FsD) (blD := blD) (slD := slD) (FsE := FsE) (blE := blE) (slE := slE) (J := J) (I := I) (IE := IE) (x0 := x0) hf he hi3 hlb hg hcall hF0 hit hps hpt hI (fun i x v => round _ _ _ i x v) (fun x h1 h2 => after _ x h1 h2) (fun y h1 h2 => exit _ y h1 h2)
theorem Cov.outSD (n : Nat) {fn : Func} (rs : List ResultVar) (vs : List Value) {Q : Value → Blks → List OwnS → Prop} (hf : P.funcs[c.fn]? = some fn) (hrs : fn.results = rs.toArray)
    (hres : RVs P ρ Fs bl sl rs vs) (hsub : ∀ F ∈ Fin, F ∈ Fs) (hpost : Q (retVal vs) (bl.drop n) sl) : Cov nt w0 S0 [] ρ Fs bl sl (Out P c (RP w0 S0 Fin (fun v _ bl sl => Q v bl sl))) := by
  intro a w hfi hinv items cs
  have hsb : (blks (bl.drop n) sl).Sublist (blks bl sl) := ((List.drop_sublist n bl).map _).append (List.Sublist.refl _)
  refine ⟨retVal vs, w, ⟨empHp, bl.drop n, sl, fresh_emp _, ?_, hpost⟩, { c.fr a items with mode := .returning }, Steps.refl _ _, rfl, rfl, hfi.1, rfl, fn, hf, run_results hfi hinv.mem hrs hres⟩
  refine hinv.change [] (by simp) (Keep.refl w []) (fun G hG => ?_) (fun p hp => hinv.mem.own p (List.mem_of_mem_drop hp)) hinv.mem.slh (hinv.nodup.sublist hsb) (fun b hb => .inl (hsb.subset hb))
  rcases List.mem_cons.1 hG with rfl | hG
  · exact .inr ⟨fun b o hb => by simp [empHp] at hb, fun _ _ => rfl⟩
  · exact .inl (hsub G hG)
end
end Go.Proofs.YtfcicopgdahmcaaGreatDoor
end

section
namespace Go.Proofs.YtfcicopgdahmcaaGreatDoor
open Go.RowKit
def viewG (b : Option Nat) (T : TypeId) (pre cs post : List Value) : Guest where
  blks := b.toList
  nodup := by cases b <;> simp
  holds w := ∀ g, b = some g → w.heap[g]? = some (.cells (pre ++ cs ++ post).toArray T (0, 0))
  lt w h x hx := by
    cases b with
    | none => simp at hx
    | some g => simp at hx; subst hx; exact own_lt (h _ rfl)
  same w w' h e g hg := by subst hg; rw [e g (by simp)]; exact h g rfl
def VA (a : Option Addr) (b : Option Nat) (n k : Nat) (pre cs : List Value) : Prop := n ≤ k ∧ (cs ≠ [] → ∃ g, b = some g ∧ a = some ⟨g, pre.length, none⟩)
def VB (a : Option Addr) (b : Option Nat) (n k sz : Nat) (post : List Value) : Prop :=
  (a = none ∧ b = none ∧ n = 0 ∧ k = 0) ∨ ∃ g, a = some ⟨g, 0, none⟩ ∧ b = some g ∧ n ≤ k ∧ k ≤ maxLen ∧ n * sz + post.length = k * sz
theorem flat_len {sz : Nat} : ∀ {xs : List (List Value)}, (∀ x ∈ xs, x.length = sz) → xs.flatten.length = xs.length * sz
  | [], _ => by simp
  | x :: xs, h => by simp only [List.flatten_cons, List.length_append, List.length_cons, Nat.add_mul]; rw [h x List.mem_cons_self, flat_len fun y hy => h y (List.mem_cons_of_mem _ hy)]; omega
theorem OL.clen {α : Type} {Q : Rep α} {G : Hp} {cs : List Value} {l : List α} (h : OL Q G cs l) : cs.length = l.length * Q.sz := by
  obtain ⟨_, xs, rfl, h3, h4⟩ := h
  rw [flat_len h3, h4.1]
theorem VA.len {a : Option Addr} {b : Option Nat} {n n' k : Nat} {pre cs cs' : List Value} (h : VA a b n k pre cs) (hn : n' = n) (hc : cs'.length = cs.length) : VA a b n' k pre cs' :=
  ⟨hn ▸ h.1, fun hne => h.2 fun e => hne (by rw [e] at hc; exact List.eq_nil_of_length_eq_zero hc)⟩
theorem VA.call {α : Type} {Q : Rep α} {G G' : Hp} {a : Option Addr} {b : Option Nat} {k : Nat} {pre cs cs' : List Value} {l l' : List α} (h : VA a b l.length k pre cs) (ho : OL Q G cs l) (ho' : OL Q G' cs' l') (hl : l'.length = l.length) : VA a b l'.length k pre cs' :=
  h.len hl (by rw [ho.clen, ho'.clen, hl])
theorem view_cells {w : World} {a : Option Addr} {b : Option Nat} {n k : Nat} {T : TypeId} {pre cs post : List Value} (h : (viewG b T pre cs post).holds w) (va : VA a b n k pre cs) (hn : 0 < cs.length) :
    ∃ g, a = some ⟨g, pre.length, none⟩ ∧ b = some g ∧ w.heap[g]? = some (.cells (pre ++ cs ++ post).toArray T (0, 0)) ∧ ∀ (q : Nat) (v : Value), cs[q]? = some v → w.cell? ⟨g, pre.length + q, none⟩ = some v := by
  obtain ⟨g, hb, ha⟩ := va.2 (by rintro rfl; simp at hn)
  have hw := h g hb
  refine ⟨g, ha, hb, hw, fun q v hq => ?_⟩
  rw [cell_of_row w g _ _ T (0, 0) hw]
  have hl : q < cs.length := (List.getElem?_eq_some_iff.1 hq).1
  simp only [List.getElem?_toArray]
  rw [List.append_assoc, List.getElem?_append_right (by omega), Nat.add_sub_cancel_left, List.getElem?_append_left hl]
  exact hq
def Rd (s : OwnS) (G : Hp) : Prop := ∃ w, s.holds w ∧ ∀ b ∈ s.blocks, G b = w.heap[b]?
def Rep.flat {α : Type} (Q : Rep α) : Prop := ∀ (G G' : Hp) (c : List Value) (x : α), Q.r G c x → Q.r G' c x
theorem Rep.flat_int (k : IntKind) : (Rep.int k).flat := fun _ _ _ _ h => h
theorem Rep.flat_pair {α β : Type} {A : Rep α} {B : Rep β} (ha : A.flat) (hb : B.flat) : (Rep.pair A B).flat := fun G G' c x ⟨c1, c2, h, h1, h2⟩ => ⟨c1, c2, h, ha G G' _ _ h1, hb G G' _ _ h2⟩
theorem OL.flat {α : Type} {Q : Rep α} (hf : Q.flat) {G G' : Hp} {cs : List Value} {l : List α} (h : OL Q G' cs l) : OL Q G cs l := by
  obtain ⟨hb, xs, h1, h3, h4, h5⟩ := h
  exact ⟨hb, xs, h1, h3, h4, fun i c x hc hx => hf _ _ _ _ (h5 i c x hc hx)⟩
section
variable {P : Program} {c : Cx} {R : Value → World → Prop} {nt : Nat} {w0 : World} {S0 : List Nat} {df : List Deferred} {ρ ρ' : Env} {Fs Fs' Fin B : List Hp} {bl bl' : Blks} {sl sl' : List OwnS}
  {K K' : Act → World → Prop} {k : List Item} {ty : TypeId} {α : Type} {G : Hp}
theorem QOp.idxV (q : Nat) {Q : Rep α} {a : Option Addr} {b : Option Nat} {m T sz : Nat} {l : List α} {pre cs post : List Value} {i : Int} {u : α} {kk : IntKind} {t el : TypeId} {x j : Operand} (hs : sl[q]? = some (.g (viewG b T pre cs post))) (va : VA a b l.length m pre cs) (ho : OL Q G cs l)
    (hx : ev ρ x = some (.slice a l.length m)) (hj : ev ρ j = some (.int kk i)) (he : lidx l i = some u) (ht : slOf P t = some el) (hz : szOf P el = some sz) (hn : sz = Q.sz) (h0 : Nat.blt 0 sz = true) : QOp P ρ Fs bl sl (.indexAddr t x j) ty (elemPtr (.slice a l.length m) i.toNat sz) := .of fun e he' w hm => by
  obtain ⟨h3, h4, _⟩ := lidx_some he
  have h0' : 0 < sz := by simpa [Nat.blt_eq] using h0
  have hpos : 0 < cs.length := by rw [ho.clen, ← hn]; exact Nat.mul_pos (by omega) h0'
  obtain ⟨g, rfl, _⟩ := view_cells (hm.slh _ (List.mem_of_getElem? hs)) va hpos
  refine run_v (s := Instr.indexAt t (e x) (e j)) ?_
  rw [he' x _ hx, he' j _ hj]
  exact run_indexAt ht hz h3 h4
theorem elem_cellsV {w : World} {Q : Rep α} {a : Option Addr} {b : Option Nat} {m T sz n : Nat} {l : List α} {pre cs post d : List Value} (h : (viewG b T pre cs post).holds w) (va : VA a b l.length m pre cs) (ho : OL Q G cs l) (hq : sz = Q.sz) (h0 : Nat.blt 0 sz = true) (hn : n < l.length) (he : Elem sz cs n d) :
    ∃ g, a = some ⟨g, pre.length, none⟩ ∧ b = some g ∧ w.heap[g]? = some (.cells (pre ++ cs ++ post).toArray T (0, 0)) ∧ ∀ (q : Nat) (v : Value), d[q]? = some v → w.cell? ⟨g, pre.length + (n * sz + q), none⟩ = some v := by
  have h0' : 0 < sz := by simpa [Nat.blt_eq] using h0
  have hpos : 0 < cs.length := by rw [ho.clen, ← hq]; exact Nat.mul_pos (by omega) h0'
  obtain ⟨g, ha, hb, hw, hc⟩ := view_cells h va hpos
  exact ⟨g, ha, hb, hw, fun q v hv => hc _ _ (he.2 q v hv)⟩
theorem QOp.loadV (q off : Nat) {Q : Rep α} {a : Option Addr} {b : Option Nat} {m T sz s bytes : Nat} {l : List α} {pre cs post d z : List Value} {i : Int} {u : α} {t : TypeId} {x : Operand} {p v : Value} (hs : sl[q]? = some (.g (viewG b T pre cs post))) (va : VA a b l.length m pre cs) (ho : OL Q G cs l) (hn : sz = Q.sz) (h0 : Nat.blt 0 sz = true)
    (he : lidx l i = some u) (hd : Elem sz cs i.toNat d) (hx : ev ρ x = some p) (hp : PtrO p a l.length m i.toNat sz off) (ht : TyI P t false s bytes z) (hv : d[off]? = some v) : QOp P ρ Fs bl sl (.load t x) ty v := .of fun e he' w hm => by
  obtain ⟨h3, h4, _⟩ := lidx_some he
  obtain ⟨g, rfl, _, _, hc⟩ := elem_cellsV (hm.slh _ (List.mem_of_getElem? hs)) va ho hn h0 (by omega) hd
  refine run_v (s := Instr.loadAt t (e x)) ?_
  rw [he' x _ hx]
  rcases hp with ⟨rfl, rfl⟩ | rfl
  · simp only [elemPtr, addr_add]
    exact run_loadVar_s (run_isAgg ht.agg) (by simpa using hc 0 v hv)
  · simp only [elemPtr, ptrAdd, addr_add]
    exact run_loadVar_s (run_isAgg ht.agg) (by rw [Nat.add_assoc]; exact hc off v hv)
theorem OL.upd {Q : Rep α} {sz off : Nat} {cs dc cv : List Value} {l l' : List α} {i : Int} {y : α} (ho : OL Q G cs l) (hn : sz = Q.sz) (hl : lupd l i y = some l') (hd : Elem sz cs i.toNat dc) (hfit : off + cv.length ≤ sz) (hy : Q.r G (dc.take off ++ cv ++ dc.drop (off + cv.length)) y) :
    OL Q G (cs.take (i.toNat * sz + off) ++ cv ++ cs.drop (i.toNat * sz + off + cv.length)) l' ∧ l'.length = l.length ∧ i.toNat < l.length ∧ (cs.take (i.toNat * sz + off) ++ cv ++ cs.drop (i.toNat * sz + off + cv.length)).length = cs.length := by
  subst hn
  obtain ⟨hi0, hil, rfl⟩ := lupd_some hl
  have hcl := ho.clen
  obtain ⟨hb1, xs, rfl, h3, h4⟩ := ho
  have hxs : ∃ ys : List { c : List Value // c.length = Q.sz }, xs = ys.map (·.1) := ⟨xs.attach.map fun c => ⟨c.1, h3 _ c.2⟩, by simp⟩
  obtain ⟨ys, rfl⟩ := hxs
  have e1 : ys.length = l.length := by have := h4.1; simpa using this
  have hj : i.toNat < ys.length := by omega
  have hdc : (ys[i.toNat]).1 = dc := by
    apply List.ext_getElem?
    intro j
    rcases Nat.lt_or_ge j dc.length with h | h
    · have hjl : j < (ys[i.toNat]).1.length := by rw [(ys[i.toNat]).2, ← hd.1]; exact h
      have g1 := get_flatten (ys.map (·.1)) i.toNat (ys[i.toNat]).1 j _ h3 (by rw [List.getElem?_map, List.getElem?_eq_getElem hj]; rfl) (List.getElem?_eq_getElem hjl)
      have g2 := hd.2 j _ (List.getElem?_eq_getElem h)
      rw [g1] at g2
      rw [List.getElem?_eq_getElem hjl, g2, List.getElem?_eq_getElem h]
    · rw [List.getElem?_eq_none h, List.getElem?_eq_none (by rw [(ys[i.toNat]).2, ← hd.1]; exact h)]
  have hlen : (dc.take off ++ cv ++ dc.drop (off + cv.length)).length = Q.sz := by
    simp only [List.length_append, List.length_take, List.length_drop, hd.1]; omega
  have hgd : ys.getD i.toNat ys[i.toNat] = ys[i.toNat] := by rw [List.getD_eq_getElem?_getD, List.getElem?_eq_getElem hj]; rfl
  have hset := flat_set (f := fun c : { c : List Value // c.length = Q.sz } => c.1) (sz := Q.sz) (fun c => c.2) (ys[i.toNat]) (off := off) (c := cv) hfit (y := ⟨_, hlen⟩) ys i.toNat hj (by rw [hgd, hdc])
  have hle : (i.toNat + 1) * Q.sz ≤ l.length * Q.sz := Nat.mul_le_mul_right _ (by omega)
  rw [Nat.add_mul] at hle
  refine ⟨?_, List.length_set, by omega, by simp only [List.length_append, List.length_take, List.length_drop]; omega⟩
  rw [hset]
  refine ⟨by simp; omega, _, rfl, fun c hc => by obtain ⟨c', _, rfl⟩ := List.mem_map.1 hc; exact c'.2, by simp [e1], fun j c x hc hx => ?_⟩
  simp only [List.getElem?_map, List.getElem?_set] at hc hx
  by_cases hij : i.toNat = j
  · subst hij
    rw [if_pos rfl] at hc hx
    simp [hj, show i.toNat < l.length by omega] at hc hx
    subst hc hx
    simpa only [List.append_assoc] using hy
  · rw [if_neg hij] at hc hx
    exact h4.2 j c x (by rw [List.getElem?_map]; exact hc) hx
theorem Cov.storeV (q : Nat) (off : Nat) {Q : Rep α} {a : Option Addr} {b : Option Nat} {m T sz : Nat} {l l' : List α} {pre cs post dc : List Value} {i : Int} {y : α} {t : TypeId} {x u : Operand} {v p : Value} {agg : Bool} {bytes : Nat} {z : List Value} (hs : Stp P K' ⟨none, .store t x u, ty, none⟩ K)
    (hi : sl[q]? = some (.g (viewG b T pre cs post))) (va : VA a b l.length m pre cs) (hn : sz = Q.sz) (h0 : Nat.blt 0 sz = true) (ho : OL Q G cs l) (hl : lupd l i y = some l') (hx : ev ρ x = some p) (hp : PtrO p a l.length m i.toNat sz off) (hu : ev ρ u = some v) (ht : TyI P t agg (cellsL v).length bytes z) (hd : Elem sz cs i.toNat dc)
    (hy : Q.r G (dc.take off ++ cellsL v ++ dc.drop (off + (cellsL v).length)) y) (h1 : (cellsL v).all (·.oneCell') = true) (hfit : Nat.ble (off + (cellsL v).length) sz = true)
    (hk : ∀ cs', l'.length = l.length → OL Q G cs' l' → VA a b l'.length m pre cs' → Cov nt w0 S0 df ρ Fs bl (sl.set q (.g (viewG b T pre cs' post))) K) : Cov nt w0 S0 df ρ Fs bl sl K' := fun aa w hfi hinv => by
  refine hs aa w ?_
  have hfit' : off + (cellsL v).length ≤ sz := by simpa [Nat.ble_eq] using hfit
  obtain ⟨ho', hll, hil, hcl⟩ := ho.upd hn hl hd hfit' hy
  obtain ⟨g, rfl, rfl, hw, _⟩ := elem_cellsV (hinv.mem.slh _ (List.mem_of_getElem? hi)) va ho hn h0 hil hd
  have hle : i.toNat * sz + off + (cellsL v).length ≤ cs.length := by
    rw [ho.clen, ← hn]
    have : (i.toNat + 1) * sz ≤ l.length * sz := Nat.mul_le_mul_right _ hil
    rw [Nat.add_mul] at this
    omega
  obtain ⟨w', hr, kw, hb'⟩ := storeVar_run (P := P) (cs := pre ++ cs ++ post) (o := pre.length + (i.toNat * sz + off)) (cs' := pre ++ (cs.take (i.toNat * sz + off) ++ cellsL v ++ cs.drop (i.toNat * sz + off + (cellsL v).length)) ++ post) ht hw h1 (by simp only [List.length_append]; omega) (by
    have e1 : (pre ++ cs ++ post).take (pre.length + (i.toNat * sz + off)) = pre ++ cs.take (i.toNat * sz + off) := by
      rw [List.append_assoc, List.take_append, Nat.add_sub_cancel_left, List.take_of_length_le (l := pre) (by omega), List.take_append_of_le_length (by omega)]
    have e2 : (pre ++ cs ++ post).drop (pre.length + (i.toNat * sz + off) + (cellsL v).length) = cs.drop (i.toNat * sz + off + (cellsL v).length) ++ post := by
      rw [List.append_assoc, Nat.add_assoc, List.drop_append, Nat.add_sub_cancel_left, List.drop_of_length_le (l := pre) (by omega), List.nil_append, List.drop_append_of_le_length (by omega)]
    rw [e1, e2]
    simp only [List.append_assoc])
  have hrun : (execOp aa.eval (⟨none, .store t x u, ty, none⟩ : OpX).oper).run P w = .ok .skip w' := by
    refine run_u (s := Instr.storeAt t (aa.eval x) (aa.eval u)) ?_
    rw [ev_sound hfi hx, ev_sound hfi hu]
    rcases hp with ⟨rfl, rfl⟩ | rfl
    · simp only [elemPtr, addr_add]
      exact hr
    · simp only [elemPtr, ptrAdd, addr_add, Nat.add_assoc] at hr ⊢
      exact hr
  unfold Oper.wp
  rw [hrun]
  refine hk _ hll ho' (va.len hll hcl) _ _ (hfi.put_none _) (hinv.set_s q hi (s' := .g (viewG (some g) T pre _ post)) (by simpa [OwnS.blocks, viewG] using kw) ?_ (by simp [OwnS.blocks, viewG]) (fun b hb => .inl (by simpa [OwnS.blocks, viewG] using hb)))
  intro g' hg'
  cases hg'
  exact hb'
theorem Inv.set_same {w : World} (h : Inv w0 S0 Fs bl sl w) (i : Nat) {s s' : OwnS} (hi : sl[i]? = some s) (hs : s'.holds w) (hnd : s'.blocks.Nodup) (hb : ∀ b ∈ s'.blocks, b ∈ s.blocks) : Inv w0 S0 Fs bl (sl.set i s') w :=
  h.set_s i hi (Keep.refl w _) hs hnd fun b h => .inl (hb b h)
theorem Cov.toV (q : Nat) {a : Option Addr} {n m T sz : Nat} {cs : List Value} (hi : sl[q]? = some (.s (.slice a n m) T sz n cs))
    (hk : ∀ b post, VA a b n m [] cs → VB a b n m sz post → Cov nt w0 S0 df ρ Fs bl (sl.set q (.g (viewG b T [] cs post))) K) : Cov nt w0 S0 df ρ Fs bl sl K := fun aa w hfi hinv => by
  have hown : w.ownsRow 0 T sz (.slice a n m) n cs := hinv.mem.slh _ (List.mem_of_getElem? hi)
  rcases hown.2 with ⟨hv, h0⟩ | ⟨g, cap, cur, hv, _, hg, hnc, hm2, hcs, htk⟩
  · cases hv
    have hc0 : cs = [] := List.eq_nil_of_length_eq_zero (by rw [hown.1]; simp)
    subst hc0
    exact hk none [] ⟨Nat.le_refl _, fun h => absurd rfl h⟩ (.inl ⟨rfl, rfl, rfl, rfl⟩) _ _ hfi (hinv.set_same q hi (s' := .g (viewG none T [] [] [])) (fun g hg => by cases hg) (by simp [OwnS.blocks, viewG]) (by simp [OwnS.blocks, viewG]))
  · cases hv
    have hcur : cur = ([] ++ cs ++ cur.toList.drop (n * sz)).toArray := by rw [← htk]; simp
    refine hk (some g) (cur.toList.drop (n * sz)) ⟨hnc, fun _ => ⟨g, rfl, rfl⟩⟩ (.inr ⟨g, rfl, rfl, hnc, hm2, ?_⟩) _ _ hfi (hinv.set_same q hi (s' := .g (viewG (some g) T [] cs (cur.toList.drop (n * sz)))) (fun g' hg' => ?_) (by simp [OwnS.blocks, viewG]) (by simp [OwnS.blocks, viewG, Value.ownBlock]))
    · have : n * sz ≤ m * sz := Nat.mul_le_mul_right _ hnc
      simp only [List.length_drop, Array.length_toList, hcs]; omega
    · cases hg'; rw [hg]; exact congrArg (fun c => some (Obj.cells c T (0, 0))) hcur
theorem Cov.ofV (q : Nat) {Q : Rep α} {a : Option Addr} {b : Option Nat} {n m T sz : Nat} {cs post : List Value} {l : List α} (hi : sl[q]? = some (.g (viewG b T [] cs post))) (vb : VB a b n m sz post) (hl : l.length = n) (ho : OL Q G cs l) (hn : sz = Q.sz)
    (hk : Cov nt w0 S0 df ρ Fs bl (sl.set q (.s (.slice a l.length m) T sz l.length cs)) K) : Cov nt w0 S0 df ρ Fs bl sl K := fun aa w hfi hinv => by
  subst hl
  have hh : (viewG b T [] cs post).holds w := hinv.mem.slh _ (List.mem_of_getElem? hi)
  have hcl := ho.clen
  rcases vb with ⟨rfl, rfl, h0, rfl⟩ | ⟨g, rfl, rfl, h1, h2, h3⟩
  · have hc0 : cs = [] := List.eq_nil_of_length_eq_zero (by rw [hcl, h0]; simp)
    refine hk _ _ hfi (hinv.set_same q hi (s' := .s (.slice none l.length 0) T sz l.length cs) ?_ (by simp [OwnS.blocks, Value.ownBlock]) (by simp [OwnS.blocks, Value.ownBlock]))
    rw [hc0, h0]
    exact World.ownsRow_nil w 0 T sz
  · refine hk _ _ hfi (hinv.set_same q hi (s' := .s (.slice (some ⟨g, 0, none⟩) l.length m) T sz l.length cs) ?_ (by simp [OwnS.blocks, Value.ownBlock]) (by simp [OwnS.blocks, Value.ownBlock, viewG]))
    refine ⟨by rw [hcl, hn], .inr ⟨g, m, _, rfl, Nat.zero_le _, hh g rfl, h1, h2, ?_, ?_⟩⟩
    · simp only [List.nil_append, List.size_toArray, List.length_append, hcl, ← hn]; exact h3
    · simp only [List.nil_append]
      exact List.take_left' (by rw [hcl, hn])
theorem Cov.reV (q : Nat) {b : Option Nat} {T : TypeId} {pre cs post : List Value} (pre' cs' post' : List Value) (hi : sl[q]? = some (.g (viewG b T pre cs post))) (he : pre ++ cs ++ post = pre' ++ cs' ++ post')
    (hk : Cov nt w0 S0 df ρ Fs bl (sl.set q (.g (viewG b T pre' cs' post'))) K) : Cov nt w0 S0 df ρ Fs bl sl K := fun aa w hfi hinv => by
  have hh : (viewG b T pre cs post).holds w := hinv.mem.slh _ (List.mem_of_getElem? hi)
  refine hk _ _ hfi (hinv.set_same q hi (s' := .g (viewG b T pre' cs' post')) (fun g hg => ?_) (viewG b T pre' cs' post').nodup (fun b h => h))
  rw [← he]; exact hh g hg
theorem SlR.rd {Q : Rep α} {G' : Hp} {a : Option Addr} {m T sz : Nat} {l : List α} {cs : List Value} (ho : OL Q G cs l) (hn : sz = Q.sz) (hle : HpLe G G') (h : Rd (.s (.slice a l.length m) T sz l.length cs) G') : SlR Q G' a m l := by
  obtain ⟨w, hh, hb⟩ := h
  have hown : w.ownsRow 0 T sz (.slice a l.length m) l.length cs := hh
  have hlb := ho.1
  obtain ⟨_, xs, rfl, h3, h4⟩ := ho
  have e1 : xs.length = l.length := h4.1
  refine ⟨by omega, xs, ⟨a, m, by rw [e1], ?_, fun x hx => h3 x hx, fun hne => ?_⟩, h4.mono hle⟩
  · rw [e1]
    rcases hown.2 with ⟨hv, h0⟩ | ⟨g, cap, cur, hv, _, hg, hnc, hm2, hcs, htk⟩
    · simp only [Value.slice.injEq] at hv; omega
    · simp only [Value.slice.injEq] at hv; omega
  · rcases hown.2 with ⟨hv, h0⟩ | ⟨g, cap, cur, hv, _, hg, hnc, hm2, hcs, htk⟩
    · rw [h0] at e1; exact absurd (List.eq_nil_of_length_eq_zero e1) hne
    · cases hv
      refine ⟨g, 0, rfl, fun i x hx j v hj => ?_⟩
      have := hb g (by simp [OwnS.blocks, Value.ownBlock])
      unfold rcell
      rw [this, hg]
      have hfl := get_flatten xs i x j v h3 hx hj
      have hlt : i * Q.sz + j < l.length * Q.sz := by
        have hi : i < xs.length := (List.getElem?_eq_some_iff.1 hx).1
        have hj' : j < Q.sz := by rw [← h3 x (List.mem_of_getElem? hx)]; exact (List.getElem?_eq_some_iff.1 hj).1
        have : (i + 1) * Q.sz ≤ l.length * Q.sz := Nat.mul_le_mul_right _ (by omega)
        rw [Nat.add_mul] at this
        omega
      rw [← htk, hn, List.getElem?_take_of_lt hlt] at hfl
      simpa using hfl
theorem RetW.flat {f : FuncId} {args : Array Value} {bin : Blks} {sin : List OwnS} {Q : Value → Blks → List OwnS → Hp → Prop} (h : RetW P f args Fs bin sin Q) : RetG P f args Fs bin sin fun v _ bo so => ∃ G2, Q v bo so G2 :=
  fun w h1 h2 h3 h4 h5 => (h w h1 h2 h3 h4 h5).mono fun _ w' ⟨Fr, bo, so, a, b, d⟩ => ⟨Fr, bo, so, a, b, whole w', d _ fun F hF x o hx => b.mem.fs F hF x o hx⟩
theorem Inv.lendB {w : World} {s1 sB s2 : List OwnS} (hi : Inv w0 S0 (G :: B) bl (s1 ++ (sB ++ s2)) w) : ∃ G', HpLe G G' ∧ (∀ s ∈ sB, Rd s G') ∧ Inv w0 S0 (G' :: G :: B) bl (s1 ++ s2) w ∧ (∀ Fin, Bd w0 S0 Fin G → Bd w0 S0 Fin G') ∧
    ∀ w' Fs2 bo so, Inv w0 S0 (Fs2 ++ G' :: G :: B) bo (so ++ s2) w' → Inv w0 S0 (G :: B) bo (so ++ (sB ++ s2)) w' := by
  classical
  let G' : Hp := fun b => if b ∈ sB.flatMap OwnS.blocks then w.heap[b]? else G b
  have hblk : ∀ b, b ∈ blks bl (s1 ++ (sB ++ s2)) ↔ b ∈ blks bl (s1 ++ s2) ∨ b ∈ sB.flatMap OwnS.blocks := fun b => by
    simp only [blks, List.flatMap_append, List.mem_append]
    constructor
    · rintro (h | h | h | h) <;> simp [h]
    · rintro ((h | h | h) | h) <;> simp [h]
  have hperm : (blks bl (s1 ++ (sB ++ s2))).Perm (sB.flatMap OwnS.blocks ++ blks bl (s1 ++ s2)) := by
    simp only [blks, List.flatMap_append]
    have e1 : (s1.flatMap OwnS.blocks ++ (sB.flatMap OwnS.blocks ++ s2.flatMap OwnS.blocks)).Perm (sB.flatMap OwnS.blocks ++ (s1.flatMap OwnS.blocks ++ s2.flatMap OwnS.blocks)) := by
      rw [← List.append_assoc, ← List.append_assoc]; exact List.perm_append_comm.append_right _
    exact (e1.append_left _).trans (List.perm_append_comm_assoc _ _ _)
  have hnd := List.nodup_append.1 (hperm.nodup_iff.1 hi.nodup)
  have hmine : ∀ b ∈ sB.flatMap OwnS.blocks, b ∈ blks bl (s1 ++ (sB ++ s2)) := fun b hb => (hblk b).2 (.inr hb)
  have hapG : ∀ b ∈ sB.flatMap OwnS.blocks, ∀ F ∈ G :: B, F b = none := fun b hb F hF => hi.apart b (hmine b hb) F hF
  have hle : HpLe G G' := fun b o hb => by
    show (if _ then _ else _) = _
    rw [if_neg fun h => by rw [hapG b h G List.mem_cons_self] at hb; cases hb]; exact hb
  have hG'w : HpIn G' w := fun b o hb => by
    have hb' : (if b ∈ sB.flatMap OwnS.blocks then w.heap[b]? else G b) = some o := hb
    split at hb'
    · exact hb'
    · exact hi.mem.fs G List.mem_cons_self b o hb'
  have hval : ∀ b ∈ sB.flatMap OwnS.blocks, G' b = w.heap[b]? := fun b hb => by show (if _ then _ else _) = _; rw [if_pos hb]
  have hhold : ∀ s ∈ sB, s.holds w := fun s hs => hi.mem.slh s (List.mem_append_right _ (List.mem_append_left _ hs))
  refine ⟨G', hle, fun s hs => ⟨w, hhold s hs, fun b hb => hval b (List.mem_flatMap.2 ⟨s, hs, hb⟩)⟩, ?_, fun Fin hbd b o hb => ?_, ?_⟩
  · refine hi.change [] (by simp) (Keep.refl w []) (fun F hF => ?_) hi.mem.own (fun s hs => hi.mem.slh s ?_) hnd.2.1 (fun b hb => .inl ((hblk b).2 (.inl hb)))
    · rcases List.mem_cons.1 hF with rfl | hF
      · refine .inr ⟨hG'w, fun b hb => ?_⟩
        have hn : b ∉ sB.flatMap OwnS.blocks := fun h => hnd.2.2 b h b hb rfl
        show (if _ then _ else _) = _
        rw [if_neg hn]
        exact hi.apart b ((hblk b).2 (.inl hb)) G List.mem_cons_self
      · exact .inl hF
    · rcases List.mem_append.1 hs with h | h
      · exact List.mem_append_left _ h
      · exact List.mem_append_right _ (List.mem_append_right _ h)
  · by_cases hm : b ∈ sB.flatMap OwnS.blocks
    · rcases hi.mine b (hmine b hm) with h | h
      · exact .inr (.inl h)
      · exact .inl h
    · refine hbd b o ?_
      have hb' : (if b ∈ sB.flatMap OwnS.blocks then w.heap[b]? else G b) = some o := hb
      rwa [if_neg hm] at hb'
  · intro w' Fs2 bo so hi'
    have hG'm : G' ∈ Fs2 ++ G' :: G :: B := List.mem_append_right _ List.mem_cons_self
    have hblk' : ∀ b, b ∈ blks bo (so ++ (sB ++ s2)) ↔ b ∈ blks bo (so ++ s2) ∨ b ∈ sB.flatMap OwnS.blocks := fun b => by
      simp only [blks, List.flatMap_append, List.mem_append]
      constructor
      · rintro (h | h | h | h) <;> simp [h]
      · rintro ((h | h | h) | h) <;> simp [h]
    have hperm' : (blks bo (so ++ (sB ++ s2))).Perm (sB.flatMap OwnS.blocks ++ blks bo (so ++ s2)) := by
      simp only [blks, List.flatMap_append]
      have e1 : (so.flatMap OwnS.blocks ++ (sB.flatMap OwnS.blocks ++ s2.flatMap OwnS.blocks)).Perm (sB.flatMap OwnS.blocks ++ (so.flatMap OwnS.blocks ++ s2.flatMap OwnS.blocks)) := by
        rw [← List.append_assoc, ← List.append_assoc]; exact List.perm_append_comm.append_right _
      exact (e1.append_left _).trans (List.perm_append_comm_assoc _ _ _)
    have hlt : ∀ b ∈ sB.flatMap OwnS.blocks, ∃ o, w.heap[b]? = some o := fun b hb => by
      obtain ⟨s, hs, hb⟩ := List.mem_flatMap.1 hb
      exact ⟨_, Array.getElem?_eq_getElem (OwnS.lt (hhold s hs) b hb)⟩
    have hsame : ∀ b ∈ sB.flatMap OwnS.blocks, w'.heap[b]? = w.heap[b]? := fun b hb => by
      obtain ⟨o, ho⟩ := hlt b hb
      rw [ho]; exact hi'.mem.fs G' hG'm b o (by rw [hval b hb]; exact ho)
    refine ⟨⟨fun F hF => hi'.mem.fs F (List.mem_append_right _ (List.mem_cons_of_mem _ hF)), hi'.mem.own, fun s hs => ?_⟩, hi'.keep, ?_, fun b hb => ?_, fun b hb F hF => ?_⟩
    · rcases List.mem_append.1 hs with h | h
      · exact hi'.mem.slh s (List.mem_append_left _ h)
      · rcases List.mem_append.1 h with h | h
        · exact OwnS.same (hhold s h) fun b hb => hsame b (List.mem_flatMap.2 ⟨s, h, hb⟩)
        · exact hi'.mem.slh s (List.mem_append_right _ h)
    · rw [hperm'.nodup_iff, List.nodup_append]
      refine ⟨hnd.1, hi'.nodup, fun a ha b hb e => ?_⟩
      subst e
      have h1 := hi'.apart a hb G' hG'm
      obtain ⟨o, ho⟩ := hlt a ha
      rw [hval a ha, ho] at h1
      cases h1
    · rcases (hblk' b).1 hb with h | h
      · exact hi'.mine b h
      · exact hi.mine b (hmine b h)
    · rcases (hblk' b).1 hb with h | h
      · exact hi'.apart b h F (List.mem_append_right _ (List.mem_cons_of_mem _ hF))
      · exact hapG b h F hF
theorem Cov.callB {b1 b2 : Blks} {s1 sB s2 : List OwnS} (vs cap : List Value) {d : Nat} {f : FuncId} {fop : Operand} {args : Array Operand} {ts : Array TypeId} {Q : Value → Blks → List OwnS → Prop} (hs : Stp P K' ⟨some d, .call ⟨.value fop, args, ts⟩, ty, none⟩ K)
    (hf : ev ρ fop = some (.func (.func f) #[] cap.toArray)) (ha : args.toList.map (ev ρ) = vs.map some) (hcall : ∀ args w, (callFunc f args).run P w = .ok (.enter f args) w) (hbl : bl = b1 ++ b2) (hsl : sl = s1 ++ (sB ++ s2))
    (hr : ∀ Fs' G', HpLe G G' → (∀ s ∈ sB, Rd s G') → G' ∈ Fs' → RetG P f (vs ++ cap).toArray Fs' b1 s1 (fun v _ bo so => Q v bo so)) (hd : Nat.blt d nt = true)
    (hk : ∀ v bo so, Q v bo so → Cov nt w0 S0 df ((d, v) :: ρ) (G :: B) (bo ++ b2) (so ++ (sB ++ s2)) K) : Cov nt w0 S0 df ρ (G :: B) bl sl K' := fun a w hfi hi => by
  subst hsl
  obtain ⟨G', hle, hrd, hi2, _, hback⟩ := hi.lendB
  exact Cov.callg vs cap hs hf ha hcall hbl rfl (hr (G' :: G :: B) G' hle hrd List.mem_cons_self) hd (fun v Fr bo so _ hq a' w' hf' hi' => hk v bo so hq a' w' hf' (hback w' [Fr] _ _ hi')) a w hfi hi2
end
end Go.Proofs.YtfcicopgdahmcaaGreatDoor
end

section
namespace Go.Proofs.YtfcicopgdahmcaaGreatDoor
open Go.RowKit
structure NE where
  a : Option Addr
  n : Nat
  k : Nat
  cs : List Value
def NE.nil : NE := ⟨none, 0, 0, []⟩
def NE.h (e : NE) : Option Addr × Nat × Nat := (e.a, e.n, e.k)
def NE.s (T : TypeId) (m : Nat) (e : NE) : OwnS := .s (.slice e.a e.n e.k) T m e.n e.cs
def nblks (T : TypeId) (m : Nat) (es : List NE) : List Nat := es.flatMap fun e => (e.s T m).blocks
def packG (T : TypeId) (m : Nat) (es : List NE) : Guest where
  blks := if (nblks T m es).Nodup then nblks T m es else []
  nodup := by split; assumption; simp
  holds w := (nblks T m es).Nodup ∧ ∀ e ∈ es, (e.s T m).holds w
  lt w h b hb := by
    rw [if_pos h.1] at hb
    obtain ⟨e, he, hb⟩ := List.mem_flatMap.1 hb
    exact OwnS.lt (h.2 e he) b hb
  same w w' h hs := ⟨h.1, fun e he => OwnS.same (h.2 e he) fun b hb => hs b (by rw [if_pos h.1]; exact List.mem_flatMap.2 ⟨e, he, hb⟩)⟩
def Rep.hdr : Rep (Option Addr × Nat × Nat) where
  sz := 1
  r _ c x := c = [.slice x.1 x.2.1 x.2.2]
  len h := by rw [h]; rfl
  mono _ h := h
  one h := by rw [h]; rfl
def NL {α : Type} (Q : Rep α) (G : Hp) (es : List NE) (cs : List Value) (x : List (List α)) : Prop :=
  OL Rep.hdr G cs (es.map NE.h) ∧ es.length = x.length ∧ ∀ (i : Nat) (e : NE) (y : List α), es[i]? = some e → x[i]? = some y → e.n = y.length ∧ OL Q G e.cs y
theorem NL.mono {α : Type} {Q : Rep α} {G G' : Hp} {es : List NE} {cs : List Value} {x : List (List α)} (hg : HpLe G G') (h : NL Q G es cs x) : NL Q G' es cs x :=
  ⟨h.1.mono hg, h.2.1, fun i e y h1 h2 => ⟨(h.2.2 i e y h1 h2).1, (h.2.2 i e y h1 h2).2.mono hg⟩⟩
theorem Rep.flat_hdr : Rep.hdr.flat := fun _ _ _ _ h => h
theorem NL.flat {α : Type} {Q : Rep α} (hf : Q.flat) {G G' : Hp} {es : List NE} {cs : List Value} {x : List (List α)} (h : NL Q G' es cs x) : NL Q G es cs x :=
  ⟨OL.flat Rep.flat_hdr h.1, h.2.1, fun i e y h1 h2 => ⟨(h.2.2 i e y h1 h2).1, OL.flat hf (h.2.2 i e y h1 h2).2⟩⟩
theorem NL.len' {α : Type} {Q : Rep α} {G : Hp} {es : List NE} {cs : List Value} {x : List (List α)} (h : NL Q G es cs x) : x.length ≤ 9223372036854775807 := by
  have := h.1.len'; rw [List.length_map, h.2.1] at this; exact this
theorem NL.get {α : Type} {Q : Rep α} {G : Hp} {es : List NE} {cs : List Value} {x : List (List α)} (h : NL Q G es cs x) {i : Int} {y : List α} (hx : lidx x i = some y) :
    ∃ e, es[i.toNat]? = some e ∧ e.n = y.length ∧ OL Q G e.cs y ∧ Elem 1 cs i.toNat [.slice e.a y.length e.k] := by
  obtain ⟨h3, h4, h5⟩ := lidx_some hx
  have hlt : i.toNat < es.length := by rw [h.2.1]; omega
  have he : es[i.toNat]? = some es[i.toNat] := List.getElem?_eq_getElem hlt
  obtain ⟨hn, ho⟩ := h.2.2 _ _ _ he h5
  refine ⟨es[i.toNat], he, hn, ho, ?_⟩
  obtain ⟨c, hc1, hc2⟩ := h.1.get (i := i) (x := es[i.toNat].h) (by
    unfold lidx
    rw [if_pos h3, List.getElem?_map, he]; rfl)
  have : c = [.slice es[i.toNat].a es[i.toNat].n es[i.toNat].k] := hc2
  rw [this, hn] at hc1
  exact hc1
section
variable {P : Program} {c : Cx} {R : Value → World → Prop} {nt : Nat} {w0 : World} {S0 : List Nat} {df : List Deferred} {ρ ρ' : Env} {Fs Fs' Fin B : List Hp} {bl bl' : Blks} {sl sl' : List OwnS}
  {K K' : Act → World → Prop} {k : List Item} {ty : TypeId} {α : Type} {G : Hp}
theorem QOp.inN (q : Nat) {T : TypeId} {m : Nat} {es : List NE} {i : Nat} {e : NE} {n : Nat} {op : Op} {v : Value} (hs : sl[q]? = some (.g (packG T m es))) (he : es[i]? = some e) (hn : e.n = n)
    (h : QOp P ρ Fs bl [.s (.slice e.a n e.k) T m n e.cs] op ty v) : QOp P ρ Fs bl sl op ty v := fun nt df a w hf hm => by
  subst hn
  refine h nt df a w hf ⟨hm.fs, hm.own, fun s hs' => ?_⟩
  rw [List.mem_singleton.1 hs']
  exact (hm.slh _ (List.mem_of_getElem? hs)).2 e (List.mem_of_getElem? he)
theorem nil_s (T : TypeId) (m : Nat) : (NE.nil.s T m).blocks = [] := rfl
theorem nil_holds (w : World) (T : TypeId) (m : Nat) : (NE.nil.s T m).holds w := World.ownsRow_nil w 0 T m
theorem nblks_set (T : TypeId) (m : Nat) : ∀ (es : List NE) (i : Nat) (e e' : NE), es[i]? = some e → ((nblks T m (es.set i e')) ++ (e.s T m).blocks).Perm ((e'.s T m).blocks ++ nblks T m es)
  | [], i, e, e', h => by simp at h
  | x :: es, 0, e, e', h => by
    simp at h; subst h
    simp only [List.set_cons_zero, nblks, List.flatMap_cons]
    rw [List.append_assoc]
    exact List.Perm.append_left _ List.perm_append_comm
  | x :: es, i + 1, e, e', h => by
    have ih := nblks_set T m es i e e' (by simpa using h)
    simp only [List.set_cons_succ, nblks, List.flatMap_cons] at ih ⊢
    rw [List.append_assoc]
    exact (ih.append_left _).trans (List.perm_append_comm_assoc _ _ _)
theorem Cov.takeN (q : Nat) {T : TypeId} {m : Nat} {es : List NE} {i : Nat} {e : NE} {n : Nat} (hs : sl[q]? = some (.g (packG T m es))) (he : es[i]? = some e) (hn : e.n = n)
    (h : Cov nt w0 S0 df ρ Fs bl (.s (.slice e.a n e.k) T m n e.cs :: sl.set q (.g (packG T m (es.set i NE.nil)))) K) : Cov nt w0 S0 df ρ Fs bl sl K := fun aa w hf hi => by
  subst hn
  have hh : (packG T m es).holds w := hi.mem.slh _ (List.mem_of_getElem? hs)
  have hp := nblks_set T m es i e NE.nil he
  rw [nil_s, List.nil_append] at hp
  have hnd := hp.nodup_iff.2 hh.1
  have hnd2 := List.nodup_append.1 hnd
  have hb1 : (packG T m es).blks = nblks T m es := if_pos hh.1
  have hb2 : (packG T m (es.set i NE.nil)).blks = nblks T m (es.set i NE.nil) := if_pos hnd2.1
  have hp1 : (blks bl sl).Perm ((packG T m es).blks ++ blks bl (sl.eraseIdx q)) := by
    have h1 := ((perm_erase sl q _ hs).flatMap_right OwnS.blocks).append_left (bl.map (·.1))
    refine h1.trans ?_
    simp only [List.flatMap_cons, blks]
    exact List.perm_append_comm_assoc _ _ _
  have hp2 : (blks bl (.s (.slice e.a e.n e.k) T m e.n e.cs :: sl.set q (.g (packG T m (es.set i NE.nil))))).Perm (blks bl sl) := by
    refine List.Perm.trans ?_ hp1.symm
    simp only [blks, List.flatMap_cons]
    have h1 := (set_perm_flat OwnS.blocks sl q _ (.g (packG T m (es.set i NE.nil))) hs).append_left ((e.s T m).blocks)
    have h2 : ((e.s T m).blocks ++ (OwnS.blocks (.g (packG T m (es.set i NE.nil))) ++ (sl.eraseIdx q).flatMap OwnS.blocks)).Perm ((packG T m es).blks ++ (sl.eraseIdx q).flatMap OwnS.blocks) := by
      rw [← List.append_assoc]
      refine List.Perm.append_right _ ?_
      show ((e.s T m).blocks ++ (packG T m (es.set i NE.nil)).blks).Perm _
      rw [hb1, hb2]
      exact List.perm_append_comm.trans hp
    exact ((h1.trans h2).append_left _).trans (List.perm_append_comm_assoc _ _ _)
  refine h aa w hf (hi.change [] (by simp) (Keep.refl w []) (fun G hG => .inl hG) hi.mem.own (fun s hs' => ?_) (hp2.nodup_iff.2 hi.nodup) (fun b hb => .inl (hp2.mem_iff.1 hb)))
  rcases List.mem_cons.1 hs' with rfl | hs'
  · exact hh.2 e (List.mem_of_getElem? he)
  · obtain ⟨j, hj, rfl⟩ := List.getElem_of_mem hs'
    rw [List.getElem_set]
    split
    · refine ⟨hnd2.1, fun x hx => ?_⟩
      rcases List.mem_or_eq_of_mem_set hx with hx | rfl
      · exact hh.2 x hx
      · exact nil_holds w T m
    · exact hi.mem.slh _ (List.getElem_mem (by simpa using hj))
theorem Cov.putN (q : Nat) {T : TypeId} {m : Nat} {es : List NE} {i : Nat} {a : Option Addr} {n kk : Nat} {cs : List Value} {s2 : List OwnS} (hsl : sl = .s (.slice a n kk) T m n cs :: s2) (hs : s2[q]? = some (.g (packG T m es))) (he : es[i]? = some NE.nil)
    (h : Cov nt w0 S0 df ρ Fs bl (s2.set q (.g (packG T m (es.set i ⟨a, n, kk, cs⟩)))) K) : Cov nt w0 S0 df ρ Fs bl sl K := fun aa w hf hi => by
  subst hsl
  have hh : (packG T m es).holds w := hi.mem.slh _ (List.mem_cons_of_mem _ (List.mem_of_getElem? hs))
  have ho : (OwnS.s (.slice a n kk) T m n cs).holds w := hi.mem.slh _ List.mem_cons_self
  have hp := nblks_set T m es i NE.nil ⟨a, n, kk, cs⟩ he
  rw [nil_s, List.append_nil] at hp
  have hb1 : (packG T m es).blks = nblks T m es := if_pos hh.1
  have hq : (blks bl (.s (.slice a n kk) T m n cs :: s2)).Perm (nblks T m (es.set i ⟨a, n, kk, cs⟩) ++ blks bl (s2.eraseIdx q)) := by
    simp only [blks, List.flatMap_cons]
    have h1 := ((perm_erase s2 q _ hs).flatMap_right OwnS.blocks).append_left ((OwnS.s (.slice a n kk) T m n cs).blocks)
    simp only [List.flatMap_cons] at h1
    rw [← List.append_assoc (OwnS.blocks _) (OwnS.blocks (.g (packG T m es)))] at h1
    have h2 : ((OwnS.s (.slice a n kk) T m n cs).blocks ++ OwnS.blocks (.g (packG T m es))).Perm (nblks T m (es.set i ⟨a, n, kk, cs⟩)) := by
      show (_ ++ (packG T m es).blks).Perm _
      rw [hb1]; exact hp.symm
    exact ((h1.trans (h2.append_right _)).append_left _).trans (List.perm_append_comm_assoc _ _ _)
  have hnd := hq.nodup_iff.1 hi.nodup
  have hnd1 := (List.nodup_append.1 hnd).1
  have hb2 : (packG T m (es.set i ⟨a, n, kk, cs⟩)).blks = nblks T m (es.set i ⟨a, n, kk, cs⟩) := if_pos hnd1
  have hp2 : (blks bl (s2.set q (.g (packG T m (es.set i ⟨a, n, kk, cs⟩))))).Perm (blks bl (.s (.slice a n kk) T m n cs :: s2)) := by
    refine List.Perm.trans ?_ hq.symm
    simp only [blks]
    have h1 := (set_perm_flat OwnS.blocks s2 q _ (.g (packG T m (es.set i ⟨a, n, kk, cs⟩))) hs)
    have h2 : OwnS.blocks (.g (packG T m (es.set i ⟨a, n, kk, cs⟩))) = nblks T m (es.set i ⟨a, n, kk, cs⟩) := hb2
    rw [h2] at h1
    exact (h1.append_left _).trans (List.perm_append_comm_assoc _ _ _)
  refine h aa w hf (hi.change [] (by simp) (Keep.refl w []) (fun G hG => .inl hG) hi.mem.own (fun s hs' => ?_) (hp2.nodup_iff.2 hi.nodup) (fun b hb => .inl (hp2.mem_iff.1 hb)))
  obtain ⟨j, hj, rfl⟩ := List.getElem_of_mem hs'
  rw [List.getElem_set]
  split
  · refine ⟨hnd1, fun x hx => ?_⟩
    rcases List.mem_or_eq_of_mem_set hx with hx | rfl
    · exact hh.2 x hx
    · exact ho
  · exact hi.mem.slh _ (List.mem_cons_of_mem _ (List.getElem_mem (by simpa using hj)))
theorem nblks_nil (T : TypeId) (m : Nat) : ∀ n, nblks T m (List.replicate n NE.nil) = []
  | 0 => rfl
  | n + 1 => by
    have := nblks_nil T m n
    unfold nblks at this ⊢
    rw [List.replicate_succ, List.flatMap_cons, nil_s, List.nil_append]; exact this
theorem Cov.pack0 (T : TypeId) (m n : Nat) (h : Cov nt w0 S0 df ρ Fs bl (.g (packG T m (List.replicate n NE.nil)) :: sl) K) : Cov nt w0 S0 df ρ Fs bl sl K := fun aa w hf hi => by
  have hb0 := nblks_nil T m n
  have hb : blks bl (.g (packG T m (List.replicate n NE.nil)) :: sl) = blks bl sl := by
    have : (packG T m (List.replicate n NE.nil)).blks = [] := by show (if _ then _ else _) = _; rw [hb0]; simp
    simp only [blks, List.flatMap_cons, OwnS.blocks, this, List.nil_append]
  refine h aa w hf (hi.change [] (by simp) (Keep.refl w []) (fun G hG => .inl hG) hi.mem.own (fun s hs => ?_) (by rw [hb]; exact hi.nodup) (fun b hx => .inl (by rwa [hb] at hx)))
  rcases List.mem_cons.1 hs with rfl | hs
  · refine ⟨by rw [hb0]; simp, fun e he => ?_⟩
    rw [(List.mem_replicate.1 he).2]; exact nil_holds w T m
  · exact hi.mem.slh s hs
theorem Cov.makeN {Q : Rep α} (T : TypeId) (m : Nat) {d : Nat} {t el : TypeId} {x y : Operand} {n : Int} {agg : Bool} {bytes : Nat} {l : List (List α)} (hs : Stp P K' ⟨some d, .makeSlice t x y, ty, none⟩ K) (ht : slOf P t = some el) (hel : TyI P el agg 1 bytes [.slice none 0 0])
    (hx : ev ρ x = some (.int .i64 n)) (hy : ev ρ y = some (.int .i64 n)) (hl : lmk n ([] : List α) = some l) (hby : Nat.ble bytes 8388608 = true) (hd : Nat.blt d nt = true)
    (hk : ∀ b es cs, w0.heap.size ≤ b → NL Q G es cs l → Cov nt w0 S0 df ((d, .slice (some ⟨b, 0, none⟩) l.length l.length) :: ρ) Fs bl (.s (.slice (some ⟨b, 0, none⟩) l.length l.length) el 1 l.length cs :: .g (packG T m es) :: sl) K) : Cov nt w0 S0 df ρ Fs bl sl K' := by
  obtain ⟨h0, h1, rfl⟩ := lmk_some hl
  refine Cov.pack0 T m n.toNat ?_
  refine Cov.makeR (G := G) (Q := Rep.hdr) (zx := (none, 0, 0)) (l := List.replicate n.toNat (none, 0, 0)) hs ht hel rfl rfl rfl rfl hx hy ?_ hby hd fun b cs hb ho => ?_
  · unfold lmk at hl ⊢
    split at hl
    · rename_i hh; rw [if_pos hh]
    · cases hl
  · have hk' := hk b (List.replicate n.toNat NE.nil) cs hb ⟨by rw [List.map_replicate]; exact ho, by simp, fun i e z h1 h2 => by
      rw [List.getElem?_replicate] at h1 h2
      split at h1
      · rename_i hh; rw [if_pos hh] at h2; cases h1; cases h2; exact ⟨rfl, OL.nil⟩
      · cases h1⟩
    simpa using hk'
theorem NL.set {Q : Rep α} {es : List NE} {cs cs' : List Value} {x x' : List (List α)} {i : Int} {y : List α} {e : NE} (h : NL Q G es cs x) (hl : lupd x i y = some x') (hn : e.n = y.length) (ho : OL Q G e.cs y) (hc : OL Rep.hdr G cs' ((es.map NE.h).set i.toNat e.h)) : NL Q G (es.set i.toNat e) cs' x' := by
  obtain ⟨hi0, hil, rfl⟩ := lupd_some hl
  refine ⟨by rw [List.map_set]; exact hc, by simp [h.2.1], fun j e' y' h1 h2 => ?_⟩
  rw [List.getElem?_set] at h1 h2
  by_cases hij : i.toNat = j
  · subst hij
    have := h.2.1
    rw [if_pos rfl, if_pos (by omega)] at h1
    rw [if_pos rfl, if_pos (by omega)] at h2
    cases h1; cases h2
    exact ⟨hn, ho⟩
  · rw [if_neg hij] at h1 h2
    exact h.2.2 j e' y' h1 h2
theorem NL.hole {es : List NE} {i : Nat} {e : NE} (he : es[i]? = some e) : (es.set i NE.nil)[i]? = some NE.nil := by
  rw [List.getElem?_set, if_pos rfl, if_pos (List.getElem?_eq_some_iff.1 he).1]
theorem Cov.storeN (q1 q2 : Nat) {Q : Rep α} {oa : Option Addr} {om T0 T m : Nat} {x x' : List (List α)} {es : List NE} {cs ics : List Value} {i : Int} {y : List α} {a : Option Addr} {kk : Nat} {t : TypeId} {px u : Operand} {p : Value} {agg : Bool} {bytes : Nat} {z : List Value} {s2 : List OwnS} {e : NE} (hs : Stp P K' ⟨none, .store t px u, ty, none⟩ K)
    (hsl : sl = .s (.slice a y.length kk) T m y.length ics :: s2) (h1 : s2[q1]? = some (.s (.slice oa x.length om) T0 1 x.length cs)) (h2 : s2[q2]? = some (.g (packG T m (es.set i.toNat NE.nil)))) (hN : NL Q G es cs x) (he : es[i.toNat]? = some e) (ho : OL Q G ics y) (hl : lupd x i y = some x')
    (hx : ev ρ px = some p) (hp : PtrO p oa x.length om i.toNat 1 0) (hu : ev ρ u = some (.slice a y.length kk)) (ht : TyI P t agg 1 bytes z) (hq : (q1 == q2) = false)
    (hk : ∀ es' cs', x'.length = x.length → NL Q G es' cs' x' → Cov nt w0 S0 df ρ Fs bl ((s2.set q1 (.s (.slice oa x'.length om) T0 1 x'.length cs')).set q2 (.g (packG T m es'))) K) : Cov nt w0 S0 df ρ Fs bl sl K' := by
  refine Cov.putN q2 hsl h2 (NL.hole he) ?_
  have hq' : q1 ≠ q2 := by simpa using hq
  have e1 : x.length = (es.map NE.h).length := by rw [List.length_map, hN.2.1]
  have hlen : x'.length = x.length := by obtain ⟨_, _, rfl⟩ := lupd_some hl; simp
  obtain ⟨hi0, hil, _⟩ := lupd_some hl
  have hilt : i.toNat < es.length := by have := hN.2.1; omega
  have hel : Elem 1 cs i.toNat [.slice e.a e.n e.k] := by
    obtain ⟨c, hc1, hc2⟩ := hN.1.get (i := i) (x := e.h) (by
      unfold lidx
      rw [if_pos hi0, List.getElem?_map, he]; rfl)
    have : c = [.slice e.a e.n e.k] := hc2
    rwa [this] at hc1
  refine Cov.storeR q1 0 (Q := Rep.hdr) (y := (a, y.length, kk)) (l := es.map NE.h) (l' := (es.map NE.h).set i.toNat (a, y.length, kk)) (sz := 1) hs (by rw [List.getElem?_set_ne (Ne.symm hq'), h1, e1]) rfl hN.1 ?_ hx (by rw [← e1]; exact hp) hu ht hel ?_ rfl rfl fun cs' hll ho' => ?_
  · unfold lupd
    rw [if_pos ⟨hi0, by rw [← e1]; exact hil⟩]
  · show _ = [_]
    simp [cellsL, Value.cells]
  · have hN' : NL Q G (es.set i.toNat ⟨a, y.length, kk, ics⟩) cs' x' := hN.set hl rfl ho (by simpa [NE.h] using ho')
    have hk' := hk _ cs' hlen hN'
    have e2 : ((es.map NE.h).set i.toNat (a, y.length, kk)).length = x'.length := by rw [List.length_set, ← e1, hlen]
    rw [e2]
    rw [List.set_set] at *
    rw [List.set_comm _ _ hq']  at hk'
    exact hk'
theorem Cov.backN (q1 q : Nat) {Q : Rep α} {oa : Option Addr} {om T0 T m : Nat} {x x' : List (List α)} {es : List NE} {cs ics : List Value} {i : Int} {y : List α} {s2 : List OwnS} {e : NE} (hsl : sl = .s (.slice e.a y.length e.k) T m y.length ics :: s2) (h1 : s2[q1]? = some (.s (.slice oa x.length om) T0 1 x.length cs)) (h2 : s2[q]? = some (.g (packG T m (es.set i.toNat NE.nil)))) (hN : NL Q G es cs x) (he : es[i.toNat]? = some e) (hn : y.length = e.n) (ho : OL Q G ics y) (hl : lupd x i y = some x')
    (hk : ∀ es', x'.length = x.length → NL Q G es' cs x' → es'.map NE.h = es.map NE.h → Cov nt w0 S0 df ρ Fs bl ((s2.set q1 (.s (.slice oa x'.length om) T0 1 x'.length cs)).set q (.g (packG T m es'))) K) : Cov nt w0 S0 df ρ Fs bl sl K := by
  refine Cov.putN q hsl h2 (NL.hole he) ?_
  have hlen : x'.length = x.length := by obtain ⟨_, _, rfl⟩ := lupd_some hl; simp
  have hsame : (es.map NE.h).set i.toNat (NE.h ⟨e.a, y.length, e.k, ics⟩) = es.map NE.h := by
    have h3 : (es.map NE.h)[i.toNat]? = some (NE.h ⟨e.a, y.length, e.k, ics⟩) := by rw [List.getElem?_map, he]; simp [NE.h, hn]
    obtain ⟨hlt, h4⟩ := List.getElem?_eq_some_iff.1 h3
    rw [← h4]; exact List.set_getElem_self hlt
  have hN' : NL Q G (es.set i.toNat ⟨e.a, y.length, e.k, ics⟩) cs x' := hN.set hl rfl ho (by rw [hsame]; exact hN.1)
  have hk' := hk _ hlen hN' (by rw [List.map_set]; exact hsame)
  have hs : s2.set q1 (.s (.slice oa x'.length om) T0 1 x'.length cs) = s2 := by
    obtain ⟨hlt, h4⟩ := List.getElem?_eq_some_iff.1 h1
    rw [hlen, ← h4]; exact List.set_getElem_self hlt
  rw [hs] at hk'
  rw [List.set_set]
  exact hk'
theorem Rd.entry {T m : Nat} {es : List NE} {G' : Hp} (h : Rd (.g (packG T m es)) G') {e : NE} (he : e ∈ es) : Rd (e.s T m) G' := by
  obtain ⟨w, hh, hb⟩ := h
  exact ⟨w, hh.2 e he, fun b hbe => hb b (by
    show b ∈ (if _ then _ else _)
    rw [if_pos hh.1]; exact List.mem_flatMap.2 ⟨e, he, hbe⟩)⟩
theorem SlR.rdN {Q : Rep α} {G' : Hp} {a : Option Addr} {kk T0 T m : Nat} {x : List (List α)} {es : List NE} {cs : List Value} (hN : NL Q G es cs x) (hm : m = Q.sz) (hle : HpLe G G') (h1 : Rd (.s (.slice a x.length kk) T0 1 x.length cs) G') (h2 : Rd (.g (packG T m es)) G') : SlR (Rep.sl Q) G' a kk x := by
  refine SlR.rd (G := G') (T := T0) ?_ rfl (HpLe.refl _) h1
  obtain ⟨⟨hb, xs, rfl, h3, h4⟩, h5, h6⟩ := hN
  rw [List.length_map] at hb
  refine ⟨by omega, xs, rfl, h3, by rw [h4.1, List.length_map, h5], fun i c y hc hy => ?_⟩
  have hlt : i < es.length := by rw [h5]; exact (List.getElem?_eq_some_iff.1 hy).1
  have he : es[i]? = some es[i] := List.getElem?_eq_getElem hlt
  obtain ⟨hn, ho⟩ := h6 i _ y he hy
  have hc' : c = [.slice es[i].a es[i].n es[i].k] := h4.2 i c es[i].h hc (by rw [List.getElem?_map, he]; rfl)
  refine ⟨es[i].a, es[i].k, by rw [hc', hn], ?_⟩
  have hr := h2.entry (List.getElem_mem hlt)
  unfold NE.s at hr
  rw [hn] at hr
  exact SlR.rd ho hm hle hr
theorem Cov.freezeN {Q : Rep α} {a : Option Addr} {kk T0 T m : Nat} {x : List (List α)} {es : List NE} {cs : List Value} {s2 : List OwnS} (hsl : sl = .s (.slice a x.length kk) T0 1 x.length cs :: .g (packG T m es) :: s2) (hN : NL Q G es cs x) (hm : m = Q.sz) (hB : Bd w0 S0 B G)
    (hk : ∀ G', HpLe G G' → Bd w0 S0 B G' → SlR (Rep.sl Q) G' a kk x → Cov nt w0 S0 df ρ (G' :: B) bl s2 K) : Cov nt w0 S0 df ρ (G :: B) bl sl K := fun aa w hf hi => by
  subst hsl
  have hi' : Inv w0 S0 (G :: B) bl ([] ++ ([.s (.slice a x.length kk) T0 1 x.length cs, .g (packG T m es)] ++ s2)) w := hi
  obtain ⟨G', hle, hrd, hi2, hbd, _⟩ := hi'.lendB
  refine Cov.less (Fs' := G' :: B) ?_ (hk G' hle (hbd B hB) (SlR.rdN hN hm hle (hrd _ List.mem_cons_self) (hrd _ (List.mem_cons_of_mem _ List.mem_cons_self)))) aa w hf hi2
  intro F hF
  rcases List.mem_cons.1 hF with rfl | hF
  · exact List.mem_cons_self
  · exact List.mem_cons_of_mem _ (List.mem_cons_of_mem _ hF)
end
end Go.Proofs.YtfcicopgdahmcaaGreatDoor
end

section
namespace Go.Proofs.YtfcicopgdahmcaaGreatDoor
open Go.RowKit
set_option linter.unusedVariables false
theorem SlR.cells {α : Type} {Q : Rep α} {G : Hp} {a : Option Addr} {k : Nat} {l : List α} (h : SlR Q G a k l) : ∃ xs : List (List Value), (∀ x ∈ xs, x.length = Q.sz) ∧ RL Q G xs l ∧ (a = none → l = []) ∧
    ∀ w, HpIn G w → ∀ ad, a = some ad → ∀ (j : Nat) u, xs.flatten[j]? = some u → w.cell? (ad.add j) = some u := by
  have hnil : a = none → l = [] := fun e => h.isnil (by simp [e])
  obtain ⟨_, xs, ⟨a', cap, hv, hc, hsz, hcc⟩, hrl⟩ := h
  simp only [Value.slice.injEq] at hv
  obtain ⟨rfl, hlen, rfl⟩ := hv
  refine ⟨xs, hsz, hrl, hnil, fun w hw ad had j u hj => ?_⟩
  have hne : xs ≠ [] := by rintro rfl; simp at hj
  obtain ⟨b, o, hb, hcell⟩ := hcc hne
  rw [had] at hb
  cases hb
  have hfl := flat_len hsz
  have hlt : j < xs.length * Q.sz := by rw [← hfl]; exact (List.getElem?_eq_some_iff.1 hj).1
  have hpos : 0 < Q.sz := by
    rcases Nat.eq_zero_or_pos Q.sz with h | h
    · rw [h] at hlt; omega
    · exact h
  have hq : j / Q.sz < xs.length := Nat.div_lt_of_lt_mul (by rw [Nat.mul_comm]; exact hlt)
  have hm : j % Q.sz < Q.sz := Nat.mod_lt _ hpos
  have hxq : xs[j / Q.sz]? = some xs[j / Q.sz] := List.getElem?_eq_getElem hq
  have hl2 := hsz _ (List.getElem_mem hq)
  have hg := get_flatten xs (j / Q.sz) _ (j % Q.sz) ((xs[j / Q.sz])[j % Q.sz]'(by omega)) hsz hxq (List.getElem?_eq_getElem _)
  have hdm : j / Q.sz * Q.sz + j % Q.sz = j := by rw [Nat.mul_comm]; exact Nat.div_add_mod j Q.sz
  rw [hdm] at hg
  rw [hg] at hj
  have := hcell (j / Q.sz) _ hxq (j % Q.sz) u (by rw [List.getElem?_eq_getElem (by omega)]; exact hj)
  rw [Nat.add_assoc, hdm] at this
  rw [addr_add]
  exact hw.cell this
section
variable {P : Program} {c : Cx} {R : Value → World → Prop} {nt : Nat} {w0 : World} {S0 : List Nat} {df : List Deferred} {ρ ρ' : Env} {Fs Fs' Fin B : List Hp} {bl bl' : Blks} {sl sl' : List OwnS}
  {K K' : Act → World → Prop} {k : List Item} {ty : TypeId} {α : Type} {G : Hp}
theorem QOp.slice3n {sz : Nat} {len cap : Nat} {a : Option Addr} {t el : TypeId} {x hi mx : Operand} {k2 k3 : IntKind} {h m : Int} (hx : ev ρ x = some (.slice a len cap)) (hh : ev ρ hi = some (.int k2 h)) (hm : ev ρ mx = some (.int k3 m)) (ht : slOf P t = some el) (hz : szOf P el = some sz)
    (h1 : 0 ≤ h) (h2 : h ≤ m) (h3 : m ≤ (cap : Int)) : QOp P ρ Fs bl sl (.slice t x none (some hi) (some mx)) ty (subV3 (.slice a len cap) 0 h.toNat m.toNat sz) := .of fun e he w _ => by
  have hu := slOf_spec ht
  refine run_v (s := Instr.sliceAt t (e x) none (some (e hi)) (some (e mx))) ?_
  rw [he x _ hx, he hi _ hh, he mx _ hm]
  unfold Instr.sliceAt
  rw [Sem.run_bind, run_underlying hu]
  simp only [Result.andThen_ok]
  unfold Instr.slice
  rw [Sem.run_bind, run_underlying hu]
  simp only [Result.andThen_ok]
  have hb : (Instr.sliceBounds true len cap none (some (.int k2 h)) (some (.int k3 m))).run P w = .ok (0, h.toNat, m.toNat) w := by
    unfold Instr.sliceBounds
    have e1 : 0 ≤ m := by omega
    have e3 : h ≤ ((m.toNat : Nat) : Int) := by omega
    have e5 : h ≤ max m 0 := by omega
    simp [Instr.sliceBound, asIntOf, h1, h3, e1, e5]
  rw [Sem.run_bind, hb]
  simp only [Result.andThen_ok]
  rw [Sem.run_bind, run_sizeOf hz]
  rfl
end
end Go.Proofs.YtfcicopgdahmcaaGreatDoor
end

section
namespace Go.Proofs.YtfcicopgdahmcaaGreatDoor
open Go.RowKit
set_option linter.unusedVariables false
section
variable {P : Program} {c : Cx} {R : Value → World → Prop} {nt : Nat} {w0 : World} {S0 : List Nat} {df : List Deferred} {ρ ρ' : Env} {Fs Fs' Fin B : List Hp} {bl bl' : Blks} {sl sl' : List OwnS}
  {K K' : Act → World → Prop} {k : List Item} {ty : TypeId} {α : Type} {G : Hp}
theorem Cov.openB {sB s2 : List OwnS} (hsl : sl = sB ++ s2) (hB : Bd w0 S0 B G)
    (hk : ∀ G', HpLe G G' → Bd w0 S0 B G' → (∀ s ∈ sB, Rd s G') → (∀ (G2 : Hp) (ρ' : Env) (df' : List Deferred) (bo : Blks) (so : List OwnS) (K' : Act → World → Prop), HpLe G' G2 → Cov nt w0 S0 df' ρ' (G :: B) bo (sB ++ so) K' → Cov nt w0 S0 df' ρ' (G2 :: B) bo so K') →
      Cov nt w0 S0 df ρ (G' :: B) bl s2 K) : Cov nt w0 S0 df ρ (G :: B) bl sl K := fun a w hf hi => by
  subst hsl
  have hi' : Inv w0 S0 (G :: B) bl ([] ++ (sB ++ s2)) w := hi
  obtain ⟨G', hle, hrd, hi2, hbd, _⟩ := hi'.lendB
  have hnd0 : (sB.flatMap OwnS.blocks).Nodup := by
    have h1 := hi.nodup
    simp only [blks, List.flatMap_append] at h1
    exact (List.nodup_append.1 (List.nodup_append.1 h1).2.1).1
  have hmine : ∀ b ∈ sB.flatMap OwnS.blocks, b ∈ blks bl (sB ++ s2) := fun b hb => by
    simp only [blks, List.flatMap_append, List.mem_append]; exact .inr (.inl hb)
  have hsome : ∀ b ∈ sB.flatMap OwnS.blocks, ∃ o, G' b = some o := fun b hb => by
    obtain ⟨s, hs, hb⟩ := List.mem_flatMap.1 hb
    obtain ⟨w', h1, h2⟩ := hrd s hs
    rw [h2 b hb]
    exact ⟨_, Array.getElem?_eq_getElem (OwnS.lt h1 b hb)⟩
  refine Cov.less (Fs' := G' :: B) (fun F hF => by rcases List.mem_cons.1 hF with rfl | hF; exact List.mem_cons_self; exact List.mem_cons_of_mem _ (List.mem_cons_of_mem _ hF)) (hk G' hle (hbd B hB) hrd fun G2 ρ' df' bo so K' hle2 hc a' w' hf' hinv' => ?_) a w hf hi2
  refine hc a' w' hf' ?_
  have hG2 := hinv'.mem.fs G2 List.mem_cons_self
  have hin : HpIn G' w' := fun b o hb => hG2 b o (hle2 b o hb)
  have hblk : ∀ b, b ∈ blks bo (sB ++ so) ↔ b ∈ sB.flatMap OwnS.blocks ∨ b ∈ blks bo so := fun b => by
    simp only [blks, List.flatMap_append, List.mem_append]
    constructor
    · rintro (h | h | h) <;> simp [h]
    · rintro (h | h | h) <;> simp [h]
  have hperm : (blks bo (sB ++ so)).Perm (sB.flatMap OwnS.blocks ++ blks bo so) := by
    simp only [blks, List.flatMap_append]
    exact List.perm_append_comm_assoc _ _ _
  refine ⟨⟨fun F hF => ?_, hinv'.mem.own, fun s hs => ?_⟩, hinv'.keep, ?_, fun b hb => ?_, fun b hb F hF => ?_⟩
  · rcases List.mem_cons.1 hF with rfl | hF
    · exact fun b o hb => hin b o (hle b o hb)
    · exact hinv'.mem.fs F (List.mem_cons_of_mem _ hF)
  · rcases List.mem_append.1 hs with h | h
    · obtain ⟨w1, h1, h2⟩ := hrd s h
      refine OwnS.same h1 fun b hb => ?_
      obtain ⟨o, ho⟩ := hsome b (List.mem_flatMap.2 ⟨s, h, hb⟩)
      rw [hin b o ho, ← ho, h2 b hb]
    · exact hinv'.mem.slh s h
  · rw [hperm.nodup_iff, List.nodup_append]
    refine ⟨hnd0, hinv'.nodup, fun x hx y hy e => ?_⟩
    subst e
    obtain ⟨o, ho⟩ := hsome x hx
    have := hinv'.apart x hy G2 List.mem_cons_self
    rw [hle2 x o ho] at this
    cases this
  · rcases (hblk b).1 hb with h | h
    · exact hi.mine b (hmine b h)
    · exact hinv'.mine b h
  · rcases (hblk b).1 hb with h | h
    · exact hi.apart b (hmine b h) F hF
    · rcases List.mem_cons.1 hF with rfl | hF
      · cases hg : F b with
        | none => rfl
        | some o =>
          have := hinv'.apart b h G2 List.mem_cons_self
          rw [hle2 b o (hle b o hg)] at this
          cases this
      · exact hinv'.apart b h F (List.mem_cons_of_mem _ hF)
end
end Go.Proofs.YtfcicopgdahmcaaGreatDoor
end

section
namespace Go.Proofs.YtfcicopgdahmcaaGreatDoor
open Go.RowKit
variable {P : Program} {ρ : Env} {Fs : List Hp} {bl : Blks} {sl : List OwnS} {ty : TypeId}
theorem QOp.shrw {t u : TypeId} {x y : Operand} {k k' : IntKind} {m n : Int} (hx : ev ρ x = some (.int k m)) (hy : ev ρ y = some (.int k' n)) (hn : 0 ≤ n) : QOp P ρ Fs bl sl (.binOp .shr t x y u) ty (.int k (shrI k m n)) :=
  .bin hx hy fun w => by
    have h1 : (eqGuard .shr t x y (.int k m) (.int k' n)).run P w = .ok () w := rfl
    rw [Sem.run_bind, h1]
    simp only [Result.andThen_ok]
    have : Op.shift .shr k m k' n = pure (.int k (shrI k m n)) := by
      unfold Op.shift shrI; rw [if_neg (by omega)]
    simp only [binOp]
    rw [this]
    rfl
end Go.Proofs.YtfcicopgdahmcaaGreatDoor
end

section
namespace Go.Proofs.YtfcicopgdahmcaaGreatDoor
open Go.RowKit
set_option linter.unusedVariables false
def PartV (a : Option Addr) (sz : Nat) (v : Value) (i len : Nat) : Prop := ∃ a' c', v = .slice a' len c' ∧ len ≤ c' ∧ (len ≠ 0 → ∀ g o, a = some ⟨g, o, none⟩ → a' = some ⟨g, o + i * sz, none⟩)
theorem PartV.whole {a : Option Addr} {sz n m : Nat} (h : n ≤ m) : PartV a sz (.slice a n m) 0 n := ⟨a, m, rfl, h, fun _ g o e => by rw [e]; simp⟩
theorem PartV.sub {a : Option Addr} {sz : Nat} {v : Value} {i len : Nat} (h : PartV a sz v i len) {i' j' : Nat} (h1 : i' ≤ j') (h2 : j' ≤ len) : PartV a sz (subV v i' j' sz) (i + i') (j' - i') := by
  obtain ⟨a', c', rfl, hc, ha⟩ := h
  refine ⟨_, _, rfl, by omega, fun hne g o e => ?_⟩
  have := ha (by omega) g o e
  subst this
  rw [if_neg (by omega)]
  simp [addr_add, Nat.add_mul, Nat.add_assoc]
theorem run_copy_gen {P : Program} (w : World) (dT sT ty elem : TypeId) (sz g o dLen dCap sLen : Nat) (s : Value) (cur : Array Value) (t : TypeId) (cs : List Value)
    (hu : P.underlying dT = some (.slice elem)) (hs : szOf P elem = some sz) (hg : w.heap[g]? = some (.cells cur t (0, 0))) (hl : (Builtin.lenOf s).run P w = .ok sLen w)
    (hf : (Builtin.firstCells sz (Nat.min sLen dLen) s).run P w = .ok cs.toArray w) (hfit : o + cs.length ≤ cur.size) (h1 : ∀ v ∈ cs, v.oneCell' = true) :
    (Builtin.copy_ #[dT, sT] ty #[.slice (some ⟨g, o, none⟩) dLen dCap, s]).run P w = .ok (goInt (Nat.min sLen dLen)) (w.setRow g (cur.toList.take o ++ cs ++ cur.toList.drop (o + cs.length)).toArray) := by
  have hst := run_storeCells_at P g o t cs 0 cur w hg (by simpa using hfit) h1
  simp only [Nat.add_zero] at hst
  unfold Builtin.copy_
  simp [run_underlying hu, hl, run_sizeOf hs, hf, hst]
theorem run_copy_zero {P : Program} (w : World) (dT sT ty elem : TypeId) (sz dLen dCap sLen : Nat) (d : Option Addr) (s : Value) (hu : P.underlying dT = some (.slice elem)) (hs : szOf P elem = some sz) (hl : (Builtin.lenOf s).run P w = .ok sLen w)
    (hf : (Builtin.firstCells sz 0 s).run P w = .ok #[] w) (h0 : Nat.min sLen dLen = 0) :
    (Builtin.copy_ #[dT, sT] ty #[.slice d dLen dCap, s]).run P w = .ok (goInt 0) w := by
  unfold Builtin.copy_
  cases d <;> simp [run_underlying hu, hl, run_sizeOf hs, hf, h0, storeCells]
def SrcV (P : Program) (Fs : List Hp) (bl : Blks) (sl : List OwnS) {α : Type} (Q : Rep α) (G : Hp) (s : Value) (ls : List α) : Prop :=
  ∀ w, Mem Fs bl sl w → (Builtin.lenOf s).run P w = .ok ls.length w ∧ ∀ n, n ≤ ls.length → n ≤ 16777216 → ∃ c : List Value, (Builtin.firstCells Q.sz n s).run P w = .ok c.toArray w ∧ OL Q G c (ls.take n)
section
variable {α : Type} {Q : Rep α} {G : Hp}
theorem OL.take {cs : List Value} {l : List α} (h : OL Q G cs l) (i : Nat) : OL Q G (cs.take (i * Q.sz)) (l.take i) := by
  obtain ⟨hb, xs, rfl, h3, h4, h5⟩ := h
  have key : ∀ (xs : List (List Value)) (i : Nat), (∀ x ∈ xs, x.length = Q.sz) → xs.flatten.take (i * Q.sz) = (xs.take i).flatten := by
    intro xs
    induction xs with
    | nil => intro i _; simp
    | cons x xs ih =>
      intro i hx
      cases i with
      | zero => simp
      | succ i =>
        have hl := hx x List.mem_cons_self
        rw [List.flatten_cons, List.take_succ_cons, List.flatten_cons, ← ih i fun y hy => hx y (List.mem_cons_of_mem _ hy), Nat.add_mul, List.take_append, hl, List.take_of_length_le (by omega)]
        congr 2; omega
  refine ⟨by rw [List.length_take]; omega, xs.take i, key xs i h3, fun x hx => h3 x (List.mem_of_mem_take hx), by rw [List.length_take, List.length_take, h4], fun j c x hc hx => ?_⟩
  have hj : j < i := by
    rcases Nat.lt_or_ge j i with h | h
    · exact h
    · rw [List.getElem?_take_eq_none h] at hx; cases hx
  rw [List.getElem?_take_of_lt hj] at hc hx
  exact h5 j c x hc hx
theorem OL.drop {cs : List Value} {l : List α} (h : OL Q G cs l) (i : Nat) : OL Q G (cs.drop (i * Q.sz)) (l.drop i) := by
  obtain ⟨hb, xs, rfl, h3, h4, h5⟩ := h
  have key : ∀ (xs : List (List Value)) (i : Nat), (∀ x ∈ xs, x.length = Q.sz) → xs.flatten.drop (i * Q.sz) = (xs.drop i).flatten := by
    intro xs
    induction xs with
    | nil => intro i _; simp
    | cons x xs ih =>
      intro i hx
      cases i with
      | zero => simp
      | succ i =>
        have hl := hx x List.mem_cons_self
        rw [List.flatten_cons, List.drop_succ_cons, ← ih i fun y hy => hx y (List.mem_cons_of_mem _ hy), Nat.add_mul, List.drop_append, hl, List.drop_of_length_le (by omega), List.nil_append]
        congr 1; omega
  refine ⟨by rw [List.length_drop]; omega, xs.drop i, key xs i h3, fun x hx => h3 x (List.mem_of_mem_drop hx), by rw [List.length_drop, List.length_drop, h4], fun j c x hc hx => ?_⟩
  rw [List.getElem?_drop] at hc hx
  exact h5 _ c x hc hx
theorem OL.append {cs cs' : List Value} {l l' : List α} (h : OL Q G cs l) (h' : OL Q G cs' l') (hb : l.length + l'.length ≤ 16777216) : OL Q G (cs ++ cs') (l ++ l') := by
  obtain ⟨_, xs, rfl, h3, h4, h5⟩ := h
  obtain ⟨_, ys, rfl, k3, k4, k5⟩ := h'
  refine ⟨by rw [List.length_append]; exact hb, xs ++ ys, by rw [List.flatten_append], fun x hx => ?_, by rw [List.length_append, List.length_append, h4, k4], fun j c x hc hx => ?_⟩
  · rcases List.mem_append.1 hx with hx | hx
    · exact h3 x hx
    · exact k3 x hx
  · by_cases hj : j < xs.length
    · rw [List.getElem?_append_left hj] at hc
      rw [List.getElem?_append_left (by omega)] at hx
      exact h5 j c x hc hx
    · rw [List.getElem?_append_right (by omega)] at hc
      rw [List.getElem?_append_right (by omega)] at hx
      rw [h4] at hc
      exact k5 _ c x hc hx
theorem OL.ones {cs : List Value} {l : List α} (h : OL Q G cs l) : ∀ v ∈ cs, v.oneCell' = true := fun v hv => by
  obtain ⟨_, xs, rfl, h3, h4, h5⟩ := h
  obtain ⟨x, hx, hvx⟩ := List.mem_flatten.1 hv
  obtain ⟨i, hi, rfl⟩ := List.getElem_of_mem hx
  have := Q.one (h5 i _ _ (List.getElem?_eq_getElem hi) (List.getElem?_eq_getElem (by omega)))
  exact List.all_eq_true.1 this v hvx
end
section
variable {P : Program} {Fs : List Hp} {bl : Blks} {sl : List OwnS} {α : Type} {Q : Rep α} {G : Hp}
theorem SrcV.nil : SrcV P Fs bl sl Q G (.slice none 0 0) ([] : List α) := fun w _ => ⟨rfl, fun n hn _ => by
  obtain rfl : n = 0 := by simpa using hn
  exact ⟨[], by simp [Builtin.firstCells], OL.nil⟩⟩
theorem SrcV.rd {a : Option Addr} {k : Nat} {l : List α} (h : SlR Q G a k l) (hG : G ∈ Fs) : SrcV P Fs bl sl Q G (.slice a l.length k) l := fun w hm => ⟨rfl, fun n hn hb => by
  obtain ⟨xs, h1, h2, h3, h4⟩ := h.cells
  have ho : OL Q G (xs.take n).flatten (l.take n) := by
    refine ⟨by rw [List.length_take]; omega, xs.take n, rfl, fun x hx => h1 x (List.mem_of_mem_take hx), by rw [List.length_take, List.length_take, h2.1], fun j c x hc hx => ?_⟩
    have hj : j < n := by
      rcases Nat.lt_or_ge j n with h | h
      · exact h
      · rw [List.getElem?_take_eq_none h] at hx; cases hx
    rw [List.getElem?_take_of_lt hj] at hc hx
    exact h2.2 j c x hc hx
  refine ⟨_, ?_, ho⟩
  have hcl := ho.clen
  rw [List.length_take, Nat.min_eq_left hn] at hcl
  cases a with
  | none =>
    have := h3 rfl
    subst this
    obtain rfl : n = 0 := by simpa using hn
    simp [Builtin.firstCells]
  | some ad =>
    refine run_firstCells_some _ _ _ _ _ _ _ hcl fun j v hj => ?_
    have hpre : (xs.take n).flatten <+: xs.flatten := ⟨(xs.drop n).flatten, by rw [← List.flatten_append, List.take_append_drop]⟩
    obtain ⟨r, hr⟩ := hpre
    refine h4 w (hm.fs G hG) ad rfl j v ?_
    rw [← hr, List.getElem?_append_left (List.getElem?_eq_some_iff.1 hj).1]
    exact hj⟩
theorem SrcV.part (q : Nat) {a : Option Addr} {m T : Nat} {l ls : List α} {cs : List Value} {v : Value} {i : Nat} (hs : sl[q]? = some (.s (.slice a l.length m) T Q.sz l.length cs)) (ho : OL Q G cs l) (hp : PartV a Q.sz v i ls.length) (hl : ls = (l.drop i).take ls.length) : SrcV P Fs bl sl Q G v ls := fun w hm => by
  obtain ⟨a', c', rfl, hc, ha⟩ := hp
  refine ⟨rfl, fun n hn hb => ?_⟩
  by_cases h0 : n = 0
  · subst h0
    refine ⟨[], ?_, by simpa using OL.nil⟩
    cases a' with
    | none => simp [Builtin.firstCells]
    | some ad => exact run_firstCells_some (P := P) (w := w) (size := Q.sz) (n := 0) (b := ad) (len := ls.length) (cap := c') (cs := []) (by simp) (by simp)
  have hlen : ls.length ≤ l.length - i := by
    have := congrArg List.length hl
    rw [List.length_take, List.length_drop] at this
    omega
  have hown : w.ownsRow 0 T Q.sz (.slice a l.length m) l.length cs := hm.slh _ (List.mem_of_getElem? hs)
  obtain ⟨g, rfl, hcell⟩ := own_cells hown (by omega)
  have := ha (by omega) g 0 rfl
  rw [Nat.zero_add] at this
  subst this
  have h1 := (ho.drop i).take n
  have e : (l.drop i).take n = ls.take n := by rw [hl, List.take_take, Nat.min_eq_left hn]
  rw [e] at h1
  refine ⟨_, ?_, h1⟩
  have hcl := h1.clen
  have hln : (ls.take n).length = n := by simp; omega
  rw [hln] at hcl
  refine run_firstCells_some _ _ _ _ _ _ _ hcl fun j u hj => ?_
  have hjl : j < n * Q.sz := by rw [← hcl]; exact (List.getElem?_eq_some_iff.1 hj).1
  rw [List.getElem?_take_of_lt hjl, List.getElem?_drop] at hj
  rw [addr_add]
  refine hcell _ _ ?_ hj
  have h2 : (i + n) * Q.sz ≤ l.length * Q.sz := Nat.mul_le_mul_right _ (by omega)
  rw [Nat.add_mul] at h2
  omega
theorem SrcV.osub (q : Nat) {a : Option Addr} {m T : Nat} {l ls : List α} {cs : List Value} {v : Value} {lo hi : Int} (hs : sl[q]? = some (.s (.slice a l.length m) T Q.sz l.length cs)) (ho : OL Q G cs l) (hp : PartV a Q.sz v lo.toNat (hi - lo).toNat) (hu : lsub l lo hi = some ls) : SrcV P Fs bl sl Q G v ls := by
  obtain ⟨h1, h2, h3, rfl⟩ := lsub_some hu
  have e : ((l.drop lo.toNat).take (hi - lo).toNat).length = (hi - lo).toNat := by simp only [List.length_take, List.length_drop]; omega
  exact SrcV.part q hs ho (by rw [e]; exact hp) (by rw [e])
theorem SrcV.own (q : Nat) {a : Option Addr} {m T : Nat} {l : List α} {cs : List Value} (hs : sl[q]? = some (.s (.slice a l.length m) T Q.sz l.length cs)) (ho : OL Q G cs l) (hc : l.length ≤ m) : SrcV P Fs bl sl Q G (.slice a l.length m) l :=
  SrcV.part q hs ho (PartV.whole hc) (by simp)
theorem SrcV.str {s : ByteArray} (hs : s.size ≤ 9223372036854775807) : SrcV P Fs bl sl (Rep.int .u8) G (.string s) (toB s) := fun w _ => by
  have hlen : (toB s).length = s.size := by unfold toB; simp
  refine ⟨by rw [hlen]; rfl, fun n hn hb => ?_⟩
  have e : (Builtin.firstCells (Rep.int .u8).sz n (.string s)).run P w = .ok (((toB s).take n).map fun x => Value.int .u8 x).toArray w := by
    simp only [Builtin.firstCells]
    show Result.ok _ w = _
    congr 1
    apply Array.ext'
    unfold toB
    simp [ByteArray.data_extract, List.map_take]
    rfl
  refine ⟨_, e, ?_⟩
  exact (OL.one_iff rfl).2 ⟨by rw [List.length_take]; omega, by simp, fun j v x hv hx => by
    rw [List.getElem?_map, hx] at hv
    simp only [Option.map_some, Option.some.injEq] at hv
    subst hv
    rfl⟩
end
section
variable {P : Program} {c : Cx} {R : Value → World → Prop} {nt : Nat} {w0 : World} {S0 : List Nat} {df : List Deferred} {ρ ρ' : Env} {Fs Fs' Fin B : List Hp} {bl bl' : Blks} {sl sl' : List OwnS}
  {K K' : Act → World → Prop} {k : List Item} {ty : TypeId} {G : Hp} {α : Type}
theorem QOp.sliceP {a : Option Addr} {sz : Nat} {lo hi i j : Int} {u : Int × Int} {v : Value} {t el : TypeId} {x : Operand} {l h : Option Operand} (hx : ev ρ x = some v) (hp : PartV a sz v lo.toNat (hi - lo).toNat) (hu : psub lo hi i j = some u)
    (ht : slOf P t = some el) (hz : szOf P el = some sz) (hlo : 0 ≤ i → Bnd ρ 0 l i.toNat) (hhi : 0 ≤ j → Bnd ρ (hi - lo).toNat h j.toNat) : QOp P ρ Fs bl sl (.slice t x l h none) ty (subV v i.toNat j.toNat sz) := by
  obtain ⟨h1, h2, h3, h4, _⟩ := psub_some hu
  obtain ⟨a', c', rfl, hc, _⟩ := hp
  exact .slice_sl hx rfl ht hz (hlo h2) (hhi (by omega)) (by omega) (by omega)
theorem PartV.psub {a : Option Addr} {sz : Nat} {lo hi i j : Int} {u : Int × Int} {v : Value} (hp : PartV a sz v lo.toNat (hi - lo).toNat) (hu : psub lo hi i j = some u) : PartV a sz (subV v i.toNat j.toNat sz) u.1.toNat (u.2 - u.1).toNat := by
  obtain ⟨h1, h2, h3, h4, rfl⟩ := psub_some hu
  have := hp.sub (i' := i.toNat) (j' := j.toNat) (by omega) (by omega)
  have e1 : lo.toNat + i.toNat = (lo + i).toNat := by omega
  have e2 : j.toNat - i.toNat = (lo + j - (lo + i)).toNat := by omega
  rw [e1, e2] at this
  exact this
theorem PartV.all {a : Option Addr} {sz n m : Nat} (h : n ≤ m) : PartV a sz (.slice a n m) (0 : Int).toNat ((n : Int) - 0).toNat := by
  have := PartV.whole (a := a) (sz := sz) h
  simpa using this
theorem QOp.idxP (q : Nat) {a : Option Addr} {m T sz : Nat} {l : List α} {cs : List Value} {lo hi i u : Int} {y : α} {kk : IntKind} {t el : TypeId} {x j : Operand} {v : Value} (hs : sl[q]? = some (.s (.slice a l.length m) T sz l.length cs)) (hx : ev ρ x = some v) (hp : PartV a sz v lo.toNat (hi - lo).toNat)
    (hj : ev ρ j = some (.int kk i)) (hu : pidx lo hi i = some u) (he : lidx l u = some y) (ht : slOf P t = some el) (hz : szOf P el = some sz) : QOp P ρ Fs bl sl (.indexAddr t x j) ty (elemPtr (.slice a l.length m) u.toNat sz) := .of fun e he' w hm => by
  obtain ⟨h1, h2, h3, rfl⟩ := pidx_some hu
  obtain ⟨h5, h6, _⟩ := lidx_some he
  obtain ⟨g, rfl, _⟩ := own_cells (hm.slh _ (List.mem_of_getElem? hs)) (by omega)
  obtain ⟨a', c', rfl, hc, ha⟩ := hp
  have := ha (by omega) g 0 rfl
  rw [Nat.zero_add] at this
  subst this
  refine run_v (s := Instr.indexAt t (e x) (e j)) ?_
  rw [he' x _ hx, he' j _ hj]
  have := run_indexAt (P := P) (w := w) (t := t) (el := el) (a := ⟨g, lo.toNat * sz, none⟩) (len := (hi - lo).toNat) (cap := c') (k := kk) ht hz h2 (by omega)
  rw [this]
  simp only [elemPtr, addr_add]
  congr 4
  rw [show (lo + i).toNat = lo.toNat + i.toNat from by omega, Nat.add_mul, Nat.zero_add]
theorem Cov.copyG (q : Nat) {Q : Rep α} {d : Nat} {t t2 e : TypeId} {x y : Operand} {v s : Value} {a : Option Addr} {m T : Nat} {l ld ls : List α} {lo hi : Int} {cs : List Value} (hs : Stp P K' ⟨some d, .call ⟨.builtin .copy, #[x, y], #[t, t2]⟩, ty, none⟩ K) (ht : slOf P t = some e) (hz : szOf P e = some Q.sz)
    (hi0 : sl[q]? = some (.s (.slice a l.length m) T Q.sz l.length cs)) (ho : OL Q G cs l) (hd1 : lsub l lo hi = some ld) (hx : ev ρ x = some v) (hp : PartV a Q.sz v lo.toNat (hi - lo).toNat) (hy : ev ρ y = some s) (hsrc : SrcV P Fs bl sl Q G s ls) (hd : Nat.blt d nt = true)
    (hk : ∀ cs', (lcpy l lo ld.length ls).length = l.length → OL Q G cs' (lcpy l lo ld.length ls) → Cov nt w0 S0 df ((d, .int .i64 ((min ls.length ld.length : Nat) : Int)) :: ρ) Fs bl (sl.set q (.s (.slice a (lcpy l lo ld.length ls).length m) T Q.sz (lcpy l lo ld.length ls).length cs')) K) : Cov nt w0 S0 df ρ Fs bl sl K' := fun a' w hf hinv => by
  refine hs a' w ?_
  obtain ⟨a1, a2, a3, rfl⟩ := lsub_some hd1
  have hld : ((l.drop lo.toNat).take (hi - lo).toNat).length = (hi - lo).toNat := by simp only [List.length_take, List.length_drop]; omega
  rw [hld] at hk
  have hown : w.ownsRow 0 T Q.sz (.slice a l.length m) l.length cs := hinv.mem.slh _ (List.mem_of_getElem? hi0)
  obtain ⟨hlen, hcells⟩ := hsrc w hinv.mem
  obtain ⟨pa, pc, rfl, hpc, hpa⟩ := hp
  have hrunv : ∀ {z : Value} {w' : World}, (Builtin.copy_ #[t, t2] ty #[.slice pa (hi - lo).toNat pc, s]).run P w = .ok z w' →
      (execOp a'.eval (⟨some d, .call ⟨.builtin .copy, #[x, y], #[t, t2]⟩, ty, none⟩ : OpX).oper).run P w = .ok (.value z) w' := fun {z w'} h => by
    refine run_builtin (run_v (s := Builtin.copy_ #[t, t2] ty (#[x, y].map a'.eval)) ?_)
    rw [show #[x, y].map a'.eval = #[a'.eval x, a'.eval y] from by simp, ev_sound hf hx, ev_sound hf hy]
    exact h
  unfold Oper.wp
  by_cases h0 : Nat.min ls.length (hi - lo).toNat = 0
  · obtain ⟨c0, hc0, ho0⟩ := hcells 0 (by omega) (by omega)
    have hc00 : c0 = [] := by
      have := ho0.clen
      simp at this
      exact this
    subst hc00
    rw [hrunv (run_copy_zero w t t2 ty e Q.sz (hi - lo).toNat pc ls.length pa s (slOf_spec ht) hz hlen hc0 h0)]
    have h0' : min ls.length (hi - lo).toNat = 0 := h0
    have e1 := lcpy_nothing (l := l) (i := lo) h0'
    have hk' := hk cs (by rw [e1]) (by rw [e1]; exact ho)
    rw [e1, h0'] at hk'
    have e3 : sl.set q (.s (.slice a l.length m) T Q.sz l.length cs) = sl := by
      apply List.ext_getElem?
      intro z
      rw [List.getElem?_set]
      split
      · rename_i hh; subst hh
        split
        · exact hi0.symm
        · rename_i hlt; rw [List.getElem?_eq_none (by omega)]
      · rfl
    rw [e3] at hk'
    exact hk' _ _ (hf.put hd _) hinv
  · have hmin : min ls.length (hi - lo).toNat ≠ 0 := h0
    generalize hnn : min ls.length (hi - lo).toNat = n at hmin hk
    have hnn' : Nat.min ls.length (hi - lo).toNat = n := hnn
    have hb := ho.1
    obtain ⟨c0, hc0, ho0⟩ := hcells n (by omega) (by omega)
    rcases hown.2 with ⟨_, hl0⟩ | ⟨g, cap', cur, hv, hbase, hg, hnc, hm2, hcs, htake⟩
    · omega
    · cases hv
      have := hpa (by omega) g 0 rfl
      rw [Nat.zero_add] at this
      subst this
      have hc0l := ho0.clen
      rw [List.length_take, Nat.min_eq_left (by omega)] at hc0l
      have hnl : (lo.toNat + n) * Q.sz ≤ l.length * Q.sz := Nat.mul_le_mul_right _ (by omega)
      have hlm : l.length * Q.sz ≤ m * Q.sz := Nat.mul_le_mul_right _ hnc
      have hnl' := hnl
      rw [Nat.add_mul] at hnl
      have hrun := run_copy_gen (P := P) w t t2 ty e Q.sz g (lo.toNat * Q.sz) (hi - lo).toNat pc ls.length s cur T c0 (slOf_spec ht) hz hg hlen (by rw [hnn']; exact hc0) (by rw [hc0l, hcs]; omega) ho0.ones
      rw [hrunv hrun]
      have hll : (lcpy l lo (hi - lo).toNat ls).length = l.length := lcpy_length (by omega)
      have hsrc2 : ls.take (hi - lo).toNat = ls.take n := by
        rcases Nat.le_total ls.length (hi - lo).toNat with hle | hle
        · rw [List.take_of_length_le hle, List.take_of_length_le (by omega)]
        · rw [show n = (hi - lo).toNat from by omega]
      have hlc : lcpy l lo (hi - lo).toNat ls = l.take lo.toNat ++ ls.take n ++ l.drop (lo.toNat + n) := by
        unfold lcpy; rw [hnn, hsrc2]
      have hol : OL Q G (cs.take (lo.toNat * Q.sz) ++ c0 ++ cs.drop ((lo.toNat + n) * Q.sz)) (lcpy l lo (hi - lo).toNat ls) := by
        rw [hlc]
        exact ((ho.take lo.toNat).append ho0 (by simp only [List.length_take]; omega)).append (ho.drop (lo.toNat + n)) (by simp only [List.length_append, List.length_take, List.length_drop]; omega)
      have hk' := hk _ hll hol
      rw [hll] at hk'
      have hcl := ho.clen
      have hcur : cur.toList = cs ++ cur.toList.drop (l.length * Q.sz) := by rw [← htake, List.take_append_drop]
      refine hk' _ _ ?_ (hinv.set_s q hi0 (s' := .s (.slice (some ⟨g, 0, none⟩) l.length m) T Q.sz l.length _) ?_ ?_ (by simp [OwnS.blocks, Value.ownBlock]) (fun b hb => .inl (by simpa [OwnS.blocks, Value.ownBlock] using hb)))
      · have := hf.put hd (goInt (Nat.min ls.length (hi - lo).toNat))
        rw [hnn'] at this ⊢
        exact this
      · refine ⟨rfl, rfl, rfl, by simp [World.setRow], fun x _ hD => setRow_other w g x _ (by simpa [OwnS.blocks, Value.ownBlock] using hD)⟩
      · have hclen := hol.clen
        rw [hll] at hclen
        refine ⟨hclen, .inr ⟨g, m, _, rfl, Nat.zero_le _, setRow_heap w g _ _ T (0, 0) hg, hnc, hm2, ?_, ?_⟩⟩
        · simp only [List.size_toArray, List.length_append, List.length_take, List.length_drop, Array.length_toList, hc0l]
          omega
        · simp only []
          rw [hcur]
          have e1 : List.take (lo.toNat * Q.sz) (cs ++ List.drop (l.length * Q.sz) cur.toList) = List.take (lo.toNat * Q.sz) cs := List.take_append_of_le_length (by omega)
          have e2 : List.drop (lo.toNat * Q.sz + c0.length) (cs ++ List.drop (l.length * Q.sz) cur.toList) = List.drop ((lo.toNat + n) * Q.sz) cs ++ List.drop (l.length * Q.sz) cur.toList := by
            rw [List.drop_append_of_le_length (by omega), hc0l, Nat.add_mul]
          rw [e1, e2, ← List.append_assoc]
          exact List.take_left' (by rw [hclen])
end
end Go.Proofs.YtfcicopgdahmcaaGreatDoor
end

section
namespace Go.Proofs.YtfcicopgdahmcaaGreatDoor
open Go.RowKit
set_option linter.unusedVariables false
variable {P : Program} {c : Cx} {R : Value → World → Prop} {nt : Nat} {w0 : World} {S0 : List Nat} {df : List Deferred} {ρ ρ' : Env} {Fs Fs' Fin B : List Hp} {bl bl' : Blks} {sl sl' : List OwnS}
  {K K' : Act → World → Prop} {k : List Item} {ty : TypeId} {G : Hp} {α : Type}
theorem QOp.mkIface {t : TypeId} {x : Operand} {v : Value} (hx : ev ρ x = some v) (ht : P.concrete t = true) : QOp P ρ Fs bl sl (.makeInterface t x) ty (.iface t v) := .of fun e he w _ => by
  refine run_v (s := Instr.makeInterface t (e x)) ?_
  rw [he x _ hx]
  exact run_makeInterface (w := w) t v ht
end Go.Proofs.YtfcicopgdahmcaaGreatDoor
end

section
namespace Go.Proofs.YtfcicopgdahmcaaGreatDoor
open Go.RowKit
set_option linter.unusedVariables false
theorem zeroCells_one (z : Value) (n : Nat) : Builtin.zeroCells #[z] n = (List.replicate n z).toArray := by
  apply Array.ext'
  unfold Builtin.zeroCells
  apply List.ext_getElem
  · simp
  · intro i h1 h2
    simp [Nat.mod_one]
section
variable {P : Program} {ty : TypeId}
end
section
variable {P : Program} {c : Cx} {R : Value → World → Prop} {nt : Nat} {w0 : World} {S0 : List Nat} {df : List Deferred} {ρ ρ' : Env} {Fs Fs' Fin B : List Hp} {bl bl' : Blks} {sl sl' : List OwnS}
  {K K' : Act → World → Prop} {k : List Item} {ty : TypeId} {G : Hp}
end
end Go.Proofs.YtfcicopgdahmcaaGreatDoor
end

section
namespace Go.Proofs.YtfcicopgdahmcaaGreatDoor
open Go.RowKit
set_option linter.unusedVariables false
section
variable {P : Program} {c : Cx} {R : Value → World → Prop} {nt : Nat} {w0 : World} {S0 : List Nat} {df : List Deferred} {ρ ρ' : Env} {Fs Fs' Fin B : List Hp} {bl bl' : Blks} {sl sl' : List OwnS}
  {K K' : Act → World → Prop} {k : List Item} {ty : TypeId} {G : Hp} {α : Type}
section
variable {α β : Type} {FsD : α → List Hp} {blD : α → Blks} {slD : α → List OwnS} {FsE : β → List Hp} {blE : β → Blks} {slE : β → List OwnS} {FsS FinR : List Hp} {I1 : α → Prop} {IE : β → Prop} {l : Nat} {le : β → Obj} {f : FuncId} {tmps : Array Value} {ps : Array Tmp} {as1 body : Code} {D : Nat}
theorem Cov.round_exit {lo : Obj} {id : Nat} (y : β) (j : Nat) (hro : c.ro = some l) (hb : bl[j]? = some (l, loopObj .busy f tmps ps as1 body D)) (hI : IE y) (hle : le y = doneObj f tmps ps as1 body D (.exit id))
    (hbl : bl.set j (l, doneObj f tmps ps as1 body D (.exit id)) = blE y ++ [(l, doneObj f tmps ps as1 body D (.exit id))]) (hsl : sl = slE y) (hFs : ∀ G ∈ FsE y ++ FsS, G ∈ Fs) (hbd : ∀ G ∈ FsE y, Bd w0 S0 FinR G) (hx : exitTo id k = none) :
    Cov nt w0 S0 [] ρ Fs bl sl (Run P c (RoundX FsD blD slD FsE blE slE FsS FinR I1 IE l lo le w0 S0) (.code (.exit id) :: k)) := fun a w hf hi => by
  subst hsl
  have hl := hi.mem.own _ (List.mem_of_getElem? hb)
  have hr := run_endRound (P := P) (w := w) (l := l) (some (.exit id)) hl
  have hi2 := hi.set j hb (Keep.putObj w l (doneObj f tmps ps as1 body D (.exit id))) (World.putObj_heap_same (own_lt hl))
  rw [hbl] at hi2
  have hi3 := hi2.change (Fs' := FsE y ++ FsS) (bl' := blE y ++ [(l, le y)]) (sl' := slE y) [] (by simp) (Keep.refl _ []) (fun G hG => .inl (hFs G hG)) (by rw [hle]; exact hi2.mem.own) hi2.mem.slh (by rw [hle]; exact hi2.nodup) (fun _ hb => .inl (by rw [hle] at hb; exact hb))
  intro cs hcs
  refine ⟨.bool false, _, .inr ⟨rfl, y, hI, hbd, hi3⟩, ?_⟩
  unfold Done
  simp only [hro]
  cases cs with
  | nil => exact absurd rfl (hcs (by simp [hro]))
  | cons cl cs =>
    refine ⟨cl, cs, rfl, .one ?_⟩
    exact stepR_round_exit (P := P) (b := c.fr a []) (a := a) (c := cl) (cs := cs) (w := w) (k := k) hro rfl hx hr
end
theorem Cov.revalV (t : Nat) {v v' : Value} (e : v' = v) (ht : ρ.lookup t = some v) (h : Cov nt w0 S0 df ((t, v') :: ρ) Fs bl sl K) : Cov nt w0 S0 df ρ Fs bl sl K := by
  subst e
  refine fun a w hf hi => h a w ⟨hf.1, hf.2.1, fun u v hu => ?_⟩ hi
  simp only [List.lookup] at hu
  by_cases e : u = t
  · subst e; simp only [beq_self_eq_true] at hu; cases hu; exact hf.2.2 _ _ ht
  · have e' : (u == t) = false := by simpa using e
    simp only [e'] at hu
    exact hf.2.2 _ _ hu
theorem QOp.len_p {a : Option Addr} {sz i n : Nat} {v : Value} {t el : TypeId} {x : Operand} (hx : ev ρ x = some v) (hp : PartV a sz v i n) (ht : slOf P t = some el) : QOp P ρ Fs bl sl (.call ⟨.builtin .len, #[x], #[t]⟩) ty (.int .i64 n) := by
  obtain ⟨a', c', rfl, _, _⟩ := hp
  exact .len_sl hx rfl ht
theorem PartV.sub3 {a : Option Addr} {sz : Nat} {v : Value} {i len : Nat} (h : PartV a sz v i len) {i' j' m' : Nat} (h1 : i' ≤ j') (h2 : j' ≤ len) (h3 : j' ≤ m') : PartV a sz (subV3 v i' j' m' sz) (i + i') (j' - i') := by
  obtain ⟨a', c', rfl, hc, ha⟩ := h
  refine ⟨_, _, rfl, by omega, fun hne g o e => ?_⟩
  have := ha (by omega) g o e
  subst this
  rw [if_neg (by omega)]
  simp [addr_add, Nat.add_mul, Nat.add_assoc]
theorem psub3_some {lo hi i j m : Int} {u : Int × Int} (h : psub3 lo hi i j m = some u) : m ≤ hi - lo ∧ j ≤ m ∧ psub lo hi i j = some u := by
  unfold psub3 at h
  split at h
  · rename_i hh; exact ⟨hh.1, hh.2, h⟩
  · cases h
theorem PartV.psub3 {a : Option Addr} {sz : Nat} {lo hi i j m : Int} {u : Int × Int} {v : Value} (hp : PartV a sz v lo.toNat (hi - lo).toNat) (hu : psub3 lo hi i j m = some u) : PartV a sz (subV3 v i.toNat j.toNat m.toNat sz) u.1.toNat (u.2 - u.1).toNat := by
  obtain ⟨hm, hjm, hu⟩ := psub3_some hu
  obtain ⟨h1, h2, h3, h4, rfl⟩ := psub_some hu
  have := hp.sub3 (i' := i.toNat) (j' := j.toNat) (m' := m.toNat) (by omega) (by omega) (by omega)
  have e1 : lo.toNat + i.toNat = (lo + i).toNat := by omega
  have e2 : j.toNat - i.toNat = (lo + j - (lo + i)).toNat := by omega
  rw [e1, e2] at this
  exact this
theorem QOp.sliceP3 {a : Option Addr} {sz : Nat} {lo hi j m : Int} {u : Int × Int} {v : Value} {t el : TypeId} {x h xm : Operand} {k2 k3 : IntKind} (hx : ev ρ x = some v) (hp : PartV a sz v lo.toNat (hi - lo).toNat) (hu : psub3 lo hi 0 j m = some u)
    (ht : slOf P t = some el) (hz : szOf P el = some sz) (hhi : ev ρ h = some (.int k2 j)) (hmx : ev ρ xm = some (.int k3 m)) : QOp P ρ Fs bl sl (.slice t x none (some h) (some xm)) ty (subV3 v (0 : Int).toNat j.toNat m.toNat sz) := by
  obtain ⟨hm, hjm, hu⟩ := psub3_some hu
  obtain ⟨h1, h2, h3, h4, _⟩ := psub_some hu
  obtain ⟨a', c', rfl, hc, _⟩ := hp
  exact .slice3n hx hhi hmx ht hz h3 hjm (by omega)
theorem PartV.comp {a a' : Option Addr} {sz c' : Nat} {lo hi i j : Int} {u : Int × Int} {v w : Value} (hp : PartV a sz v lo.toNat (hi - lo).toNat) (hv : v = .slice a' (hi - lo).toNat c') (hw : PartV a' sz w i.toNat (j - i).toNat) (hu : Proofs.YtfcicopgdahmcaaGreatDoor.psub lo hi i j = some u) : PartV a sz w u.1.toNat (u.2 - u.1).toNat := by
  obtain ⟨h1, h2, h3, h4, rfl⟩ := psub_some hu
  obtain ⟨a1, c1, rfl, hc, ha⟩ := hp
  obtain ⟨a2, c2, rfl, hc2, ha2⟩ := hw
  simp only [Value.slice.injEq] at hv
  obtain ⟨rfl, _, rfl⟩ := hv
  have e1 : (lo + j - (lo + i)).toNat = (j - i).toNat := by omega
  refine ⟨a2, c2, by rw [e1], by rw [e1]; exact hc2, fun hne g o e => ?_⟩
  have h5 := ha (by omega) g o e
  have h6 := ha2 (by omega) g _ h5
  rw [h6]
  have e2 : (lo + i).toNat = lo.toNat + i.toNat := by omega
  rw [e2, Nat.add_mul, Nat.add_assoc]
theorem SlR.part {Q : Rep α} {a : Option Addr} {m : Nat} {l ld : List α} {lo hi : Int} {v : Value} (h : SlR Q G a m l) (hp : PartV a Q.sz v lo.toNat (hi - lo).toNat) (hu : lsub l lo hi = some ld) : ∃ a' c', v = .slice a' ld.length c' ∧ SlR Q G a' c' ld := by
  obtain ⟨h1, h2, h3, rfl⟩ := lsub_some hu
  obtain ⟨a', c', rfl, hc, ha⟩ := hp
  have hl : ((l.drop lo.toNat).take (hi - lo).toNat).length = (hi - lo).toNat := by simp only [List.length_take, List.length_drop]; omega
  refine ⟨a', c', by rw [hl], ?_⟩
  obtain ⟨hb, xs, ⟨a0, cap, hv, hcap, hsz, hcc⟩, hx1, hx2⟩ := h
  simp only [Value.slice.injEq] at hv
  obtain ⟨rfl, hlen, rfl⟩ := hv
  have hxl : ((xs.drop lo.toNat).take (hi - lo).toNat).length = (hi - lo).toNat := by simp only [List.length_take, List.length_drop]; omega
  refine ⟨by rw [hl]; omega, (xs.drop lo.toNat).take (hi - lo).toNat, ⟨a', c', by rw [hl, hxl], by rw [hxl]; exact hc, fun x hx => hsz x (List.mem_of_mem_drop (List.mem_of_mem_take hx)), fun hne => ?_⟩, by rw [hl, hxl], fun q c x hq hx => ?_⟩
  · have hne0 : (hi - lo).toNat ≠ 0 := fun h0 => hne (List.eq_nil_of_length_eq_zero (by rw [hxl]; exact h0))
    obtain ⟨b, o, rfl, hcell⟩ := hcc (by rintro rfl; simp at hxl; omega)
    refine ⟨b, o + lo.toNat * Q.sz, ha hne0 b o rfl, fun q x hq j c hj => ?_⟩
    have hql : q < (hi - lo).toNat := by rw [← hxl]; exact (List.getElem?_eq_some_iff.1 hq).1
    rw [List.getElem?_take_of_lt hql, List.getElem?_drop] at hq
    have := hcell _ x hq j c hj
    rw [Nat.add_mul] at this
    rw [show o + lo.toNat * Q.sz + q * Q.sz + j = o + (lo.toNat * Q.sz + q * Q.sz) + j from by omega]
    exact this
  · have hql : q < (hi - lo).toNat := by rw [← hxl]; exact (List.getElem?_eq_some_iff.1 hq).1
    rw [List.getElem?_take_of_lt hql, List.getElem?_drop] at hq hx
    exact hx2 _ c x hq hx
theorem QOp.idxPV (q : Nat) {Q : Rep α} {a : Option Addr} {b : Option Nat} {m T sz : Nat} {l : List α} {pre cs post : List Value} {lo hi i u : Int} {y : α} {kk : IntKind} {t el : TypeId} {x j : Operand} {v : Value} (hs : sl[q]? = some (.g (viewG b T pre cs post))) (va : VA a b l.length m pre cs) (ho : OL Q G cs l) (hx : ev ρ x = some v) (hp : PartV a sz v lo.toNat (hi - lo).toNat)
    (hj : ev ρ j = some (.int kk i)) (hu : pidx lo hi i = some u) (he : lidx l u = some y) (ht : slOf P t = some el) (hz : szOf P el = some sz) (hn : sz = Q.sz) (h0 : Nat.blt 0 sz = true) : QOp P ρ Fs bl sl (.indexAddr t x j) ty (elemPtr (.slice a l.length m) u.toNat sz) := .of fun e he' w hm => by
  obtain ⟨h1, h2, h3, rfl⟩ := pidx_some hu
  obtain ⟨h5, h6, _⟩ := lidx_some he
  have h0' : 0 < sz := by simpa [Nat.blt_eq] using h0
  have hpos : 0 < cs.length := by rw [ho.clen, ← hn]; exact Nat.mul_pos (by omega) h0'
  obtain ⟨g, rfl, _⟩ := view_cells (hm.slh _ (List.mem_of_getElem? hs)) va hpos
  obtain ⟨a', c', rfl, hc, ha⟩ := hp
  have := ha (by omega) g _ rfl
  subst this
  refine run_v (s := Instr.indexAt t (e x) (e j)) ?_
  rw [he' x _ hx, he' j _ hj]
  have := run_indexAt (P := P) (w := w) (t := t) (el := el) (a := ⟨g, pre.length + lo.toNat * sz, none⟩) (len := (hi - lo).toNat) (cap := c') (k := kk) ht hz h2 (by omega)
  rw [this]
  simp only [elemPtr, addr_add]
  congr 4
  rw [show (lo + i).toNat = lo.toNat + i.toNat from by omega, Nat.add_mul, Nat.add_assoc]
theorem Cov.lendP (q t : Nat) {Q : Rep α} {a : Option Addr} {b : Option Nat} {m T sz : Nat} {l ld : List α} {pre cs post : List Value} {lo hi : Int} {v : Value} (hs : sl[q]? = some (.g (viewG b T pre cs post))) (va : VA a b l.length m pre cs) (ho : OL Q G cs l) (hp : PartV a sz v lo.toNat (hi - lo).toNat) (hn : sz = Q.sz) (hu : lsub l lo hi = some ld) (ht : ρ.lookup t = some v)
    (hk : ∀ a' c', v = .slice a' (hi - lo).toNat c' → OL Q G ((cs.drop (lo.toNat * sz)).take ((hi - lo).toNat * sz)) ld → VA a' b ld.length c' (pre ++ cs.take (lo.toNat * sz)) ((cs.drop (lo.toNat * sz)).take ((hi - lo).toNat * sz)) →
      Cov nt w0 S0 df ((t, .slice a' ld.length c') :: ρ) Fs bl (sl.set q (.g (viewG b T (pre ++ cs.take (lo.toNat * sz)) ((cs.drop (lo.toNat * sz)).take ((hi - lo).toNat * sz)) ((cs.drop (lo.toNat * sz)).drop ((hi - lo).toNat * sz) ++ post)))) K) : Cov nt w0 S0 df ρ Fs bl sl K := by
  subst hn
  obtain ⟨h1, h2, h3, rfl⟩ := lsub_some hu
  have hld : ((l.drop lo.toNat).take (hi - lo).toNat).length = (hi - lo).toNat := by simp only [List.length_take, List.length_drop]; omega
  have hpart := hp
  obtain ⟨a', c', rfl, hc, ha⟩ := hp
  have hcl := ho.clen
  have hle : lo.toNat * Q.sz ≤ cs.length := by rw [hcl]; exact Nat.mul_le_mul_right _ (by omega)
  refine Cov.reV q (pre ++ cs.take (lo.toNat * Q.sz)) ((cs.drop (lo.toNat * Q.sz)).take ((hi - lo).toNat * Q.sz)) ((cs.drop (lo.toNat * Q.sz)).drop ((hi - lo).toNat * Q.sz) ++ post) hs ?_ ?_
  · simp only [List.append_assoc]
    rw [← List.append_assoc (List.take ((hi - lo).toNat * Q.sz) _), List.take_append_drop, ← List.append_assoc (List.take (lo.toNat * Q.sz) cs), List.take_append_drop]
  · refine Cov.revalV t (v' := .slice a' ((l.drop lo.toNat).take (hi - lo).toNat).length c') (by rw [hld]) ht (hk a' c' rfl ((ho.drop lo.toNat).take (hi - lo).toNat) ⟨by rw [hld]; exact hc, fun hne => ?_⟩)
    have hne0 : (hi - lo).toNat ≠ 0 := fun h0 => hne (by rw [h0]; simp)
    obtain ⟨g, hb, hag⟩ := va.2 (by rintro rfl; simp at hne)
    refine ⟨g, hb, ?_⟩
    rw [ha hne0 g _ hag, List.length_append, List.length_take, Nat.min_eq_left hle]
theorem Cov.backP (q : Nat) {Q : Rep α} {a : Option Addr} {b : Option Nat} {m T sz : Nat} {l ld ld' : List α} {pre cs cs' post : List Value} {lo hi : Int} (hs : sl[q]? = some (.g (viewG b T (pre ++ cs.take (lo.toNat * sz)) cs' ((cs.drop (lo.toNat * sz)).drop ((hi - lo).toNat * sz) ++ post)))) (va : VA a b l.length m pre cs) (ho : OL Q G cs l) (hn : sz = Q.sz) (hu : lsub l lo hi = some ld) (ho' : OL Q G cs' ld') (hl : ld'.length = ld.length)
    (hk : ∀ cs2, (lcpy l lo ld.length ld').length = l.length → OL Q G cs2 (lcpy l lo ld.length ld') → VA a b (lcpy l lo ld.length ld').length m pre cs2 → Cov nt w0 S0 df ρ Fs bl (sl.set q (.g (viewG b T pre cs2 post))) K) : Cov nt w0 S0 df ρ Fs bl sl K := by
  subst hn
  obtain ⟨h1, h2, h3, rfl⟩ := lsub_some hu
  have hld : ((l.drop lo.toNat).take (hi - lo).toNat).length = (hi - lo).toNat := by simp only [List.length_take, List.length_drop]; omega
  rw [hld] at hl hk
  have hlen : (lcpy l lo (hi - lo).toNat ld').length = l.length := lcpy_length (by omega)
  have hcp : lcpy l lo (hi - lo).toNat ld' = l.take lo.toNat ++ ld' ++ l.drop (lo.toNat + (hi - lo).toNat) := by
    unfold lcpy; rw [List.take_of_length_le (l := ld') (by omega), hl, Nat.min_self]
  have hol : OL Q G (cs.take (lo.toNat * Q.sz) ++ cs' ++ (cs.drop (lo.toNat * Q.sz)).drop ((hi - lo).toNat * Q.sz)) (lcpy l lo (hi - lo).toNat ld') := by
    rw [hcp, List.drop_drop, ← Nat.add_mul]
    have := ho.1
    exact ((ho.take lo.toNat).append ho' (by simp only [List.length_take]; omega)).append (ho.drop _) (by simp only [List.length_append, List.length_take, List.length_drop]; omega)
  refine Cov.reV q pre (cs.take (lo.toNat * Q.sz) ++ cs' ++ (cs.drop (lo.toNat * Q.sz)).drop ((hi - lo).toNat * Q.sz)) post hs (by simp only [List.append_assoc]) (hk _ hlen hol (va.len hlen ?_))
  rw [hol.clen, ho.clen, hlen]
theorem OL.zeros {Q : Rep α} {z : List Value} {zx : α} (h : Q.r G z zx) {n : Nat} (hn : n ≤ 16777216) : OL Q G (List.replicate n z).flatten (List.replicate n zx) :=
  ⟨by simpa using hn, List.replicate n z, rfl, fun x hx => by rw [(List.mem_replicate.1 hx).2]; exact Q.len h, by simp, fun i c x hc hx => by
    rw [(List.mem_replicate.1 (List.mem_of_getElem? hc)).2, (List.mem_replicate.1 (List.mem_of_getElem? hx)).2]; exact h⟩
theorem Cov.clearP (q : Nat) {Q : Rep α} {a : Option Addr} {b : Option Nat} {m T : Nat} {l ld : List α} {pre cs post : List Value} {lo hi : Int} {v z : Value} {zx : α} {t el : TypeId} {x : Operand} {agg : Bool} {bytes : Nat} (hs : Stp P K' ⟨none, .call ⟨.builtin .clear, #[x], #[t]⟩, ty, none⟩ K) (ht : slOf P t = some el) (hel : TyI P el agg 1 bytes [z]) (hz : Q.r G [z] zx)
    (hi0 : sl[q]? = some (.g (viewG b T pre cs post))) (va : VA a b l.length m pre cs) (ho : OL Q G cs l) (hn : Q.sz = 1) (hu : lsub l lo hi = some ld) (hx : ev ρ x = some v) (hp : PartV a 1 v lo.toNat (hi - lo).toNat)
    (hk : ∀ cs', (lcpy l lo ld.length (List.replicate ld.length zx)).length = l.length → OL Q G cs' (lcpy l lo ld.length (List.replicate ld.length zx)) → VA a b (lcpy l lo ld.length (List.replicate ld.length zx)).length m pre cs' → Cov nt w0 S0 df ρ Fs bl (sl.set q (.g (viewG b T pre cs' post))) K) : Cov nt w0 S0 df ρ Fs bl sl K' := fun aa w hfi hinv => by
  refine hs aa w ?_
  obtain ⟨a1, a2, a3, rfl⟩ := lsub_some hu
  have hld : ((l.drop lo.toNat).take (hi - lo).toNat).length = (hi - lo).toNat := by simp only [List.length_take, List.length_drop]; omega
  rw [hld] at hk
  obtain ⟨pa, pc, rfl, hpc, hpa⟩ := hp
  have hb1 := ho.1
  have hcl := ho.clen
  rw [hn, Nat.mul_one] at hcl
  have hrunv : ∀ {w' : World}, (Builtin.clear_ #[t] ty #[.slice pa (hi - lo).toNat pc]).run P w = .ok (.tuple #[]) w' →
      (execOp aa.eval (⟨none, .call ⟨.builtin .clear, #[x], #[t]⟩, ty, none⟩ : OpX).oper).run P w = .ok (.value (.tuple #[])) w' := fun {w'} h => by
    refine run_builtin (run_v (s := Builtin.clear_ #[t] ty (#[x].map aa.eval)) ?_)
    rw [show #[x].map aa.eval = #[aa.eval x] from by simp, ev_sound hfi hx]
    exact h
  have hut := slOf_spec ht
  have hll : (lcpy l lo (hi - lo).toNat (List.replicate (hi - lo).toNat zx)).length = l.length := lcpy_length (by rw [List.length_replicate]; omega)
  unfold Oper.wp
  by_cases h0 : (hi - lo).toNat = 0
  · have hr : (Builtin.clear_ #[t] ty #[.slice pa (hi - lo).toNat pc]).run P w = .ok (.tuple #[]) w := by
      rw [h0]; cases pa <;> simp [Builtin.clear_, run_underlying hut]
    rw [hrunv hr]
    have e1 : lcpy l lo (hi - lo).toNat (List.replicate (hi - lo).toNat zx) = l := lcpy_nothing (by rw [h0]; simp)
    have hk' := hk cs (by rw [e1]) (by rw [e1]; exact ho) (by rw [e1]; exact va)
    have e3 : sl.set q (.g (viewG b T pre cs post)) = sl := by
      obtain ⟨hlt, h4⟩ := List.getElem?_eq_some_iff.1 hi0
      rw [← h4]; exact List.set_getElem_self hlt
    rw [e3] at hk'
    exact hk' _ _ (hfi.put_none _) hinv
  · have hpos : 0 < cs.length := by omega
    obtain ⟨g, hag, hb, hw, _⟩ := view_cells (hinv.mem.slh _ (List.mem_of_getElem? hi0)) va hpos
    have hpa' := hpa h0 g _ hag
    subst hpa' hb
    rw [Nat.mul_one] at *
    obtain ⟨i, zv, hi', hzi, hs1, hs2, hzc⟩ := hel.info
    have hzca : zv.cells = #[z] := by simpa using hzc
    have hone : z.oneCell' = true := by have := Q.one hz; simpa using this
    have hst := run_storeCells_at P g (pre.length + lo.toNat) T (List.replicate (hi - lo).toNat z) 0 (pre ++ cs ++ post).toArray w hw (by simp only [List.size_toArray, List.length_append, List.length_replicate]; omega) (fun u hu' => by rw [(List.mem_replicate.1 hu').2]; exact hone)
    simp only [Nat.add_zero, List.length_replicate] at hst
    have hr : (Builtin.clear_ #[t] ty #[.slice (some ⟨g, pre.length + lo.toNat, none⟩) (hi - lo).toNat pc]).run P w = .ok (.tuple #[]) (w.setRow g ((pre ++ cs ++ post).toArray.toList.take (pre.length + lo.toNat) ++ List.replicate (hi - lo).toNat z ++ (pre ++ cs ++ post).toArray.toList.drop (pre.length + lo.toNat + (hi - lo).toNat)).toArray) := by
      obtain ⟨n, hn'⟩ : ∃ n, (hi - lo).toNat = n + 1 := ⟨(hi - lo).toNat - 1, by omega⟩
      have hzero : Builtin.zeroCells zv.cells (n + 1) = (List.replicate (n + 1) z).toArray := by rw [hzca]; exact zeroCells_one z (n + 1)
      rw [hn'] at hst ⊢
      unfold Builtin.clear_
      simp [run_underlying hut, zeroValue, typeInfo, hi', hzi, hzero, hst]
    rw [hrunv hr]
    have hol : OL Q G (cs.take lo.toNat ++ List.replicate (hi - lo).toNat z ++ cs.drop (lo.toNat + (hi - lo).toNat)) (lcpy l lo (hi - lo).toNat (List.replicate (hi - lo).toNat zx)) := by
      have h1 := (ho.take lo.toNat)
      have h2 := (OL.zeros (Q := Q) hz (n := (hi - lo).toNat) (by omega))
      have h3 := ho.drop (lo.toNat + (hi - lo).toNat)
      rw [hn, Nat.mul_one] at h1 h3
      have e : (List.replicate (hi - lo).toNat [z]).flatten = List.replicate (hi - lo).toNat z := by
        have : ∀ n, (List.replicate n [z]).flatten = List.replicate n z := fun n => by
          induction n with
          | zero => rfl
          | succ n ih => simp [List.replicate_succ, ih]
        exact this _
      rw [e] at h2
      have hcp : lcpy l lo (hi - lo).toNat (List.replicate (hi - lo).toNat zx) = l.take lo.toNat ++ List.replicate (hi - lo).toNat zx ++ l.drop (lo.toNat + (hi - lo).toNat) := by
        unfold lcpy; rw [List.length_replicate, Nat.min_self, List.take_of_length_le (l := List.replicate _ _) (by simp)]
      rw [hcp]
      exact (h1.append h2 (by simp only [List.length_take, List.length_replicate]; omega)).append h3 (by simp only [List.length_append, List.length_take, List.length_replicate, List.length_drop]; omega)
    have hclen : (cs.take lo.toNat ++ List.replicate (hi - lo).toNat z ++ cs.drop (lo.toNat + (hi - lo).toNat)).length = cs.length := by
      simp only [List.length_append, List.length_take, List.length_replicate, List.length_drop]; omega
    have hk' := hk _ hll hol (va.len hll hclen)
    refine hk' _ _ (hfi.put_none _) (hinv.set_s q hi0 (s' := .g (viewG (some g) T pre _ post)) ⟨rfl, rfl, rfl, by simp [World.setRow], fun y _ hD => setRow_other w g y _ (by simpa [OwnS.blocks, viewG] using hD)⟩ ?_ (by simp [OwnS.blocks, viewG]) (fun b hb => .inl (by simpa [OwnS.blocks, viewG] using hb)))
    intro g' hg'
    cases hg'
    have hsr := setRow_heap w g (pre ++ cs ++ post).toArray ((pre ++ cs ++ post).toArray.toList.take (pre.length + lo.toNat) ++ List.replicate (hi - lo).toNat z ++ (pre ++ cs ++ post).toArray.toList.drop (pre.length + lo.toNat + (hi - lo).toNat)).toArray T (0, 0) hw
    rw [hsr]
    refine congrArg (fun c => some (Obj.cells c T (0, 0))) ?_
    have e1 : (pre ++ cs ++ post).take (pre.length + lo.toNat) = pre ++ cs.take lo.toNat := by
      rw [List.append_assoc, List.take_append, Nat.add_sub_cancel_left, List.take_of_length_le (l := pre) (by omega), List.take_append_of_le_length (by omega)]
    have e2 : (pre ++ cs ++ post).drop (pre.length + lo.toNat + (hi - lo).toNat) = cs.drop (lo.toNat + (hi - lo).toNat) ++ post := by
      rw [List.append_assoc, Nat.add_assoc, List.drop_append, Nat.add_sub_cancel_left, List.drop_of_length_le (l := pre) (by omega), List.nil_append, List.drop_append_of_le_length (by omega)]
    show (List.take _ (pre ++ cs ++ post) ++ _ ++ List.drop _ (pre ++ cs ++ post)).toArray = _
    rw [e1, e2]
    simp only [List.append_assoc]
end
end Go.Proofs.YtfcicopgdahmcaaGreatDoor
end
