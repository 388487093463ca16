/- What the proof needs, gathered by wip/gen/shake.py. -/
import Derived.Calls
import Derived.Deep.Quiet
import Derived.Below
import Derived.Laws.AppendOwn
import Derived.WalkKit
import Derived.Laws.OwnMore
import Derived.Deep.Slices
import Derived.ChangeOld
import Derived.ArgAppend
import Derived.RangeFuncIn
import Derived.RangeFuncRecord
import Derived.RangeFuncLeaves
import Derived.Laws.MakeOwn
import Derived.IntWalk
import Derived.Laws.IdiomStrings
import Derived.Laws.Cover3
import Derived.Laws.CopyOwn
import Derived.MapKept
import Derived.RangeFuncNested
import Derived.Test.YtfcicopgdahmcaaGreatDoorRows
import Derived.LaidEql
import Derived.Stop.Asserts
import Derived.RowKitTokens
import Derived.Test.YtfcicopgdahmcaaGreatDoorCards
import Derived.LaidLaws
import Derived.Look8
import Derived.MakeChecks
import Derived.Test.YtfcicopgdahmcaaGreatDoorTie
import Derived.LaidMore
import Derived.Lay
import Derived.SevenTiedAt
import Derived.Stop.Joined
import Derived.ProofKit
import Derived.OpenShut
import Derived.ShutString
import Derived.Test.YtfcicopgdahmcaaGreatDoorTopSchemesQ5

section
namespace Go.Proofs.YtfcicopgdahmcaaGreatDoor
open Alg (Cg Pr)
def KR (p : Int) (k v : Nat) : List (Int × Int) → List (List Int) → List Int → Prop
  | [], [], [] => True
  | q :: K, c :: C, r :: Rt => (c.length = k + v + v ∧ El p c ∧ E1 p r ∧ (∀ j, j < k + v + v → Cg p (Alg.gd c j) (Alg.keyRow k v q j)) ∧ Cg p r (Alg.keyRow k v q (k + v + v))) ∧ KR p k v K C Rt
  | _, _, _ => False
theorem KR.len {p : Int} {k v : Nat} : ∀ {K : List (Int × Int)} {C : List (List Int)} {Rt : List Int}, KR p k v K C Rt → C.length = K.length ∧ Rt.length = K.length
  | [], [], [], _ => ⟨rfl, rfl⟩
  | q :: K, c :: C, r :: Rt, h => by
    obtain ⟨h1, h2⟩ := KR.len h.2
    simp [h1, h2]
  | [], [], _ :: _, h => h.elim
  | [], _ :: _, _, h => h.elim
  | _ :: _, [], _, h => h.elim
  | _ :: _, _ :: _, [], h => h.elim
theorem KR.rw {p : Int} {k v : Nat} : ∀ {K : List (Int × Int)} {C : List (List Int)} {Rt : List Int}, KR p k v K C Rt → Rw p (k + v + v) C ∧ El p Rt
  | [], [], [], _ => ⟨fun r h => (by cases h), El.nil⟩
  | q :: K, c :: C, r :: Rt, h => by
    obtain ⟨h1, h2⟩ := KR.rw h.2
    exact ⟨Rw.cons.2 ⟨⟨h.1.1, h.1.2.1⟩, h1⟩, El.cons.2 ⟨h.1.2.2.1, h2⟩⟩
  | [], [], _ :: _, h => h.elim
  | [], _ :: _, _, h => h.elim
  | _ :: _, [], _, h => h.elim
  | _ :: _, _ :: _, [], h => h.elim
theorem KR.get {p : Int} {k v : Nat} : ∀ {K : List (Int × Int)} {C : List (List Int)} {Rt : List Int}, KR p k v K C Rt → ∀ (i : Nat) (hi : i < K.length), (∀ j, j < k + v + v → Cg p (Alg.gd (gr C i) j) (Alg.keyRow k v K[i] j)) ∧ Cg p (Alg.gd Rt i) (Alg.keyRow k v K[i] (k + v + v))
  | [], [], [], _, i, hi => absurd hi (by simp)
  | q :: K, c :: C, r :: Rt, h, i, hi => by
    cases i with
    | zero => exact ⟨h.1.2.2.2.1, h.1.2.2.2.2⟩
    | succ i => exact KR.get h.2 i (by simpa using hi)
  | [], [], _ :: _, h, _, _ => h.elim
  | [], _ :: _, _, h, _, _ => h.elim
  | _ :: _, [], _, h, _, _ => h.elim
  | _ :: _, _ :: _, [], h, _, _ => h.elim
theorem gd_app {l m : List Int} (i : Nat) (h : i < l.length) : Alg.gd (l ++ m) i = Alg.gd l i := by
  unfold Alg.gd
  rw [List.getD_eq_getElem?_getD, List.getD_eq_getElem?_getD, List.getElem?_append_left h]
theorem gd_snoc (l : List Int) (a : Int) : Alg.gd (l ++ [a]) l.length = a := by simp [Alg.gd, List.getD_eq_getElem?_getD]
theorem gd_app2 {l m : List Int} (i : Nat) : Alg.gd (l ++ m) (l.length + i) = Alg.gd m i := by
  unfold Alg.gd
  rw [List.getD_eq_getElem?_getD, List.getD_eq_getElem?_getD, List.getElem?_append_right (by omega), Nat.add_sub_cancel_left]
theorem gd_take {l : List Int} {n : Nat} (i : Nat) (h : i < n) : Alg.gd (l.take n) i = Alg.gd l i := by
  unfold Alg.gd
  rw [List.getD_eq_getElem?_getD, List.getD_eq_getElem?_getD, List.getElem?_take_of_lt h]
theorem gd_drop {l : List Int} {n : Nat} (i : Nat) : Alg.gd (l.drop n) i = Alg.gd l (n + i) := by
  unfold Alg.gd
  rw [List.getD_eq_getElem?_getD, List.getD_eq_getElem?_getD, List.getElem?_drop]
section
variable {p : Int} (hp : 2 ≤ p ∧ p ≤ 65521) {i : Nat} (hi : (i : Int) + 1 < p)
include hp hi
theorem pows_L {y : Int} {b : Bool} {z0 z1 z2 z3 z4 z5 z6 : Int} (kx : List Int → Int → Bool → Int → Int → Int → Int → Int → Int → Int → Option ((Int × Int × Int × (List Int) × (List Int)) × Int)) {m : Nat} (hm : m ≤ 100) : ∀ (f : Nat) (pw : Int) (acc : List Int), m - acc.length < f → acc.length ≤ m → El p acc → (∀ j, j < acc.length → Cg p (Alg.gd acc j) (((i : Int) + 1) ^ j)) → E1 p pw → Cg p pw (((i : Int) + 1) ^ acc.length) →
    ∃ P, unique_Key_L5 kx (i : Int) p (m : Int) y b z0 z1 z2 z3 z4 z5 z6 f pw acc (acc.length : Int) = kx P y b z0 z1 z2 z3 z4 z5 z6 ∧ P.length = m ∧ El p P ∧ ∀ j, j < m → Cg p (Alg.gd P j) (((i : Int) + 1) ^ j)
  | 0, pw, acc, h, _, _, _, _, _ => by omega
  | f + 1, pw, acc, h, h1, h2, h3, h4, h5 => by
    rw [unique_Key_L5]
    unfold unique_Key_B5
    by_cases hc : acc.length < m
    · rw [if_pos (by omega), lapp_ok (by simp; omega), Option.bind_some, w64_id (x := (i : Int) + 1) (by omega) (by omega), mul_eq hp h4 ⟨by omega, hi⟩, Option.bind_some, w64_id (by omega) (by omega), show (acc.length : Int) + 1 = ((acc ++ [pw]).length : Int) by simp]
      refine pows_L kx hm f _ (acc ++ [pw]) (by simp; omega) (by simp; omega) (h2.app (El.cons.2 ⟨h4, El.nil⟩)) (fun j hj => ?_) (E1.emod hp.1 _) ?_
      · rcases Nat.lt_or_ge j acc.length with h6 | h6
        · rw [gd_app j h6]; exact h3 j h6
        · have : j = acc.length := by simp at hj; omega
          subst this
          rw [gd_snoc]; exact h5
      · rw [show (acc ++ [pw]).length = acc.length + 1 by simp, Int.pow_succ]
        exact (Cg.emod p _).trans (h5.mul (Cg.refl p _))
    · rw [if_neg (by omega)]
      have : acc.length = m := by omega
      subst this
      exact ⟨acc, rfl, rfl, h2, h3⟩
end
theorem negs_L {p : Int} (hp : 2 ≤ p ∧ p ≤ 65521) {y : Int} (hy : E1 p y) {b : Bool} {z0 z1 z2 z3 z4 z5 z6 : Int} (kx : Int → Bool → Int → Int → Int → (List Int) → Int → Int → Int → Int → Option ((Int × Int × Int × (List Int) × (List Int)) × Int)) : ∀ (P acc : List Int), El p P → acc.length + P.length ≤ 10000 →
    ∃ W, unique_Key_L3 kx p z0 z1 z2 y b z3 z4 z5 z6 P acc = kx y b z0 z1 z2 (acc ++ W) z3 z4 z5 z6 ∧ W.length = P.length ∧ El p W ∧ ∀ j, Cg p (Alg.gd W j) (-(y * Alg.gd P j))
  | [], acc, _, _ => ⟨[], by simp [unique_Key_L3], rfl, El.nil, fun j => Cg.of (by simp [Alg.gd])⟩
  | x :: P, acc, h, h2 => by
    obtain ⟨hx, h⟩ := El.cons.1 h
    simp only [List.length_cons] at h2
    rw [unique_Key_L3]
    unfold unique_Key_B3
    rw [mul_eq hp hy hx, Option.bind_some, sub_eq hp ⟨by omega, by omega⟩ (E1.emod hp.1 _), Option.bind_some, lapp_ok (by simp; omega), Option.bind_some]
    obtain ⟨W, a, c, d, e⟩ := negs_L hp hy kx P (acc ++ [(0 - y * x % p) % p]) h (by simp; omega)
    refine ⟨(0 - y * x % p) % p :: W, by rw [a]; simp, by simp [c], El.cons.2 ⟨E1.emod hp.1 _, d⟩, fun j => ?_⟩
    cases j with
    | zero =>
      have := (Cg.emod p (0 - y * x % p)).trans ((Cg.refl p 0).sub (Cg.emod p (y * x)))
      simpa [Alg.gd] using this
    | succ j => simpa [Alg.gd_succ] using e j
theorem key_L {p : Int} (hp : 2 ≤ p ∧ p ≤ 65521) {k v : Nat} (hkv : k + v + v ≤ 32) (kx : Int → Int → Int → (List Int) → (List Int) → Int → Int → Int → Int → Option ((Int × Int × Int × (List Int) × (List Int)) × Int)) (z1 z2 z3 z4 z5 z6 : Int) : ∀ (l : List (Int × Bool)) (i : Nat) (n : Nat) (cs Rt : List Int), ((i + l.length : Nat) : Int) < p → El p ((kn l i).map (·.2)) → n + l.length ≤ 32 → cs.length = n * (k + v + v) → Rt.length = n →
    ∃ C R', unique_Key_L6 kx (k : Int) (v : Int) p l i z1 (n : Int) z2 cs Rt z3 z4 z5 z6 = kx z1 ((n + C.length : Nat) : Int) z2 (cs ++ C.flatten) (Rt ++ R') z3 z4 z5 z6 ∧ KR p k v (kn l i) C R'
  | [], i, n, cs, Rt, _, _, _, _, _ => ⟨[], [], by simp [unique_Key_L6], trivial⟩
  | c :: l, i, n, cs, Rt, h1, h2, h3, h4, h5 => by
    simp only [List.length_cons] at h1 h3
    rw [unique_Key_L6]
    unfold unique_Key_B6
    have hmul : n * (k + v + v) ≤ 32 * 32 := Nat.mul_le_mul (by omega) hkv
    by_cases hk : c.2 = true
    · have ek : kn (c :: l) i = ((i : Int) + 1, c.1) :: kn l (i + 1) := by rw [kn, if_pos hk]
      rw [ek] at h2 ⊢
      obtain ⟨hy, h2⟩ := El.cons.1 h2
      dsimp only at hy
      rw [if_neg (by simp [hk]), w64_id (x := (k : Int) + v) (by omega) (by omega), w64_id (x := (k : Int) + v + 1) (by omega) (by omega), show (k : Int) + v + 1 = ((k + v + 1 : Nat) : Int) by omega]
      obtain ⟨P, e1, e2, e3, e4⟩ := pows_L hp (i := i) (by omega) (y := c.1) (b := c.2) (z0 := z1) (z1 := (n : Int)) (z2 := z2) (z3 := z3) (z4 := z4) (z5 := z5) (z6 := z6) (unique_Key_J4 (unique_Key_L6 kx (k : Int) (v : Int) p l (i + 1)) (k : Int) (v : Int) p cs Rt) (m := k + v + 1) (by omega) big 1 [] (by simp [big]; omega) (by simp) El.nil (fun j hj => absurd hj (by simp)) ⟨by omega, by omega⟩ (Cg.of (by simp))
      rw [show ((([] : List Int).length : Nat) : Int) = 0 from rfl] at e1
      rw [e1]
      unfold unique_Key_J4
      rw [w64_id (x := (k : Int) + v) (by omega) (by omega), lsub_ok (by omega) (by omega) (by omega)]
      simp only [Option.bind_some]
      have ea : ((P.drop (0 : Int).toNat).take ((k : Int) + v - 0).toNat) = P.take (k + v) := by
        rw [show ((k : Int) + v - 0).toNat = k + v by omega]; simp
      rw [ea, lapp_ok (by rw [List.length_take]; omega)]
      simp only [Option.bind_some]
      rw [lsub_ok (by omega) (by omega) (by omega)]
      simp only [Option.bind_some]
      have eb : ((P.drop (0 : Int).toNat).take ((v : Int) - 0).toNat) = P.take v := by
        rw [show ((v : Int) - 0).toNat = v by omega]; simp
      rw [eb]
      have hPt : ∀ m, El p (P.take m) := fun m x hx => e3 x (List.mem_of_mem_take hx)
      obtain ⟨W, w1, w2, w3, w4⟩ := negs_L hp hy (unique_Key_J2 (unique_Key_L6 kx (k : Int) (v : Int) p l (i + 1)) P (v : Int) p Rt) (b := c.2) (z0 := z1) (z1 := (n : Int)) (z2 := z2) (z3 := z3) (z4 := z4) (z5 := z5) (z6 := z6) (P.take v) (cs ++ P.take (k + v)) (hPt v) (by simp; omega)
      rw [w1]
      unfold unique_Key_J2
      rw [lidx_nat 0 (by omega)]
      simp only [Option.bind_some]
      have hPv : E1 p (P.getD v 0) := El.gd hp.1 e3 v
      rw [mul_eq hp hy hPv, Option.bind_some, lapp_ok (by simp; omega), Option.bind_some, w64_id (x := (n : Int) + 1) (by omega) (by omega), show (n : Int) + 1 = ((n + 1 : Nat) : Int) by omega]
      rw [List.length_take] at w2
      obtain ⟨C, R', g1, g2⟩ := key_L hp hkv kx z1 z2 z3 z4 z5 z6 l (i + 1) (n + 1) (cs ++ P.take (k + v) ++ W) (Rt ++ [c.1 * P.getD v 0 % p]) (by rw [show i + 1 + l.length = i + (l.length + 1) by omega]; exact h1) h2 (by omega) (by
        rw [List.length_append, List.length_append, List.length_take, h4, Nat.add_mul, Nat.one_mul]; omega) (by simp; omega)
      refine ⟨(P.take (k + v) ++ W) :: C, c.1 * P.getD v 0 % p :: R', ?_, ⟨?_, hPt _ |>.app w3, E1.emod hp.1 _, fun j hj => ?_, ?_⟩, g2⟩
      · rw [g1]
        simp only [List.flatten_cons, List.append_assoc, List.cons_append, List.nil_append, List.length_cons]
        congr 2; omega
      · rw [List.length_append, List.length_take]; omega
      · unfold Alg.keyRow
        by_cases hj1 : j < k + v
        · rw [if_pos hj1, gd_app j (by rw [List.length_take]; omega), gd_take j hj1]
          exact e4 j (by omega)
        · rw [if_neg hj1, if_pos hj]
          obtain ⟨d, rfl⟩ : ∃ d, j = k + v + d := ⟨j - (k + v), by omega⟩
          have : Alg.gd (P.take (k + v) ++ W) (k + v + d) = Alg.gd W d := by
            have := gd_app2 (l := P.take (k + v)) (m := W) d
            rwa [List.length_take, Nat.min_eq_left (by omega)] at this
          rw [this, Nat.add_sub_cancel_left]
          refine (w4 d).trans ((Cg.refl p c.1).mul ?_).neg
          rw [gd_take d (by omega)]
          exact e4 d (by omega)
      · unfold Alg.keyRow
        rw [if_neg (by omega), if_neg (by omega)]
        exact (Cg.emod p _).trans ((Cg.refl p c.1).mul (e4 v (by omega)))
    · have ek : kn (c :: l) i = kn l (i + 1) := by rw [kn, if_neg hk]
      rw [ek] at h2 ⊢
      have hk' : c.2 = false := by simpa using hk
      rw [if_pos (by simp [hk'])]
      exact key_L hp hkv kx z1 z2 z3 z4 z5 z6 l (i + 1) n cs Rt (by rw [show i + 1 + l.length = i + (l.length + 1) by omega]; exact h1) h2 (by omega) h4 h5
theorem key_ok {p : Int} (hf : Fd p) {l : List (Int × Bool)} (hl : l.length ≤ 32) (hlp : (l.length : Int) < p) (hE : El p ((kn l 0).map (·.2))) {k v : Nat} (hk : 1 ≤ k) (hk2 : k ≤ (kn l 0).length) (hkv : k + v + v ≤ 32) :
    ∃ C R, unique_Key p l (k : Int) (v : Int) = some ((p, (C.length : Int), ((k + v + v : Nat) : Int), C.flatten, R), 0) ∧ KR p k v (kn l 0) C R := by
  obtain ⟨r, hr⟩ := fill_ok hf hl hlp hE hk hk2
  have hp := hf.rng
  unfold unique_Key
  rw [hr]
  simp only [Option.bind_some]
  rw [if_neg (by simp), w64_id (x := 2 * (v : Int)) (by omega) (by omega), w64_id (x := (k : Int) + 2 * (v : Int)) (by omega) (by omega), if_neg (by omega), show (k : Int) + 2 * (v : Int) = ((k + v + v : Nat) : Int) by omega]
  obtain ⟨C, R, h1, h2⟩ := key_L hp hkv unique_Key_J1 p ((k + v + v : Nat) : Int) 0 0 0 p l 0 0 [] [] (by simpa using hlp) hE (by omega) (by simp) rfl
  refine ⟨C, R, ?_, h2⟩
  rw [show (((0 : Nat)) : Int) = 0 from rfl] at h1
  rw [h1]
  unfold unique_Key_J1
  simp
end Go.Proofs.YtfcicopgdahmcaaGreatDoor
end

section
namespace Go.Proofs.YtfcicopgdahmcaaGreatDoor
open Alg (Cg Pr)
theorem gr_lt {R : List (List Int)} {i : Nat} (h : i < R.length) : gr R i = R[i] := by simp [gr, List.getD_eq_getElem?_getD, h]
theorem gr_set {R : List (List Int)} {i j : Nat} {x : List Int} (h : i < R.length) : gr (R.set i x) j = if j = i then x else gr R j := by
  unfold gr
  rw [List.getD_eq_getElem?_getD, List.getD_eq_getElem?_getD, List.getElem?_set]
  by_cases e : i = j
  · subst e; simp [h]
  · rw [if_neg e, if_neg (Ne.symm e)]
theorem Rw.gr {p : Int} {m : Nat} {R : List (List Int)} (h : Rw p m R) {i : Nat} (hi : i < R.length) : (gr R i).length = m ∧ El p (gr R i) := by
  rw [gr_lt hi]; exact h _ (List.getElem_mem hi)
theorem Rw.set {p : Int} {m : Nat} {R : List (List Int)} (h : Rw p m R) {i : Nat} {x : List Int} (hx : x.length = m) (he : El p x) : Rw p m (R.set i x) := fun r hr => by
  rcases List.mem_or_eq_of_mem_set hr with hr | rfl
  · exact h r hr
  · exact ⟨hx, he⟩
theorem lidx_gr {R : List (List Int)} {i : Nat} (h : i < R.length) : lidx R (i : Int) = some (gr R i) := lidx_nat [] h
theorem lidx_gd {l : List Int} {i : Nat} (h : i < l.length) : lidx l (i : Int) = some (Alg.gd l i) := lidx_nat 0 h
theorem lupd_nat {α : Type} {l : List α} {i : Nat} {y : α} (h : i < l.length) : lupd l (i : Int) y = some (l.set i y) := by rw [lupd_ok (by omega) (by omega), Int.toNat_natCast]
theorem lead_find {p : Int} {m k : Nat} (hk : k < m) {R : List (List Int)} (hR : Rw p m R) (hn : R.length ≤ 1000) (kx : Int → Option (List (List Int) × Int × List Int)) : ∀ (f r : Nat), r ≤ R.length → R.length - r < f →
    ∃ i, solve_reduced_lead_L7 kx (k : Int) R f (r : Int) = kx (i : Nat) ∧ r ≤ i ∧ i ≤ R.length ∧ (∀ j, r ≤ j → j < i → Alg.gd (gr R j) k = 0) ∧ (i < R.length → Alg.gd (gr R i) k ≠ 0)
  | 0, r, _, h => by omega
  | f + 1, r, h1, h2 => by
    rw [solve_reduced_lead_L7]
    unfold solve_reduced_lead_B7
    by_cases hr : r < R.length
    · rw [if_pos (by omega), lidx_gr hr]
      simp only [Option.bind_some]
      rw [lidx_gd (by rw [(hR.gr hr).1]; exact hk)]
      simp only [Option.bind_some]
      by_cases h0 : Alg.gd (gr R r) k = 0
      · rw [if_pos (by simp [h0]), w64_id (by omega) (by omega), show (r : Int) + 1 = ((r + 1 : Nat) : Int) by omega]
        obtain ⟨i, a, b, c, d, e⟩ := lead_find hk hR hn kx f (r + 1) (by omega) (by omega)
        refine ⟨i, a, by omega, c, fun j hj1 hj2 => ?_, e⟩
        by_cases hjr : j = r
        · rw [hjr]; exact h0
        · exact d j (by omega) hj2
      · rw [if_neg (by simp [h0])]
        exact ⟨r, rfl, Nat.le_refl _, by omega, fun j _ _ => by omega, fun _ => h0⟩
    · rw [if_neg (by omega)]
      simp only [Option.bind_some]
      rw [if_neg (by simp)]
      exact ⟨r, rfl, Nat.le_refl _, by omega, fun j _ _ => by omega, fun h => absurd h hr⟩
def scl (p by_ : Int) (l : List Int) : List Int := l.map fun x => x * by_ % p
theorem scl_gd {p b : Int} (l : List Int) (j : Nat) : Cg p (Alg.gd (scl p b l) j) (Alg.gd l j * b) := by
  unfold scl Alg.gd
  rw [List.getD_eq_getElem?_getD, List.getD_eq_getElem?_getD, List.getElem?_map]
  cases l[j]? with
  | none => exact Cg.of (by simp)
  | some x => exact Cg.emod p _
theorem scl_el {p b : Int} (hp : 2 ≤ p) (l : List Int) : El p (scl p b l) := fun x hx => by
  obtain ⟨y, _, rfl⟩ := List.mem_map.1 hx
  exact E1.emod hp _
theorem lead_L4 {p : Int} (hp : 2 ≤ p ∧ p ≤ 65521) {b : Int} (hb : E1 p b) {r : Nat} {l : List Int} (hl : El p l) (kx : List (List Int) → Option (List (List Int) × Int × List Int)) {R : List (List Int)} (hr : r < R.length) : ∀ (xs : List Int) (i : Nat), l.drop i = xs →
    solve_reduced_lead_L4 kx (r : Int) b p xs i (R.set r ((scl p b l).take i ++ l.drop i)) = kx (R.set r (scl p b l))
  | [], i, hd => by
    have hi : l.length ≤ i := by have := congrArg List.length hd; simp at this; omega
    rw [solve_reduced_lead_L4, hd, List.take_of_length_le (by simp [scl]; exact hi), List.append_nil]
  | y :: xs, i, hd => by
    have hi : i < l.length := by
      rcases Nat.lt_or_ge i l.length with h2 | h2
      · exact h2
      · rw [List.drop_of_length_le h2] at hd; cases hd
    have hy : l[i] = y := by
      have := List.drop_eq_getElem_cons hi
      rw [hd] at this; exact (List.cons.inj this).1.symm
    have hsl : (scl p b l).length = l.length := by simp [scl]
    have el : ((scl p b l).take i ++ l.drop i).length = l.length := by simp [hsl]; omega
    have eg : Alg.gd ((scl p b l).take i ++ l.drop i) i = y := by
      have := gd_app2 (l := (scl p b l).take i) (m := l.drop i) 0
      rw [List.length_take, hsl, Nat.min_eq_left (by omega), Nat.add_zero] at this
      rw [this, hd]; rfl
    have eR : gr (R.set r ((scl p b l).take i ++ l.drop i)) r = (scl p b l).take i ++ l.drop i := by rw [gr_set hr, if_pos rfl]
    rw [solve_reduced_lead_L4]
    unfold solve_reduced_lead_B4
    rw [lidx_gr (by simpa using hr), eR]
    simp only [Option.bind_some]
    rw [lidx_gd (by rw [el]; exact hi), eg]
    simp only [Option.bind_some]
    rw [mul_eq hp (by rw [← hy]; exact hl _ (List.getElem_mem hi)) hb]
    simp only [Option.bind_some]
    rw [lupd_nat (by rw [el]; exact hi), Option.bind_some, lupd_nat (by simpa using hr), Option.bind_some, List.set_set]
    have es : ((scl p b l).take i ++ l.drop i).set i (y * b % p) = (scl p b l).take (i + 1) ++ l.drop (i + 1) := by
      rw [List.set_append_right _ _ (by simp [hsl]; omega), List.length_take, hsl, Nat.min_eq_left (by omega), Nat.sub_self, List.drop_eq_getElem_cons hi, List.set_cons_zero, List.take_succ_eq_append_getElem (by rw [hsl]; exact hi), List.append_assoc]
      simp [scl, hy]
    rw [es]
    exact lead_L4 hp hb hl kx hr xs (i + 1) (by rw [← List.drop_drop, hd]; rfl)
def elim (p : Int) (k r : Nat) (R : List (List Int)) (i : Nat) : List Int := if i ≠ r ∧ Alg.gd (gr R i) k ≠ 0 then at_ p ((0 - Alg.gd (gr R i) k) % p) (gr R i) (gr R r) else gr R i
def elims (p : Int) (k r : Nat) (R : List (List Int)) (i : Nat) : List (List Int) := (List.range i).map (elim p k r R) ++ R.drop i
theorem elims_len {p : Int} {k r : Nat} {R : List (List Int)} {i : Nat} (h : i ≤ R.length) : (elims p k r R i).length = R.length := by simp [elims]; omega
theorem elims_gr {p : Int} {k r : Nat} {R : List (List Int)} {i j : Nat} : gr (elims p k r R i) j = if j < i then elim p k r R j else gr R j := by
  unfold elims gr
  rw [List.getD_eq_getElem?_getD, List.getD_eq_getElem?_getD]
  split
  · rename_i h
    rw [List.getElem?_append_left (by simpa using h)]
    simp [h, gr]
  · rename_i h
    rw [List.getElem?_append_right (by simp; omega)]
    simp only [List.length_map, List.length_range, List.getElem?_drop]
    rw [show i + (j - i) = j by omega]
theorem elims_set {p : Int} {k r : Nat} {R : List (List Int)} {i : Nat} (h : i < R.length) : (elims p k r R i).set i (elim p k r R i) = elims p k r R (i + 1) := by
  unfold elims
  rw [List.set_append_right _ _ (by simp), List.length_map, List.length_range, Nat.sub_self, List.drop_eq_getElem_cons h, List.set_cons_zero, List.range_succ, List.map_append, List.append_assoc]
  rfl
theorem elims_same {p : Int} {k r : Nat} {R : List (List Int)} {i : Nat} (h : i < R.length) (he : elim p k r R i = gr R i) : elims p k r R (i + 1) = elims p k r R i := by
  unfold elims
  rw [List.drop_eq_getElem_cons h, List.range_succ, List.map_append, List.append_assoc, List.map_cons, List.map_nil, he, gr_lt h]
  rfl
theorem elim_ok {p : Int} (hp : 2 ≤ p) {m k r : Nat} {R : List (List Int)} (hR : Rw p m R) (hr : r < R.length) {i : Nat} (hi : i < R.length) : (elim p k r R i).length = m ∧ El p (elim p k r R i) := by
  unfold elim
  split
  · exact ⟨by rw [at_len (by rw [(hR.gr hi).1, (hR.gr hr).1]), (hR.gr hi).1], at_el hp _ _⟩
  · exact hR.gr hi
theorem lead_L2 {p : Int} (hp : 2 ≤ p ∧ p ≤ 65521) {m k r : Nat} (hk : k < m) {R : List (List Int)} (hR : Rw p m R) (hr : r < R.length) (kx : List (List Int) → Option (List (List Int) × Int × List Int)) : ∀ (xs : List (List Int)) (i : Nat), i + xs.length = R.length →
    solve_reduced_lead_L2 kx (k : Int) (r : Int) p xs i (elims p k r R i) = kx (elims p k r R R.length)
  | [], i, h => by simp only [List.length_nil, Nat.add_zero] at h; rw [solve_reduced_lead_L2, h]
  | x :: xs, i, h => by
    simp only [List.length_cons] at h
    have hi : i < R.length := by omega
    have el := elims_len (p := p) (k := k) (r := r) (R := R) (i := i) (by omega)
    rw [solve_reduced_lead_L2]
    unfold solve_reduced_lead_B2
    rw [lidx_gr (by rw [el]; exact hi), elims_gr, if_neg (by omega)]
    simp only [Option.bind_some]
    have hgi := hR.gr hi
    have hgr := hR.gr hr
    have ih := lead_L2 hp hk hR hr kx xs (i + 1) (by omega)
    by_cases hir : i = r
    · subst hir
      rw [if_neg (by simp)]
      simp only [Option.bind_some]
      rw [if_neg (by simp)]
      rw [← elims_same hi (by unfold elim; rw [if_neg (by simp)])]; exact ih
    · rw [if_pos (by omega), lidx_gd (by rw [hgi.1]; exact hk)]
      simp only [Option.bind_some]
      by_cases h0 : Alg.gd (gr R i) k = 0
      · rw [if_neg (by simp [h0])]
        rw [← elims_same hi (by unfold elim; rw [if_neg (by simp [h0])])]; exact ih
      · rw [if_pos (by simp [h0])]
        rw [sub_eq hp ⟨by omega, by omega⟩ (El.gd hp.1 hgi.2 k), Option.bind_some]
        have e2 : gr (elims p k r R i) r = gr R r := by
          rw [elims_gr]
          split
          · unfold elim; rw [if_neg (by simp)]
          · rfl
        rw [lidx_gr (by rw [el]; exact hr), e2]
        simp only [Option.bind_some]
        unfold lne
        rw [if_neg (by omega)]
        simp only [Option.bind_some]
        rw [at_eq hp (E1.emod hp.1 _) hgr.2 hgi.2 (by rw [hgi.1, hgr.1])]
        simp only [Option.bind_some]
        rw [lupd_nat (by rw [el]; exact hi), Option.bind_some]
        have e3 : at_ p ((0 - Alg.gd (gr R i) k) % p) (gr R i) (gr R r) = elim p k r R i := by unfold elim; rw [if_pos ⟨hir, h0⟩]
        rw [e3, elims_set hi]
        exact ih
theorem swap_gr {R : List (List Int)} {a b : Nat} (ha : a < R.length) (hb : b < R.length) (i : Nat) : gr ((R.set a (gr R b)).set b (gr R a)) i = if i = b then gr R a else if i = a then gr R b else gr R i := by
  rw [gr_set (by simpa using hb), gr_set ha]
structure RI (p : Int) (n m : Nat) (M0 : Nat → Nat → Int) (k r : Nat) (R : List (List Int)) (ld : List Int) : Prop where
  len : R.length = n
  rw : Rw p m R
  ll : ld.length = 32
  ln : ∀ j, 0 ≤ Alg.gd ld j ∧ Alg.gd ld j ≤ n
  z : ∀ j, k ≤ j → Alg.gd ld j = 0
  gi : Alg.GI p n m M0 (fun i j => Alg.gd (gr R i) j) k r (fun j => (Alg.gd ld j).toNat)
theorem lead_ok {p : Int} (hf : Fd p) {n m : Nat} {M0 : Nat → Nat → Int} (hn : n ≤ 1000) {k r : Nat} (hk : k < m) (hk2 : k < 32) {R : List (List Int)} {ld : List Int} (h : RI p n m M0 k r R ld) (c : Int) :
    ∃ R' r' ld', solve_reduced_lead (p, c, R, (r : Int), ld) (k : Int) = some (R', ((r' : Nat) : Int), ld') ∧ RI p n m M0 (k + 1) r' R' ld' := by
  have hp := hf.rng
  have hlen := h.len
  have hrn := h.gi.rn
  unfold solve_reduced_lead
  dsimp only
  obtain ⟨i, e1, h1, h2, h3, h4⟩ := lead_find hk h.rw (by omega) (solve_reduced_lead_J6 (k : Int) p (r : Int) ld R) big r (by omega) (by simp only [big]; omega)
  rw [e1]
  unfold solve_reduced_lead_J6
  by_cases hi : i = R.length
  · rw [if_pos (by omega)]
    refine ⟨R, r, ld, rfl, h.len, h.rw, h.ll, h.ln, fun j hj => h.z j (by omega), h.gi.skip (fun j hj1 hj2 => Cg.of (h3 j hj1 (by omega))) (fun _ _ => rfl) ?_⟩
    rw [h.z k (Nat.le_refl _)]; rfl
  · have hi : i < R.length := by omega
    have hr : r < R.length := by omega
    rw [if_neg (by omega), lidx_gr hi, lidx_gr hr]
    simp only [Option.bind_some]
    rw [lupd_nat hr]
    simp only [Option.bind_some]
    rw [lupd_nat (by simpa using hi)]
    simp only [Option.bind_some]
    generalize hRs : (R.set r (gr R i)).set i (gr R r) = Rs
    have gs : ∀ j, gr Rs j = if j = i then gr R r else if j = r then gr R i else gr R j := fun j => by rw [← hRs]; exact swap_gr hr hi j
    have ls : Rs.length = R.length := by rw [← hRs]; simp
    have ws : Rw p m Rs := by
      rw [← hRs]
      exact (h.rw.set (h.rw.gr hi).1 (h.rw.gr hi).2).set (h.rw.gr hr).1 (h.rw.gr hr).2
    have gsr : gr Rs r = gr R i := by
      rw [gs]
      by_cases e : r = i
      · rw [if_pos e, e]
      · rw [if_neg e, if_pos rfl]
    have hrs : r < Rs.length := by omega
    unfold solve_reduced_lead_J5
    rw [lidx_gr hrs, gsr]
    simp only [Option.bind_some]
    have hgi := h.rw.gr hi
    rw [lidx_gd (by rw [hgi.1]; exact hk)]
    simp only [Option.bind_some]
    obtain ⟨b, b1, b2, b3⟩ := inverse_ok hf (El.gd hp.1 hgi.2 k) (h4 hi)
    rw [b1, Option.bind_some]
    have l4 := lead_L4 hp b2 (r := r) hgi.2 (solve_reduced_lead_J3 (k : Int) (r : Int) p ld) (R := Rs) hrs (gr R i) 0 rfl
    rw [List.take_zero, List.nil_append, List.drop_zero] at l4
    have e5 : Rs.set r (gr R i) = Rs := by
      rw [← gsr, gr_lt hrs]; exact List.set_getElem_self hrs
    rw [e5] at l4
    rw [show ((0 : Nat)) = 0 from rfl, l4]
    unfold solve_reduced_lead_J3
    generalize hRt : Rs.set r (scl p b (gr R i)) = Rt
    have gt : ∀ j, gr Rt j = if j = r then scl p b (gr R i) else gr Rs j := fun j => by rw [← hRt]; exact gr_set hrs
    have lt : Rt.length = R.length := by rw [← hRt]; simp [ls]
    have wt : Rw p m Rt := by rw [← hRt]; exact ws.set (by simp [scl, hgi.1]) (scl_el hp.1 _)
    have l2 := lead_L2 hp hk wt (r := r) (by omega) (solve_reduced_lead_J1 (k : Int) (r : Int) ld) Rt 0 (by omega)
    have e6 : elims p k r Rt 0 = Rt := by simp [elims]
    rw [e6] at l2
    rw [l2]
    unfold solve_reduced_lead_J1
    have hk3 : k < ld.length := by have := h.ll; omega
    rw [lidx_gd hk3, Option.bind_some, lupd_nat hk3, Option.bind_some, w64_id (by omega) (by omega), show (r : Int) + 1 = ((r + 1 : Nat) : Int) by omega]
    have gd' : ∀ j, Alg.gd (ld.set k ((r + 1 : Nat) : Int)) j = if j = k then ((r + 1 : Nat) : Int) else Alg.gd ld j := fun j => by
      unfold Alg.gd
      rw [List.getD_eq_getElem?_getD, List.getD_eq_getElem?_getD, List.getElem?_set]
      by_cases e : k = j
      · subst e; simp [hk3]
      · rw [if_neg e, if_neg (Ne.symm e)]
    have gfin : ∀ j, j < Rt.length → gr (elims p k r Rt Rt.length) j = elim p k r Rt j := fun j hj => by rw [elims_gr, if_pos hj]
    have gtr : gr Rt r = scl p b (gr R i) := by rw [gt, if_pos rfl]
    refine ⟨_, r + 1, _, rfl, by rw [elims_len (Nat.le_refl _), lt, hlen], ?_, by simp [h.ll], fun j => ?_, fun j hj => ?_, ?_⟩
    · intro x hx
      obtain ⟨j, hj, rfl⟩ := List.getElem_of_mem hx
      have hj' : j < Rt.length := by rwa [elims_len (Nat.le_refl _)] at hj
      rw [← gr_lt hj, gfin j hj']
      exact elim_ok hp.1 wt (by omega) hj'
    · rw [gd']
      split
      · omega
      · exact h.ln j
    · rw [gd', if_neg (by omega)]; exact h.z j (by omega)
    · refine h.gi.lead i h1 (by omega) b b3 (fun j hj => ?_) (fun i' hi' hne j hj => ?_) hk (fun j hj => ?_) ?_
      · rw [gfin r (by omega)]
        have : elim p k r Rt r = scl p b (gr R i) := by unfold elim; rw [if_neg (by simp), gtr]
        rw [this]; exact scl_gd _ _
      · rw [gfin i' (by omega), gfin r (by omega)]
        have er : elim p k r Rt r = gr Rt r := by unfold elim; rw [if_neg (by simp)]
        have es : gr Rt i' = gr Rs i' := by rw [gt, if_neg hne]
        have ew : ∀ q, Alg.swp r i (fun i j => Alg.gd (gr R i) j) i' q = Alg.gd (gr Rs i') q := fun q => by
          unfold Alg.swp
          rw [if_neg hne, gs]
          by_cases e : i' = i
          · rw [if_pos e, if_pos e]
          · rw [if_neg e, if_neg e, if_neg hne]
        rw [er, ew, ew]
        have hi2 : i' < Rt.length := by omega
        unfold elim
        by_cases h0 : Alg.gd (gr Rt i') k = 0
        · rw [if_neg (by simp [h0]), ← es, h0]
          exact Cg.of (by simp)
        · rw [if_pos ⟨hne, h0⟩]
          refine (at_gd (by rw [(wt.gr hi2).1, (wt.gr (i := r) (by omega)).1]) j).trans ?_
          rw [es]
          have := (Cg.refl p (Alg.gd (gr Rs i') j)).add ((Cg.emod p (0 - Alg.gd (gr Rs i') k)).mul (Cg.refl p (Alg.gd (gr Rt r) j)))
          refine this.trans (Cg.of ?_)
          rw [Int.sub_mul]; omega
      · rw [gd', if_neg (by omega)]
      · rw [gd', if_pos rfl]; rfl
end Go.Proofs.YtfcicopgdahmcaaGreatDoor
end

section
namespace Go.Proofs.YtfcicopgdahmcaaGreatDoor
open Alg (Cg Pr)
def aug : List (List Int) → List Int → List (List Int) := List.zipWith fun c r => c ++ [r]
theorem aug_len {C : List (List Int)} {Rt : List Int} (h : Rt.length = C.length) : (aug C Rt).length = C.length := by simp [aug, h]
theorem aug_gr {C : List (List Int)} {Rt : List Int} (h : Rt.length = C.length) {i : Nat} (hi : i < C.length) : gr (aug C Rt) i = gr C i ++ [Alg.gd Rt i] := by
  rw [gr_lt (by rw [aug_len h]; exact hi), gr_lt hi]
  simp [aug, Alg.gd, List.getD_eq_getElem?_getD, show i < Rt.length by omega]
theorem aug_rw {p : Int} {c : Nat} {C : List (List Int)} {Rt : List Int} (h : Rt.length = C.length) (hC : Rw p c C) (hR : El p Rt) : Rw p (c + 1) (aug C Rt) := fun x hx => by
  obtain ⟨i, hi, rfl⟩ := List.getElem_of_mem hx
  rw [aug_len h] at hi
  rw [← gr_lt, aug_gr h hi]
  have := hC.gr hi
  exact ⟨by simp [this.1], this.2.app (El.cons.2 ⟨hR _ (Alg.gd_mem (by omega)), El.nil⟩)⟩
theorem flat_drop {p : Int} {c : Nat} : ∀ (C : List (List Int)) (i : Nat), Rw p c C → i < C.length → (C.flatten.drop (i * c)).take c = gr C i
  | [], i, _, h => absurd h (by simp)
  | x :: C, i, h, hi => by
    obtain ⟨⟨h1, h2⟩, h⟩ := Rw.cons.1 h
    rw [List.flatten_cons]
    cases i with
    | zero => rw [Nat.zero_mul, List.drop_zero, ← h1, List.take_left']; rfl; rfl
    | succ i =>
      rw [Nat.add_mul, Nat.one_mul, Nat.add_comm, ← List.drop_drop]
      have : List.drop c (x ++ C.flatten) = C.flatten := by rw [← h1, List.drop_left']; rfl
      rw [this, flat_drop C i h (by simpa using hi)]
      rfl
theorem flatC_len {p : Int} {c : Nat} : ∀ (C : List (List Int)), Rw p c C → C.flatten.length = C.length * c
  | [], _ => by simp
  | x :: C, h => by
    obtain ⟨⟨h1, h2⟩, h⟩ := Rw.cons.1 h
    rw [List.flatten_cons, List.length_append, flatC_len C h, List.length_cons, Nat.add_mul, Nat.one_mul, h1, Nat.add_comm]
theorem flat_el {p : Int} {c : Nat} {C : List (List Int)} (h : Rw p c C) : El p C.flatten := fun x hx => by
  obtain ⟨r, hr, hx⟩ := List.mem_flatten.1 hx
  exact (h r hr).2 x hx
theorem reduce_L3 {p : Int} {c : Nat} {C : List (List Int)} {Rt : List Int} (hC : Rw p c C) (h : Rt.length = C.length) (hn : C.length ≤ 32) (hc : c ≤ 32) (kx : Int → Int → (List (List Int)) → Int → (List Int) → Int → Int → Int → Option (Int × Int × (List (List Int)) × Int × (List Int))) (ld : List Int) : ∀ (f i : Nat), i ≤ C.length → C.length - i < f →
    solve_reduce_L3 kx (C.length : Int) p (c : Int) ld C.flatten Rt f (i : Int) ((aug C Rt).take i) = kx p (c : Int) (aug C Rt) 0 ld p (C.length : Int) (c : Int)
  | 0, i, _, h => by omega
  | f + 1, i, h1, h2 => by
    have hal := aug_len h
    rw [solve_reduce_L3]
    unfold solve_reduce_B3
    by_cases hi : i < C.length
    · have hm1 : i * c ≤ 32 * 32 := Nat.mul_le_mul (by omega) hc
      have hm2 : (i + 1) * c ≤ C.length * c := Nat.mul_le_mul_right _ hi
      have hm3 : C.length * c ≤ 32 * 32 := Nat.mul_le_mul hn hc
      have hm4 : (i + 1) * c = i * c + c := by rw [Nat.add_mul, Nat.one_mul]
      rw [if_pos (by omega), w64_id (x := (i : Int) + 1) (by omega) (by omega), show (i : Int) * (c : Int) = ((i * c : Nat) : Int) by simp, show ((i : Int) + 1) * (c : Int) = (((i + 1) * c : Nat) : Int) by simp, w64_id (x := ((i * c : Nat) : Int)) (by omega) (by omega), w64_id (x := (((i + 1) * c : Nat) : Int)) (by omega) (by omega), lsub_ok (by omega) (by omega) (by rw [flatC_len C hC]; omega)]
      simp only [Option.bind_some]
      have e1 : ((C.flatten.drop ((i * c : Nat) : Int).toNat).take ((((i + 1) * c : Nat) : Int) - ((i * c : Nat) : Int)).toNat) = gr C i := by
        rw [Int.toNat_natCast, show ((((i + 1) * c : Nat) : Int) - ((i * c : Nat) : Int)).toNat = c by omega]
        exact flat_drop C i hC hi
      have hg := hC.gr hi
      rw [e1, lapp_ok (by simp; omega), Option.bind_some, lidx_gd (by omega), Option.bind_some, List.nil_append, lapp_ok (by simp; omega), Option.bind_some, lapp_ok (by simp; omega), Option.bind_some, show (i : Int) + 1 = ((i + 1 : Nat) : Int) by omega]
      have e2 : (aug C Rt).take i ++ [gr C i ++ [Alg.gd Rt i]] = (aug C Rt).take (i + 1) := by
        rw [List.take_succ_eq_append_getElem (by omega), ← gr_lt (by omega), aug_gr h hi]
      rw [e2]
      exact reduce_L3 hC h hn hc kx ld f (i + 1) (by omega) (by omega)
    · rw [if_neg (by omega), List.take_of_length_le (by omega)]
theorem reduce_L1 {p : Int} (hf : Fd p) {n c : Nat} (hn : n ≤ 32) (hc : c ≤ 32) {M0 : Nat → Nat → Int} : ∀ (f k r : Nat) (R : List (List Int)) (ld : List Int), k ≤ c → c - k < f → RI p n (c + 1) M0 k r R ld →
    ∃ R' r' ld', solve_reduce_L1 (c : Int) p (c : Int) f (k : Int) R (r : Int) ld = some (p, (c : Int), R', ((r' : Nat) : Int), ld') ∧ RI p n (c + 1) M0 c r' R' ld'
  | 0, k, r, R, ld, _, h, _ => by omega
  | f + 1, k, r, R, ld, h1, h2, h3 => by
    rw [solve_reduce_L1]
    unfold solve_reduce_B1
    by_cases hk : k < c
    · rw [if_pos (by omega)]
      obtain ⟨R', r', ld', e, h4⟩ := lead_ok hf (by omega) (by omega) (by omega) h3 (c : Int)
      rw [e, Option.bind_some, w64_id (by omega) (by omega), show (k : Int) + 1 = ((k + 1 : Nat) : Int) by omega]
      exact reduce_L1 hf hn hc f (k + 1) r' R' ld' (by omega) (by omega) h4
    · rw [if_neg (by omega)]
      have : k = c := by omega
      subst this
      exact ⟨R, r, ld, rfl, h3⟩
theorem solv_L {p : Int} {c : Nat} : ∀ (xs : List (List Int)), Rw p (c + 1) xs → (∀ x ∈ xs, Alg.gd x c = 0) → solve_reduced_solvable_L1 (c : Int) xs = some true
  | [], _, _ => rfl
  | x :: xs, h, h2 => by
    obtain ⟨⟨a, b⟩, h⟩ := Rw.cons.1 h
    rw [solve_reduced_solvable_L1]
    unfold solve_reduced_solvable_B1
    rw [lidx_gd (by omega), Option.bind_some, h2 x List.mem_cons_self, if_neg (by simp)]
    exact solv_L xs h fun y hy => h2 y (List.mem_cons_of_mem _ hy)
def rdy (R : List (List Int)) (ld : List Int) (c j : Nat) : Int := if 0 < Alg.gd ld j then Alg.gd (gr R ((Alg.gd ld j).toNat - 1)) c else 0
theorem read_L {p : Int} {c : Nat} (hc : c ≤ 32) {R : List (List Int)} {ld : List Int} (hR : Rw p (c + 1) R) (hl : ld.length = 32) (hn : R.length ≤ 1000) (hld : ∀ j, 0 ≤ Alg.gd ld j ∧ Alg.gd ld j ≤ R.length) : ∀ (xs : List Int) (i : Nat), i + xs.length = c →
    solve_Solve_L1 R ld (c : Int) xs i ((List.range i).map (rdy R ld c) ++ List.replicate (c - i) 0) = some ((List.range c).map (rdy R ld c), 0)
  | [], i, h => by
    simp only [List.length_nil, Nat.add_zero] at h
    rw [solve_Solve_L1, h]; simp
  | x :: xs, i, h => by
    simp only [List.length_cons] at h
    have ih := read_L hc hR hl hn hld xs (i + 1) (by omega)
    rw [solve_Solve_L1]
    unfold solve_Solve_B1
    rw [lidx_gd (by omega), Option.bind_some]
    have hln : ((List.range i).map (rdy R ld c) ++ List.replicate (c - i) (0 : Int)).length = c := by simp; omega
    have hset : ∀ y : Int, ((List.range i).map (rdy R ld c) ++ List.replicate (c - i) (0 : Int)).set i y = (List.range i).map (rdy R ld c) ++ y :: List.replicate (c - (i + 1)) 0 := fun y => by
      rw [List.set_append_right _ _ (by simp), List.length_map, List.length_range, Nat.sub_self, show c - i = (c - (i + 1)) + 1 by omega, List.replicate_succ, List.set_cons_zero]
    have hr1 : (List.range (i + 1)).map (rdy R ld c) = (List.range i).map (rdy R ld c) ++ [rdy R ld c i] := by rw [List.range_succ, List.map_append]; rfl
    by_cases h0 : 0 < Alg.gd ld i
    · have h1 := hld i
      have ey : rdy R ld c i = Alg.gd (gr R ((Alg.gd ld i).toNat - 1)) c := by unfold rdy; rw [if_pos h0]
      have hlt : (Alg.gd ld i).toNat - 1 < R.length := by omega
      rw [if_pos h0, w64_id (by omega) (by omega), show Alg.gd ld i - 1 = (((Alg.gd ld i).toNat - 1 : Nat) : Int) by omega, lidx_gr hlt, Option.bind_some, lidx_gd (by have := (hR.gr hlt).1; omega), Option.bind_some, lidx_gd (by rw [hln]; omega), Option.bind_some, lupd_nat (by rw [hln]; omega), Option.bind_some, hset, ← ey]
      rw [hr1, List.append_assoc] at ih
      exact ih
    · rw [if_neg h0]
      have ey : rdy R ld c i = 0 := by unfold rdy; rw [if_neg h0]
      rw [hr1, List.append_assoc, ey] at ih
      rw [show c - i = (c - (i + 1)) + 1 by omega, List.replicate_succ]
      exact ih
theorem solve_ok {p : Int} (hf : Fd p) {c : Nat} {C : List (List Int)} {Rt : List Int} (hC : Rw p c C) (hRt : El p Rt) (h : Rt.length = C.length) (hn : C.length ≤ 32) (hc : c ≤ 32) {x0 : Nat → Int} (hx : Alg.SolM p C.length (c + 1) (fun i j => Alg.gd (gr (aug C Rt) i) j) x0) (hx1 : x0 c = -1) :
    ∃ x, solve_Solve (p, (C.length : Int), (c : Int), C.flatten, Rt) = some (x, 0) ∧ x.length = c ∧ El p x ∧ Alg.SolM p C.length (c + 1) (fun i j => Alg.gd (gr (aug C Rt) i) j) (fun j => if j < c then Alg.gd x j else -1) := by
  have hp := hf.rng
  have hfl := flatC_len C hC
  have hm3 : C.length * c ≤ 32 * 32 := Nat.mul_le_mul hn hc
  unfold solve_Solve solve_Check
  dsimp only
  rw [of_eq hf]
  simp only [Option.bind_some]
  rw [if_neg (by simp), if_neg (by omega), show (C.length : Int) * (c : Int) = ((C.length * c : Nat) : Int) by simp, w64_id (by omega) (by omega), if_neg (by omega), all_eq, all_eq]
  simp only [Option.bind_some, flat_el hC, hRt, decide_true, Bool.not_true]
  rw [if_neg (by simp)]
  simp only [Option.bind_some]
  rw [if_neg (by simp)]
  simp only [Option.bind_some]
  rw [if_neg (by simp)]
  unfold solve_reduce
  dsimp only
  have l3 := reduce_L3 hC h hn hc solve_reduce_J2 (List.replicate 32 (0 : Int)) big 0 (by omega) (by simp only [big]; omega)
  rw [List.take_zero, show (((0 : Nat)) : Int) = 0 from rfl] at l3
  rw [l3]
  unfold solve_reduce_J2
  have hal := aug_len h
  obtain ⟨R, r, ld, e1, hI⟩ := reduce_L1 hf hn hc (M0 := fun i j => Alg.gd (gr (aug C Rt) i) j) big 0 0 (aug C Rt) (List.replicate 32 0) (by omega) (by simp only [big]; omega) ⟨hal, aug_rw h hC hRt, by simp, fun j => by rw [gd_zeros]; omega, fun j _ => gd_zeros 32 j, Alg.GI.start _ _ _ _ _⟩
  rw [show (((0 : Nat)) : Int) = 0 from rfl] at e1
  rw [e1]
  simp only [Option.bind_some]
  have hlen := hI.len
  have hrn := hI.gi.rn
  have hright := hI.gi.right hx hx1
  have hz : ∀ i, r ≤ i → i < C.length → Alg.gd (gr R i) c = 0 := fun i h1 h2 => by
    have := El.gd hp.1 (hI.rw.gr (i := i) (by omega)).2 c
    exact (hright i h1 h2).small this.1 this.2
  unfold solve_reduced_solvable
  dsimp only
  rw [lsub_ok (by omega) (by omega) (by omega)]
  simp only [Option.bind_some]
  rw [solv_L (p := p) _ (fun x hx => hI.rw x (List.mem_of_mem_drop (List.mem_of_mem_take hx))) (fun x hx => by
    have hx := List.mem_of_mem_take hx
    obtain ⟨i, hi, rfl⟩ := List.getElem_of_mem hx
    rw [List.getElem_drop, ← gr_lt]
    simp only [List.length_drop, Int.toNat_natCast] at hi
    exact hz _ (by simp) (by rw [Int.toNat_natCast]; omega))]
  simp only [Option.bind_some]
  rw [if_neg (by simp), lmk_ok _ (by omega), Option.bind_some]
  have l1 := read_L hc hI.rw hI.ll (by omega) (fun j => by have := hI.ln j; omega) (List.replicate c (0 : Int)) 0 (by simp)
  simp only [List.range_zero, List.map_nil, List.nil_append, Nat.sub_zero] at l1
  rw [l1]
  have gy : ∀ j, j < c → Alg.gd ((List.range c).map (rdy R ld c)) j = rdy R ld c j := fun j hj => by
    simp [Alg.gd, List.getD_eq_getElem?_getD, hj]
  refine ⟨_, rfl, by simp, fun y hy => ?_, ?_⟩
  · obtain ⟨j, hj, rfl⟩ := List.mem_map.1 hy
    unfold rdy
    have := hI.ln j
    split
    · exact El.gd hp.1 (hI.rw.gr (by omega)).2 c
    · exact ⟨by omega, by omega⟩
  · refine hI.gi.solves hright (fun j hj => ?_) (by simp)
    rw [if_pos hj, gy j hj]
    unfold rdy
    have := hI.ln j
    by_cases h0 : 0 < Alg.gd ld j
    · rw [if_pos h0, if_neg (by omega)]; exact Cg.refl p _
    · rw [if_neg h0, if_pos (by omega)]; exact Cg.refl p _
end Go.Proofs.YtfcicopgdahmcaaGreatDoor
end

section
namespace Go.Proofs.YtfcicopgdahmcaaGreatDoor
open Alg (Cg Pr)
theorem pv_cg {p : Int} {l m : List Int} (h : ∀ i, Cg p (Alg.gd l i) (Alg.gd m i)) (x : Int) : Cg p (Alg.pv l x) (Alg.pv m x) := by
  have hz : Alg.Z0 p (Alg.padd l (Alg.psc (-1) m)) := fun i => by
    rw [Alg.gd_padd, Alg.gd_psc]
    exact (Cg.of (by omega)).trans (h i).sub0
  have := hz.pv x
  rw [Alg.pv_padd, Alg.pv_psc] at this
  exact Cg.of_sub0 ((Cg.of (by omega)).trans this)
theorem pv_app (x : Int) (m : List Int) : ∀ l : List Int, Alg.pv (l ++ m) x = Alg.pv l x + x ^ l.length * Alg.pv m x
  | [] => by simp [Alg.pv]
  | a :: l => by
    rw [List.cons_append, Alg.pv, Alg.pv, pv_app x m l, List.length_cons, Int.pow_succ, Int.add_mul]
    have : x ^ l.length * Alg.pv m x * x = x ^ l.length * x * Alg.pv m x := by rw [Int.mul_assoc, Int.mul_comm (Alg.pv m x), ← Int.mul_assoc]
    omega
theorem pv_at {p c : Int} {t l : List Int} (h : t.length = l.length) (x : Int) : Cg p (Alg.pv (at_ p c t l) x) (Alg.pv t x + c * Alg.pv l x) := by
  have := pv_cg (p := p) (l := at_ p c t l) (m := Alg.padd t (Alg.psc c l)) (fun i => by rw [Alg.gd_padd, Alg.gd_psc]; exact at_gd h i) x
  rwa [Alg.pv_padd, Alg.pv_psc] at this
theorem pv_trim {p : Int} (l : List Int) (x : Int) : Cg p (Alg.pv (trim l) x) (Alg.pv l x) := pv_cg (fun i => Cg.of (trim_gd l i)) x
theorem trim_ext {l m : List Int} (h : ∀ i, Alg.gd l i = Alg.gd m i) : trim l = trim m := by
  have key : ∀ {a b : List Int}, (∀ i, Alg.gd a i = Alg.gd b i) → tn a ≤ tn b := fun {a b} h => by
    rcases Nat.lt_or_ge (tn b) (tn a) with h1 | h1
    · have h2 := tn_last a (by omega)
      rw [h] at h2
      exact absurd (tn_zero b _ (by omega)) h2
    · exact h1
  have hn : tn l = tn m := Nat.le_antisymm (key h) (key fun i => (h i).symm)
  refine List.ext_getElem (by rw [trim_len, trim_len, hn]) fun i h1 h2 => ?_
  have := trim_gd l i
  have h3 := trim_gd m i
  have e1 : Alg.gd (trim l) i = (trim l)[i] := by simp [Alg.gd, List.getD_eq_getElem?_getD, h1]
  have e2 : Alg.gd (trim m) i = (trim m)[i] := by simp [Alg.gd, List.getD_eq_getElem?_getD, h2]
  rw [← e1, ← e2, this, h3, h i]
theorem trim_nil {l : List Int} (h : ∀ i, Alg.gd l i = 0) : trim l = [] := by
  rw [trim_ext (m := []) (fun i => by rw [h i]; rfl)]; rfl
theorem pv_set (x : Int) : ∀ (l : List Int) (i : Nat) (a : Int), i < l.length → Alg.gd l i = 0 → Alg.pv (l.set i a) x = Alg.pv l x + a * x ^ i
  | [], i, a, h, _ => absurd h (by simp)
  | b :: l, 0, a, _, h => by
    have : b = 0 := h
    subst this
    simp [Alg.pv]
  | b :: l, i + 1, a, h, h0 => by
    rw [List.set_cons_succ, Alg.pv, Alg.pv, pv_set x l i a (by simpa using h) h0, Int.add_mul, Int.pow_succ]
    rw [Int.mul_assoc]; omega
theorem cpy_self {α : Type} {l : List α} {n : Nat} (h : n ≤ l.length) : lcpy l 0 n (l.take n) = l := by
  unfold lcpy
  have e : ((0 : Int).toNat + min (l.take n).length n) = n := by simp; omega
  rw [e, List.take_take, Nat.min_self]
  simp
theorem cpy_at {α : Type} {l s : List α} {i n : Nat} (hs : s.length = n) (h : i + n ≤ l.length) : lcpy l (i : Int) n s = l.take i ++ s ++ l.drop (i + n) := by
  unfold lcpy
  rw [Int.toNat_natCast, hs, Nat.min_self, List.take_of_length_le (l := s) (by omega)]
theorem div_L {p : Int} (hp : 2 ≤ p ∧ p ≤ 65521) {E a : List Int} (hE : El p (E ++ [1])) {by_ : Int} (hb : E1 p by_) (hby : Cg p by_ 1) {la : Nat} (hla : la ≤ 1000) (hEl : E.length ≤ 1000) : ∀ (f : Nat) (A Q : List Int) (hi : Nat), hi < f → A.length = la → hi ≤ la → El p A → El p Q → Q.length = la + 1 - (E.length + 1) →
    (∀ j, j + (E.length + 1) ≤ hi → Alg.gd Q j = 0) → (∀ x, Cg p (Alg.pv a x) (Alg.pv Q x * Alg.pv (E ++ [1]) x + Alg.pv (A.take hi) x)) →
    ∃ Q' r, poly_Divide_L3 poly_Divide_J1 (E ++ [1]) p ((E.length + 1 : Nat) : Int) by_ f A 0 (hi : Int) Q = some (trim Q', trim r, 0) ∧ El p Q' ∧ El p r ∧ Q'.length = la + 1 - (E.length + 1) ∧ r.length ≤ E.length ∧ ∀ x, Cg p (Alg.pv a x) (Alg.pv Q' x * Alg.pv (E ++ [1]) x + Alg.pv r x)
  | 0, A, Q, hi, h, _, _, _, _, _, _, _ => by omega
  | f + 1, A, Q, hi, h1, h2, h3, h4, h5, h6, h7, h8 => by
    rw [poly_Divide_L3]
    unfold poly_Divide_B3
    have e0 : (((hi : Int) - 0).toNat : Int) = (hi : Int) := by omega
    rw [e0]
    by_cases hc : E.length + 1 ≤ hi
    · rw [if_pos (by omega), w64_id (x := (hi : Int) - 1) (by omega) (by omega)]
      unfold pidx
      rw [if_pos ⟨by omega, by omega, by omega⟩]
      simp only [Option.bind_some]
      rw [show (0 : Int) + ((hi : Int) - 1) = ((hi - 1 : Nat) : Int) by omega, lidx_gd (by omega)]
      simp only [Option.bind_some]
      have hlast := El.gd hp.1 h4 (hi - 1)
      rw [mul_eq hp hlast hb, Option.bind_some, w64_id (x := (hi : Int) - ((E.length + 1 : Nat) : Int)) (by omega) (by omega)]
      generalize hq : Alg.gd A (hi - 1) * by_ % p = q
      have hq1 : E1 p q := by rw [← hq]; exact E1.emod hp.1 _
      have hqc : Cg p q (Alg.gd A (hi - 1)) := by
        rw [← hq]
        exact (Cg.emod p _).trans (((Cg.refl p _).mul hby).trans (Cg.of (by omega)))
      generalize hn : hi - (E.length + 1) = at0
      have hat : hi = at0 + (E.length + 1) := by omega
      rw [show (hi : Int) - ((E.length + 1 : Nat) : Int) = (at0 : Int) by omega, lidx_gd (by omega), Option.bind_some, lupd_nat (by omega), Option.bind_some]
      unfold psub
      rw [if_pos ⟨by omega, by omega, by omega, by omega⟩]
      simp only [Option.bind_some]
      rw [sub_eq hp ⟨by omega, by omega⟩ hq1, Option.bind_some, lsub_ok (by omega) (by omega) (by omega)]
      simp only [Option.bind_some]
      have epart : ((A.drop ((0 : Int) + (at0 : Int)).toNat).take ((0 : Int) + ((hi : Int) - 0) - (0 + (at0 : Int))).toNat) = (A.drop at0).take (E.length + 1) := by
        rw [show ((0 : Int) + (at0 : Int)).toNat = at0 by omega, show ((0 : Int) + ((hi : Int) - 0) - (0 + (at0 : Int))).toNat = E.length + 1 by omega]
      rw [epart]
      generalize hpt : (A.drop at0).take (E.length + 1) = part
      have lpt : part.length = E.length + 1 := by rw [← hpt, List.length_take, List.length_drop]; omega
      have Ept : El p part := fun x hx => by rw [← hpt] at hx; exact h4 x (List.mem_of_mem_drop (List.mem_of_mem_take hx))
      rw [at_eq hp (E1.emod hp.1 _) hE Ept (by rw [lpt]; simp), Option.bind_some]
      generalize hnp : at_ p ((0 - q) % p) part (E ++ [1]) = np
      have lnp : np.length = E.length + 1 := by rw [← hnp, at_len (by rw [lpt]; simp), lpt]
      have Enp : El p np := by rw [← hnp]; exact at_el hp.1 _ _
      rw [show (0 : Int) + (at0 : Int) = (at0 : Int) by omega, lpt, cpy_at lnp (by omega)]
      generalize hA' : A.take at0 ++ np ++ A.drop (at0 + (E.length + 1)) = A'
      have lA' : A'.length = la := by rw [← hA']; simp [lnp]; omega
      have EA' : El p A' := by
        rw [← hA']
        exact (El.app (fun x hx => h4 x (List.mem_of_mem_take hx)) Enp).app (fun x hx => h4 x (List.mem_of_mem_drop hx))
      have tA' : A'.take hi = A.take at0 ++ np := by
        rw [← hA', hat]
        have : (A.take at0 ++ np).length = at0 + (E.length + 1) := by simp [lnp]; omega
        rw [← this, List.take_left']; rfl
      have tA : A.take hi = A.take at0 ++ part := by
        rw [hat, List.take_add, hpt]
      -- the next rest
      have hpv : ∀ x, Cg p (Alg.pv (A'.take hi) x) (Alg.pv (A.take hi) x - q * x ^ at0 * Alg.pv (E ++ [1]) x) := fun x => by
        have hl0 : (A.take at0).length = at0 := by rw [List.length_take]; omega
        rw [tA', tA, pv_app, pv_app, hl0]
        have h9 := pv_at (p := p) (c := (0 - q) % p) (t := part) (l := E ++ [1]) (by rw [lpt]; simp) x
        rw [hnp] at h9
        have h10 := h9.trans ((Cg.refl p (Alg.pv part x)).add ((Cg.emod p (0 - q)).mul (Cg.refl p (Alg.pv (E ++ [1]) x))))
        have h11 := (Cg.refl p (Alg.pv (A.take at0) x)).add ((Cg.refl p (x ^ at0)).mul h10)
        refine h11.trans (Cg.of ?_)
        rw [Int.mul_add]
        generalize Alg.pv (E ++ [1]) x = u
        generalize Alg.pv part x = v
        have e : x ^ at0 * ((0 - q) * u) = -(q * x ^ at0 * u) := by
          rw [Int.zero_sub, Int.neg_mul, Int.mul_neg, ← Int.mul_assoc, Int.mul_comm (x ^ at0) q]
        rw [e]; omega
      have hz : Alg.gd A' (hi - 1) = 0 := by
        have e1 : Alg.gd A' (hi - 1) = Alg.gd np E.length := by
          rw [← gd_take (n := hi) (hi - 1) (by omega), tA']
          have := gd_app2 (l := A.take at0) (m := np) E.length
          rw [List.length_take, Nat.min_eq_left (by omega)] at this
          rw [show hi - 1 = at0 + E.length by omega]; exact this
        have e2 : Alg.gd part E.length = Alg.gd A (hi - 1) := by
          rw [← hpt, gd_take _ (by omega), gd_drop, show at0 + E.length = hi - 1 by omega]
        have e3 := at_gd (p := p) (x := (0 - q) % p) (t := part) (l := E ++ [1]) (by rw [lpt]; simp) E.length
        rw [hnp, e2, gd_snoc] at e3
        rw [e1]
        have e4 := El.gd hp.1 Enp E.length
        refine Cg.small ?_ e4.1 e4.2
        refine e3.trans (((Cg.refl p _).add ((Cg.emod p (0 - q)).mul (Cg.refl p 1))).trans ?_)
        have := hqc.symm.sub0
        exact (Cg.of (by omega)).trans this
      have hpv2 : ∀ x, Cg p (Alg.pv (A'.take (hi - 1)) x) (Alg.pv (A'.take hi) x) := fun x => pv_cg (fun i => by
        rcases Nat.lt_or_ge i (hi - 1) with h9 | h9
        · rw [gd_take i h9, gd_take i (by omega)]; exact Cg.refl p _
        · rw [Alg.gd_ge (l := A'.take (hi - 1)) (by rw [List.length_take]; omega)]
          by_cases h10 : i = hi - 1
          · rw [gd_take i (by omega), h10, hz]; exact Cg.refl p _
          · rw [Alg.gd_ge (l := A'.take hi) (by rw [List.length_take]; omega)]; exact Cg.refl p _) x
      unfold poly_Divide_J2 psub3
      rw [e0, w64_id (x := (hi : Int) - 1) (by omega) (by omega), if_pos ⟨by omega, by omega⟩]
      unfold psub
      rw [if_pos ⟨by omega, by omega, by omega, by omega⟩]
      simp only [Option.bind_some]
      rw [lsub_ok (by omega) (by omega) (by omega)]
      simp only [Option.bind_some]
      have er : ((A'.drop ((0 : Int) + 0).toNat).take ((0 : Int) + ((hi : Int) - 1) - (0 + 0)).toNat) = A'.take (hi - 1) := by
        rw [show ((0 : Int) + 0).toNat = 0 by omega, show ((0 : Int) + ((hi : Int) - 1) - (0 + 0)).toNat = hi - 1 by omega, List.drop_zero]
      rw [er, trimp_eq (by rw [List.length_take]; omega)]
      simp only [Option.bind_some]
      have htn := tn_le (A'.take (hi - 1))
      rw [List.length_take] at htn
      rw [if_pos ⟨by omega, by omega, by omega, by omega⟩]
      simp only [Option.bind_some]
      have elt : (A'.take (hi - 1)).length = hi - 1 := by rw [List.length_take]; omega
      rw [elt, show ((0 : Int) + 0) = 0 by omega, cpy_self (by omega), show ((0 : Int) + (tn (A'.take (hi - 1)) : Int)) = (tn (A'.take (hi - 1)) : Int) by omega]
      have ht2 : A'.take (tn (A'.take (hi - 1))) = trim (A'.take (hi - 1)) := by
        unfold trim
        rw [List.take_take, Nat.min_eq_left (by omega)]
      refine div_L hp hE hb hby hla hEl f A' (Q.set at0 q) (tn (A'.take (hi - 1))) (by omega) lA' (by omega) EA' ?_ (by simp [h6]) (fun j hj => ?_) (fun x => ?_)
      · intro y hy
        rcases List.mem_or_eq_of_mem_set hy with hy | rfl
        · exact h5 y hy
        · exact hq1
      · have := h7 j (by omega)
        unfold Alg.gd at this ⊢
        rw [List.getD_eq_getElem?_getD, List.getElem?_set_ne (by omega), ← List.getD_eq_getElem?_getD]
        exact this
      · rw [ht2, pv_set x Q at0 q (by omega) (h7 at0 (by omega))]
        refine (h8 x).trans ?_
        have h9 := ((pv_trim (p := p) (A'.take (hi - 1)) x).trans (hpv2 x)).trans (hpv x)
        refine Cg.symm (((Cg.refl p _).add h9).trans (Cg.of ?_))
        rw [Int.add_mul]; omega
    · rw [if_neg (by omega)]
      unfold poly_Divide_J1
      rw [own_eq (by omega), Option.bind_some, lsub_ok (by omega) (by omega) (by omega)]
      simp only [Option.bind_some]
      have er : ((A.drop (0 : Int).toNat).take ((hi : Int) - 0).toNat) = A.take hi := by
        rw [show ((hi : Int) - 0).toNat = hi by omega]; simp
      rw [er, own_eq (by rw [List.length_take]; omega)]
      exact ⟨Q, A.take hi, rfl, h5, fun x hx => h4 x (List.mem_of_mem_take hx), h6, by rw [List.length_take]; omega, h8⟩
theorem divide_ok {p : Int} (hf : Fd p) {E a : List Int} (ha : El p a) (hal : a.length ≤ 500) (hE : El p E) (hEl : E.length ≤ 500) :
    ∃ Q r, poly_Divide p a (E ++ [1]) = some (trim Q, trim r, 0) ∧ El p Q ∧ El p r ∧ Q.length ≤ a.length - E.length ∧ r.length ≤ E.length ∧ ∀ x, Cg p (Alg.pv a x) (Alg.pv Q x * Alg.pv (E ++ [1]) x + Alg.pv r x) := by
  have hp := hf.rng
  have hE1 : El p (E ++ [1]) := hE.app (El.cons.2 ⟨⟨by omega, by omega⟩, El.nil⟩)
  have htl := trim_len a
  have htn := tn_le a
  unfold poly_Divide
  rw [open_ok hf (by
    intro x hx
    simp only [List.mem_cons, List.not_mem_nil, or_false] at hx
    rcases hx with rfl | rfl
    · exact ⟨ha, by omega⟩
    · exact ⟨hE1, by simp; omega⟩)]
  simp only [Option.bind_some]
  rw [if_neg (by simp), own_eq (by omega), Option.bind_some, trim_eq (by simp; omega), Option.bind_some, trim_snoc E (by omega), if_neg (by simp; omega)]
  rw [show ((E ++ [1] : List Int).length : Int) = ((E.length + 1 : Nat) : Int) by simp, w64_id (x := ((trim a).length : Int) - ((E.length + 1 : Nat) : Int)) (by omega) (by omega), w64_id (x := ((trim a).length : Int) - ((E.length + 1 : Nat) : Int) + 1) (by omega) (by omega)]
  have em : max 0 (((trim a).length : Int) - ((E.length + 1 : Nat) : Int) + 1) = (((trim a).length + 1 - (E.length + 1) : Nat) : Int) := by omega
  rw [em, lmk_ok _ (by omega), Option.bind_some, w64_id (by omega) (by omega), show ((E.length + 1 : Nat) : Int) - 1 = (E.length : Int) by omega, lidx_gd (by simp), Option.bind_some, gd_snoc]
  obtain ⟨b, b1, b2, b3⟩ := inv1_ok hf
  rw [b1, Option.bind_some]
  obtain ⟨Q, r, e1, e2, e3, e4, e5, e6⟩ := div_L hp (a := a) hE1 b2 b3 (la := (trim a).length) (by omega) (by omega) big (trim a) (List.replicate ((trim a).length + 1 - (E.length + 1)) 0) (trim a).length (by simp only [big]; omega) rfl (Nat.le_refl _) (trim_el ha) (zeros_el hp.1 _) (by simp) (fun j _ => gd_zeros _ j) (fun x => by
    rw [List.take_of_length_le (Nat.le_refl _), Alg.pv_zeros, Int.zero_mul, Int.zero_add]
    exact (pv_trim a x).symm)
  exact ⟨Q, r, e1, e2, e3, by omega, e5, e6⟩
theorem wrongs_L {p : Int} (hp : 2 ≤ p ∧ p ≤ 65521) {f g : List Int} (hg : El p g) (hgl : g.length ≤ 1000) (hfg : ∀ x, Cg p (Alg.pv g x) (Alg.pv f x)) : ∀ (l : List (Int × Bool)) (i : Nat) (acc : List Int), ((i + l.length : Nat) : Int) < p → acc.length + l.length ≤ 1000 → El p ((kn l i).map (·.2)) →
    unique_wrongs_L1 p g l i acc = some (acc ++ ((kn l i).filter (Alg.bad p f)).map (·.1))
  | [], i, acc, _, _, _ => by simp [unique_wrongs_L1, kn]
  | c :: l, i, acc, h1, h2, h3 => by
    simp only [List.length_cons] at h1 h2
    have ih := fun acc => wrongs_L hp hg hgl hfg l (i + 1) acc (by rw [show i + 1 + l.length = i + (l.length + 1) by omega]; exact h1)
    rw [unique_wrongs_L1]
    unfold unique_wrongs_B1
    unfold kn at h3 ⊢
    by_cases hk : c.2 = true
    · rw [if_pos hk] at h3 ⊢
      obtain ⟨hy, h3⟩ := El.cons.1 h3
      dsimp only at hy
      rw [if_pos hk, w64_id (by omega) (by omega)]
      obtain ⟨v, v1, v2, v3⟩ := value_ok hp hg (by omega) (x := (i : Int) + 1) ⟨by omega, by omega⟩
      rw [v1]
      simp only [Option.bind_some]
      have hb : Alg.bad p f ((i : Int) + 1, c.1) = decide (v ≠ c.1) := by
        cases hb : Alg.bad p f ((i : Int) + 1, c.1) with
        | false =>
          have h4 := Alg.bad_false hb
          have h5 := (v3.trans (hfg _)).trans h4
          have := h5.eq v2.1 v2.2 hy.1 hy.2
          simp [this]
        | true =>
          have h4 := Alg.bad_true hb
          have : v ≠ c.1 := fun e => h4 (((hfg _).symm.trans v3.symm).trans (Cg.of e))
          simp [this]
      rw [List.filter_cons, hb]
      by_cases hv : v ≠ c.1
      · rw [if_pos (by simp [hv]), if_pos (by simp [hv]), lapp_ok (by simp; omega), Option.bind_some, ih _ (by simp; omega) h3]
        simp
      · rw [if_neg (by simp [hv]), if_neg (by simp [hv]), ih _ (by omega) h3]
    · rw [if_neg hk] at h3 ⊢
      rw [if_neg hk]
      simp only [Option.bind_some]
      rw [if_neg (by simp), ih _ (by omega) h3]
end Go.Proofs.YtfcicopgdahmcaaGreatDoor
end

section
namespace Go.Proofs.YtfcicopgdahmcaaGreatDoor
open Alg (Cg Pr)
theorem apart_kn {p : Int} {l : List (Int × Bool)} (hlp : (l.length : Int) < p) : Alg.Apart p ((kn l 0).map (·.1)) := by
  unfold Alg.Apart
  refine List.Pairwise.imp_of_mem ?_ (kn_lt l 0)
  intro x y hx hy hlt hc
  obtain ⟨q, hq, rfl⟩ := List.mem_map.1 hx
  obtain ⟨r, hr, rfl⟩ := List.mem_map.1 hy
  have h1 := kn_mem l 0 q hq
  have h2 := kn_mem l 0 r hr
  have h3 : Cg p (r.1 - q.1) 0 := by
    have := (Cg.refl p 0).sub hc
    exact (Cg.of (by omega)).trans this
  have := h3.small (by omega) (by omega)
  omega
theorem decode_ok {p : Int} (hf : Fd p) {l : List (Int × Bool)} (hl : l.length ≤ 32) (hlp : (l.length : Int) < p) (hE : El p ((kn l 0).map (·.2))) {k : Nat} (hk : 1 ≤ k) (hk2 : k ≤ (kn l 0).length) {f : List Int} (hfe : El p f) (hfl : f.length ≤ k) {v : Nat} (hv : v = ((kn l 0).length - k) / 2) (hw : ((kn l 0).filter (Alg.bad p f)).length ≤ v) :
    unique_Decode p l (k : Int) = some ((trim f, ((kn l 0).filter (Alg.bad p f)).map (·.1)), 0) := by
  have hp := hf.rng
  have hkl := kn_len l 0
  obtain ⟨r0, hr0⟩ := fill_ok hf hl hlp hE hk hk2
  unfold unique_Decode unique_decode
  rw [hr0]
  simp only [Option.bind_some]
  rw [if_neg (by simp), count_eq hl, Option.bind_some]
  unfold unique_Radius
  rw [if_neg (by omega), if_neg (by omega)]
  simp only [Option.bind_some]
  have er : w64 (Int.tdiv (w64 (((kn l 0).length : Int) - (k : Int))) 2) = (v : Int) := by
    rw [w64_id (x := ((kn l 0).length : Int) - (k : Int)) (by omega) (by omega), Int.tdiv_eq_ediv_of_nonneg (by omega), w64_id (by omega) (by omega)]
    omega
  rw [er]
  have hK : k + v + v ≤ (kn l 0).length := by omega
  obtain ⟨C, Rt, e1, hKR⟩ := key_ok hf hl hlp hE hk hk2 (v := v) (by omega)
  rw [e1]
  simp only [Option.bind_some]
  rw [if_neg (by simp)]
  obtain ⟨hC, hRt⟩ := hKR.rw
  obtain ⟨lC, lR⟩ := hKR.len
  have hlr : Rt.length = C.length := by omega
  -- the matrix is the key equations'
  have hM : ∀ i (hi : i < (kn l 0).length) (j : Nat), j < k + v + v + 1 → Cg p (Alg.gd (gr (aug C Rt) i) j) (Alg.keyRow k v (kn l 0)[i] j) := fun i hi j hj => by
    obtain ⟨g1, g2⟩ := hKR.get i hi
    rw [aug_gr hlr (by omega)]
    have hg := (hC.gr (i := i) (by omega)).1
    rcases Nat.lt_or_ge j (k + v + v) with h | h
    · rw [gd_app j (by omega)]; exact g1 j h
    · have hj' : j = k + v + v := by omega
      rw [hj', ← hg, gd_snoc, hg]; exact g2
  have hsum : ∀ (z : Nat → Int), Alg.SolM p C.length (k + v + v + 1) (fun i j => Alg.gd (gr (aug C Rt) i) j) z ↔ ∀ i (hi : i < (kn l 0).length), Cg p (Alg.sm (k + v + v + 1) (fun j => Alg.keyRow k v (kn l 0)[i] j * z j)) 0 := fun z => by
    unfold Alg.SolM
    constructor
    · intro h i hi
      exact (Alg.sm_congr fun j hj => ((hM i hi j hj).symm.mul (Cg.refl p (z j)))).trans (h i (by omega))
    · intro h i hi
      exact (Alg.sm_congr fun j hj => ((hM i (by omega) j hj).mul (Cg.refl p (z j)))).trans (h i (by omega))
  obtain ⟨Q0, E0, hQ0, hE0, hs0⟩ := Alg.key_solvable (p := p) (f := f) (K := kn l 0) (k := k) (v := v) hfl hw
  obtain ⟨x, x1, x2, x3, x4⟩ := solve_ok hf hC hRt hlr (by omega) (by omega) (x0 := Alg.keySol k v Q0 E0) ((hsum _).2 fun i hi => by
    rw [Alg.key_sum k v Q0 E0 hQ0 hE0]
    exact hs0 _ (List.getElem_mem hi)) (by unfold Alg.keySol; rw [if_neg (by omega), if_neg (by omega)])
  rw [x1]
  simp only [Option.bind_some]
  rw [if_neg (by simp), w64_id (x := (k : Int) + (v : Int)) (by omega) (by omega), lsub_ok (by omega) (by omega) (by omega)]
  simp only [Option.bind_some]
  rw [lsub_ok (by omega) (by omega) (by omega)]
  simp only [Option.bind_some]
  have eQ : ((x.drop (0 : Int).toNat).take ((k : Int) + (v : Int) - 0).toNat) = x.take (k + v) := by
    rw [show ((k : Int) + (v : Int) - 0).toNat = k + v by omega]; simp
  have eE : ((x.drop ((k : Int) + (v : Int)).toNat).take ((x.length : Int) - ((k : Int) + (v : Int))).toNat) = x.drop (k + v) := by
    rw [show ((k : Int) + (v : Int)).toNat = k + v by omega, List.take_of_length_le (by rw [List.length_drop]; omega)]
  rw [eQ, eE]
  unfold slices_Clone_Lintint
  rw [lapp_ok (by simp; omega)]
  simp only [Option.bind_some, List.nil_append]
  rw [lapp_ok (by simp; omega)]
  simp only [Option.bind_some]
  generalize hQ : x.take (k + v) = Q
  generalize hEE : x.drop (k + v) = E
  have lQ : Q.length = k + v := by rw [← hQ, List.length_take]; omega
  have lE : E.length = v := by rw [← hEE, List.length_drop]; omega
  have EQ : El p Q := fun y hy => by rw [← hQ] at hy; exact x3 y (List.mem_of_mem_take hy)
  have EE : El p E := fun y hy => by rw [← hEE] at hy; exact x3 y (List.mem_of_mem_drop hy)
  have hsol : ∀ q ∈ kn l 0, Cg p (Alg.pv Q q.1 - q.2 * Alg.pv (E ++ [1]) q.1) 0 := fun q hq => by
    obtain ⟨i, hi, rfl⟩ := List.getElem_of_mem hq
    have := (hsum _).1 x4 i hi
    rw [← Alg.key_sum k v Q E (by omega) lE]
    refine (Cg.of (Alg.sm_eq fun j hj => ?_)).trans this
    congr 1
    unfold Alg.keySol
    by_cases h1 : j < k + v
    · rw [if_pos h1, if_pos (by omega), ← hQ, gd_take j h1]
    · rw [if_neg h1]
      by_cases h2 : j < k + v + v
      · rw [if_pos h2, if_pos h2, ← hEE, gd_drop, show k + v + (j - (k + v)) = j by omega]
      · rw [if_neg h2, if_neg h2]
  have hz := Alg.key_unique hf.pr hfl hw (by omega) (apart_kn hlp) (Q := Q) (E := E) (by omega) lE hsol
  unfold unique_decode_J1
  obtain ⟨g, r, d1, d2, d3, d4, d5, d6⟩ := divide_ok hf (E := E) EQ (by omega) EE (by omega)
  rw [d1]
  simp only [Option.bind_some]
  obtain ⟨hz1, hz2⟩ := Alg.quot_unique hf.pr hfl (by omega) (apart_kn hlp) (g := g) (r := r) lE hz (by omega) (by omega) d6
  have hr : trim r = [] := trim_nil fun i => by
    have := El.gd hp.1 d3 i
    exact (hz2 i).small this.1 this.2
  have hg : trim g = trim f := trim_ext fun i => by
    have a1 := El.gd hp.1 d2 i
    have a2 := El.gd hp.1 hfe i
    have := hz1 i
    rw [Alg.gd_padd, Alg.gd_psc] at this
    exact ((Cg.of_sub0 ((Cg.of (by omega)).trans this)).eq a2.1 a2.2 a1.1 a1.2).symm
  have htf := trim_len f
  have htn := tn_le f
  rw [hr, hg, if_neg (by simp; omega)]
  unfold unique_wrongs
  rw [wrongs_L hp (f := f) (trim_el hfe) (by omega) (fun x => pv_trim f x) l 0 [] (by simpa using hlp) (by simp; omega) hE]
  simp only [Option.bind_some, List.nil_append]
  rw [if_neg (by rw [List.length_map]; omega)]
  simp only [Option.bind_some]
  unfold errors_Is unique_number
  simp
end Go.Proofs.YtfcicopgdahmcaaGreatDoor
end

section
namespace Go.Proofs.YtfcicopgdahmcaaGreatDoor
open Alg (Cg Pr)
def col (L : List (Bool × List Int)) (j : Nat) : List (Int × Bool) := L.map fun a => (if a.1 = true then Alg.gd a.2 j else 0, a.1)
def AnsOK (p : Int) (w : Nat) (L : List (Bool × List Int)) : Prop := ∀ a ∈ L, a.1 = true → a.2.length = w ∧ El p a.2
theorem AnsOK.cons {p : Int} {w : Nat} {a : Bool × List Int} {L : List (Bool × List Int)} : AnsOK p w (a :: L) ↔ (a.1 = true → a.2.length = w ∧ El p a.2) ∧ AnsOK p w L := by unfold AnsOK; simp
def nk (L : List (Bool × List Int)) : Nat := (L.filter fun a => a.1).length
theorem kn_col_len : ∀ (L : List (Bool × List Int)) (j i : Nat), (kn (col L j) i).length = nk L
  | [], _, _ => rfl
  | a :: L, j, i => by
    have ih := kn_col_len L j (i + 1)
    unfold col nk at ih ⊢
    rw [List.map_cons, kn, List.filter_cons]
    by_cases h : a.1 = true
    · rw [if_pos h, List.length_cons, ih]; simp [h]
    · rw [if_neg h, ih]; simp [h]
theorem kn_col_el {p : Int} (hp : 2 ≤ p) {w : Nat} : ∀ (L : List (Bool × List Int)) (j i : Nat), AnsOK p w L → El p ((kn (col L j) i).map (·.2))
  | [], _, _, _ => El.nil
  | a :: L, j, i, h => by
    obtain ⟨h1, h⟩ := AnsOK.cons.1 h
    have ih := kn_col_el hp L j (i + 1) h
    unfold col at ih ⊢
    rw [List.map_cons, kn]
    by_cases hk : a.1 = true
    · rw [if_pos hk, List.map_cons]
      refine El.cons.2 ⟨?_, ih⟩
      dsimp only
      rw [if_pos hk]
      exact El.gd hp (h1 hk).2 j
    · rw [if_neg hk]; exact ih
theorem col_len (L : List (Bool × List Int)) (j : Nat) : (col L j).length = L.length := by simp [col]
theorem ccheck_L {p : Int} {w : Nat} (kx : Int → Bool → Int → Option Int) : ∀ (L : List (Bool × List Int)) (n : Nat), AnsOK p w L → n + L.length ≤ 1000 → columns_Check_L2 kx (w : Int) p L (n : Int) true = kx ((n + nk L : Nat) : Int) true p
  | [], n, _, _ => by simp [columns_Check_L2, nk]
  | a :: L, n, h, h2 => by
    obtain ⟨h1, h⟩ := AnsOK.cons.1 h
    simp only [List.length_cons] at h2
    rw [columns_Check_L2]
    unfold columns_Check_B2
    by_cases hk : a.1 = true
    · have e : nk (a :: L) = nk L + 1 := by unfold nk; rw [List.filter_cons, if_pos hk]; rfl
      rw [if_neg (by simp [hk]), if_neg (by have := (h1 hk).1; omega), if_pos rfl, all_eq]
      simp only [Option.bind_some, (h1 hk).2, decide_true]
      rw [w64_id (by omega) (by omega), show (n : Int) + 1 = ((n + 1 : Nat) : Int) by omega, ccheck_L kx L (n + 1) h (by omega), e]
      congr 2; omega
    · have e : nk (a :: L) = nk L := by unfold nk; rw [List.filter_cons, if_neg hk]
      have hk' : a.1 = false := by simpa using hk
      rw [if_pos (by simp [hk']), ccheck_L kx L n h (by omega), e]
theorem ccheck_ok {p : Int} {w : Nat} (hw : w ≤ 64) {L : List (Bool × List Int)} (h : AnsOK p w L) (hL : L.length ≤ 100) {need : Nat} (hn : need ≤ nk L) : columns_Check p (w : Int) (L.length : Int) (need : Int) L = some 0 := by
  unfold columns_Check
  rw [if_neg (by omega), if_neg (by omega)]
  have := ccheck_L (columns_Check_J1 (need : Int)) L 0 h (by omega)
  rw [show (0 : Int) = ((0 : Nat) : Int) from rfl, this]
  unfold columns_Check_J1
  rw [if_neg (by simp), if_neg (by omega)]
  rfl
theorem cells_col {p : Int} {w j : Nat} (hj : j < w) (kx : List (Int × Bool) → Int → Int → Option ((List Int × List Int) × Int)) (z1 z2 : Int) : ∀ (L : List (Bool × List Int)) (acc : List (Int × Bool)), AnsOK p w L → acc.length + L.length ≤ 1000 → columns_Columns_Decode_L3 kx (j : Int) z1 z2 L acc = kx (acc ++ col L j) z1 z2
  | [], acc, _, _ => by simp [columns_Columns_Decode_L3, col]
  | a :: L, acc, h, h2 => by
    obtain ⟨h1, h⟩ := AnsOK.cons.1 h
    simp only [List.length_cons] at h2
    rw [columns_Columns_Decode_L3]
    unfold columns_Columns_Decode_B3
    have ih := fun c => cells_col (p := p) hj kx z1 z2 L (acc ++ [c]) h (by simp; omega)
    by_cases hk : a.1 = true
    · rw [if_pos hk, lidx_gd (by rw [(h1 hk).1]; exact hj), Option.bind_some]
      unfold columns_Columns_Decode_J2
      rw [lapp_ok (by simp; omega), Option.bind_some, ih]
      congr 1
      unfold col
      rw [List.map_cons, if_pos hk, List.append_assoc]; rfl
    · rw [if_neg hk]
      unfold columns_Columns_Decode_J2
      rw [lapp_ok (by simp; omega), Option.bind_some, ih]
      congr 1
      unfold col
      rw [List.map_cons, if_neg hk, List.append_assoc]; rfl
structure Fit (p : Int) (k : Nat) (L : List (Bool × List Int)) (j : Nat) (f : List Int) : Prop where
  el : El p f
  len : f.length ≤ k
  few : ((kn (col L j) 0).filter (Alg.bad p f)).length ≤ (nk L - k) / 2
def wr (p : Int) (L : List (Bool × List Int)) (j : Nat) (f : List Int) : List Int := ((kn (col L j) 0).filter (Alg.bad p f)).map (·.1)
theorem coldec_ok {p : Int} (hf : Fd p) {w : Nat} {L : List (Bool × List Int)} (h : AnsOK p w L) (hL : L.length ≤ 32) (hLp : (L.length : Int) < p) {k : Nat} (hk : 1 ≤ k) (hn : k ≤ nk L) {j : Nat} (hj : j < w) {f : List Int} (hfit : Fit p k L j f) :
    columns_Columns_Decode (p, (k : Int), L) (j : Int) = some ((trim f, wr p L j f), 0) := by
  have hp := hf.rng
  unfold columns_Columns_Decode
  dsimp only
  rw [cells_col hj _ _ _ L [] h (by simp; omega), List.nil_append]
  unfold columns_Columns_Decode_J1
  have e := kn_col_len L j 0
  rw [decode_ok hf (l := col L j) (by rw [col_len]; exact hL) (by rw [col_len]; exact hLp) (kn_col_el hp.1 L j 0 h) hk (by rw [e]; exact hn) hfit.el hfit.len rfl (by rw [e]; exact hfit.few)]
  rfl
theorem cols_L {p : Int} (hf : Fd p) {w : Nat} (hw : w ≤ 64) {L : List (Bool × List Int)} (h : AnsOK p w L) (hL : L.length ≤ 32) (hLp : (L.length : Int) < p) {k : Nat} (hk : 1 ≤ k) (hn : k ≤ nk L) {F : Nat → List Int} (hF : ∀ j, j < w → Fit p k L j (F j)) (kx : List (List Int) → List Int → Int → Int → Option (List (List Int) × List Int × Int)) : ∀ (f j : Nat), j ≤ w → w - j < f →
    columns_Columns_All_L2 kx (w : Int) p (k : Int) L f ((List.range j).map fun t => trim (F t)) ((List.range j).map fun t => wr p L t (F t)).flatten (j : Int) = kx ((List.range w).map fun t => trim (F t)) ((List.range w).map fun t => wr p L t (F t)).flatten p (k : Int)
  | 0, j, _, h => by omega
  | f + 1, j, h1, h2 => by
    rw [columns_Columns_All_L2]
    unfold columns_Columns_All_B2
    by_cases hj : j < w
    · rw [if_pos (by omega), coldec_ok hf h hL hLp hk hn hj (hF j hj)]
      simp only [Option.bind_some]
      have hwl : ∀ t, (wr p L t (F t)).length ≤ 32 := fun t => by
        unfold wr
        rw [List.length_map]
        have h3 := List.length_filter_le (Alg.bad p (F t)) (kn (col L t) 0)
        have h4 := kn_len (col L t) 0
        rw [col_len] at h4
        omega
      have hfl : ∀ m : Nat, ((List.range m).map fun t => wr p L t (F t)).flatten.length ≤ m * 32 := fun m => by
        induction m with
        | zero => simp
        | succ m ih =>
          rw [List.range_succ, List.map_append, List.flatten_append, List.length_append]
          have := hwl m
          simp only [List.map_cons, List.map_nil, List.flatten_cons, List.flatten_nil, List.append_nil]
          omega
      have h3 := hfl j
      have h4 := hwl j
      rw [if_neg (by simp), lapp_ok (by simp; omega), Option.bind_some, lapp_ok (by omega), Option.bind_some, w64_id (by omega) (by omega), show (j : Int) + 1 = ((j + 1 : Nat) : Int) by omega]
      have ih := cols_L hf hw h hL hLp hk hn hF kx f (j + 1) (by omega) (by omega)
      rw [List.range_succ, List.map_append, List.map_append, List.flatten_append] at ih
      simpa using ih
    · rw [if_neg (by omega), show j = w by omega]
theorem all_cols {p : Int} (hf : Fd p) {w : Nat} (hw : w ≤ 64) {L : List (Bool × List Int)} (h : AnsOK p w L) (hL : L.length ≤ 32) (hLp : (L.length : Int) < p) {k : Nat} (hk : 1 ≤ k) (hn : k ≤ nk L) {F : Nat → List Int} (hF : ∀ j, j < w → Fit p k L j (F j)) :
    columns_Columns_All (p, (k : Int), L) (w : Int) = columns_Columns_All_J1 ((List.range w).map fun t => trim (F t)) ((List.range w).map fun t => wr p L t (F t)).flatten p (k : Int) := by
  unfold columns_Columns_All
  dsimp only
  have := cols_L hf hw h hL hLp hk hn hF columns_Columns_All_J1 big 0 (by omega) (by simp only [big]; omega)
  simpa using this
theorem sort_nil (P : List (List Int)) (a b : Int) : columns_Columns_All_J1 P [] a b = some (P, [], 0) := by
  have e : slices_Sort_Lintint [] = some [] := by kernel_rfl
  unfold columns_Columns_All_J1
  rw [e]
  rfl
theorem coeff_ok (f : List Int) (i : Nat) : columns_Coefficient (trim f) (i : Int) = some (Alg.gd f i) := by
  unfold columns_Coefficient
  by_cases h : i < (trim f).length
  · rw [if_pos (by omega), lidx_gd h, Option.bind_some, trim_gd]
  · rw [if_neg (by omega), ← trim_gd, Alg.gd_ge (by omega)]
theorem fit_right {p : Int} {k : Nat} {L : List (Bool × List Int)} {j : Nat} {f : List Int} (h1 : El p f) (h2 : f.length ≤ k) (h : ∀ i (hi : i < L.length), L[i].1 = true → Cg p (Alg.pv f ((i : Int) + 1)) (Alg.gd L[i].2 j)) : Fit p k L j f ∧ wr p L j f = [] := by
  have key : ∀ (M : List (Bool × List Int)) (i : Nat), L.drop i = M → (kn (col M j) i).filter (Alg.bad p f) = [] := fun M => by
    induction M with
    | nil => intro i _; rfl
    | cons a M ih =>
      intro i hd
      have hi : i < L.length := by
        rcases Nat.lt_or_ge i L.length with h2 | h2
        · exact h2
        · rw [List.drop_of_length_le h2] at hd; cases hd
      have ha : L[i] = a := by
        have := List.drop_eq_getElem_cons hi
        rw [hd] at this; exact (List.cons.inj this).1.symm
      have ih := ih (i + 1) (by rw [← List.drop_drop, hd]; rfl)
      unfold col at ih ⊢
      rw [List.map_cons, kn]
      by_cases hk : a.1 = true
      · rw [if_pos hk, List.filter_cons, ih]
        have hb : Alg.bad p f ((i : Int) + 1, if a.1 = true then Alg.gd a.2 j else 0) = false := by
          cases hb : Alg.bad p f ((i : Int) + 1, if a.1 = true then Alg.gd a.2 j else 0) with
          | false => rfl
          | true =>
            have := h i hi (by rw [ha]; exact hk)
            rw [ha] at this
            have h5 := Alg.bad_true hb
            simp only [hk, if_true] at h5
            exact absurd this h5
        rw [hb]; rfl
      · rw [if_neg hk]; exact ih
  have hkey := key L 0 rfl
  exact ⟨⟨h1, h2, by rw [hkey]; simp⟩, by unfold wr; rw [hkey]; rfl⟩
end Go.Proofs.YtfcicopgdahmcaaGreatDoor
end

section
namespace Go.Proofs.YtfcicopgdahmcaaGreatDoor
open Alg (Cg Pr)
def PlanOK (p : Int) (s d : Nat) : Prop := 2 ≤ s ∧ s ≤ 10 ∧ 1 ≤ d ∧ d < s ∧ (s : Int) < p
theorem cvcheck {p : Int} (hf : Fd p) {s d : Nat} (h : PlanOK p s d) : curve_Check p ((s : Int), (d : Int)) = some 0 := by
  obtain ⟨h1, h2, h3, h4, h5⟩ := h
  unfold curve_Check curve_valid
  rw [of_eq hf]
  simp only [Option.bind_some]
  rw [if_neg (by simp), decide_eq_true (by omega), if_neg (by simp; omega)]
theorem cvcheck2 {p : Int} (hf : Fd p) {s d : Nat} (h : PlanOK p s d) {n : Nat} (hn : 1 ≤ n ∧ n ≤ 1024) : curve_check p ((s : Int), (d : Int)) (n : Int) = some 0 := by
  unfold curve_check
  rw [cvcheck hf h, Option.bind_some, if_neg (by omega)]
theorem cvlimits_L {p : Int} {m : Nat} (hm : m ≤ 100000) : ∀ (f c : Nat), c ≤ m → m - c < f → curve_Limits_L1 (m : Int) p f (List.replicate c p) (c : Int) = some (List.replicate m p, 0)
  | 0, c, _, h => by omega
  | f + 1, c, h1, h2 => by
    rw [curve_Limits_L1]
    unfold curve_Limits_B1
    by_cases h : c < m
    · rw [if_pos (by omega), lapp_ok (by simp; omega), Option.bind_some, w64_id (by omega) (by omega), show (c : Int) + 1 = ((c + 1 : Nat) : Int) by omega, show List.replicate c p ++ [p] = List.replicate (c + 1) p by rw [List.replicate_succ']]
      exact cvlimits_L hm f (c + 1) (by omega) (by omega)
    · rw [if_neg (by omega), show c = m by omega]
theorem cvlimits {p : Int} (hf : Fd p) {s d : Nat} (h : PlanOK p s d) {n : Nat} (hn : 1 ≤ n ∧ n ≤ 1024) : curve_Limits p ((s : Int), (d : Int)) (n : Int) = some (List.replicate (n * d) p, 0) := by
  have h' := h
  obtain ⟨h1, h2, h3, h4, h5⟩ := h'
  unfold curve_Limits
  rw [cvcheck2 hf h hn, Option.bind_some, if_neg (by omega)]
  have hm : n * d ≤ 1024 * 10 := Nat.mul_le_mul hn.2 (by omega)
  dsimp only
  rw [show (n : Int) * (d : Int) = ((n * d : Nat) : Int) by simp, w64_id (by omega) (by omega)]
  exact cvlimits_L (by omega) big 0 (by omega) (by simp only [big]; omega)
theorem split_L2 (kx : (List Int) → Int → Int → Int → Option ((List (Int × Int)) × ((List Int) × Int) × Int)) (z1 z2 : Int) {s : Nat} (hs : s ≤ 500) : ∀ (f c : Nat), c ≤ s → s - c < f → share_Split_L2 kx (s : Int) z1 z2 f ((List.range c).map fun i => ((i + 1 : Nat) : Int)) (c : Int) = kx ((List.range s).map fun i => ((i + 1 : Nat) : Int)) 0 z1 z2
  | 0, c, _, h => by omega
  | f + 1, c, h1, h2 => by
    rw [share_Split_L2]
    unfold share_Split_B2
    by_cases h : c < s
    · rw [if_pos (by omega), w64_id (by omega) (by omega), lapp_ok (by simp; omega), Option.bind_some, show (c : Int) + 1 = ((c + 1 : Nat) : Int) by omega]
      have ih := split_L2 kx z1 z2 hs f (c + 1) (by omega) (by omega)
      rw [List.range_succ, List.map_append] at ih
      exact ih
    · rw [if_neg (by omega), show c = s by omega]
def Shs (p : Int) (c : List Int) (xs : List Int) (out : List (Int × Int)) : Prop := out.length = xs.length ∧ ∀ i (hi : i < xs.length), ∃ v, out[i]? = some (xs[i], v) ∧ E1 p v ∧ Cg p v (Alg.pv c xs[i])
theorem shares_L {p : Int} (hp : 2 ≤ p ∧ p ≤ 65521) {c : List Int} (hc : El p c) (hcl : c.length ≤ 1000) : ∀ (xs : List Int) (acc : List (Int × Int)), El p xs → acc.length + xs.length ≤ 1000 → ∃ out, share_shares_L1 p c xs acc = some (acc ++ out) ∧ Shs p c xs out
  | [], acc, _, _ => ⟨[], by simp [share_shares_L1], rfl, fun i hi => absurd hi (by simp)⟩
  | x :: xs, acc, h, h2 => by
    obtain ⟨hx, h⟩ := El.cons.1 h
    simp only [List.length_cons] at h2
    rw [share_shares_L1]
    unfold share_shares_B1
    obtain ⟨v, v1, v2, v3⟩ := value_ok hp hc (by omega) hx
    rw [v1, Option.bind_some, lapp_ok (by simp; omega), Option.bind_some]
    obtain ⟨out, e, o1, o2⟩ := shares_L hp hc hcl xs (acc ++ [(x, v)]) h (by simp; omega)
    refine ⟨(x, v) :: out, by rw [e]; simp, by simp [o1], fun i hi => ?_⟩
    cases i with
    | zero => exact ⟨v, rfl, v2, v3⟩
    | succ i => simpa using o2 i (by simpa using hi)
theorem split_ok {p : Int} (hf : Fd p) {sec : Int} (hsec : E1 p sec) {d s : Nat} (hd : d ≤ 9) (hs : 1 ≤ s ∧ s ≤ 500) (hsp : (s : Int) < p) {T : List Int} (hT : El p T) (hTl : T.length = d) :
    ∃ out t, share_Split p sec (d : Int) (s : Int) (T, 0) = some (out, t, 0) ∧ Shs p (sec :: T) ((List.range s).map fun i => ((i + 1 : Nat) : Int)) out := by
  have hp := hf.rng
  unfold share_Split residue_Field_Has share_threshold
  rw [of_eq hf]
  simp only [Option.bind_some]
  rw [if_neg (by simp), decide_eq_true (show 0 ≤ sec ∧ sec < p from hsec)]
  simp only [Option.bind_some]
  rw [if_neg (by simp), decide_eq_true (by omega), if_neg (by simp; omega)]
  have := draws_ok hp hT (n := d) (at0 := 0) (by omega) (by omega)
  rw [show ((0 : Nat) : Int) = 0 from rfl] at this
  rw [this]
  simp only [Option.bind_some]
  rw [if_neg (by simp)]
  have l2 := split_L2 (share_Split_J1 sec p T ((T.drop 0).take d)) ((0 + d : Nat) : Int) p hs.2 big 0 (by omega) (by simp only [big]; omega)
  rw [List.range_zero, List.map_nil, show ((0 : Nat) : Int) = 0 from rfl] at l2
  rw [l2]
  unfold share_Split_J1
  have eT : (T.drop 0).take d = T := by rw [List.drop_zero, List.take_of_length_le (by omega)]
  rw [eT, lapp_ok (by simp; omega), Option.bind_some]
  unfold share_shares
  obtain ⟨out, e, o⟩ := shares_L hp (c := sec :: T) (El.cons.2 ⟨hsec, hT⟩) (by simp; omega) ((List.range s).map fun i => ((i + 1 : Nat) : Int)) [] (fun x hx => by
    obtain ⟨i, hi, rfl⟩ := List.mem_map.1 hx
    have := List.mem_range.1 hi
    exact ⟨by omega, by omega⟩) (by simp; omega)
  rw [List.nil_append] at e
  rw [List.singleton_append, e]
  exact ⟨out, _, rfl, o⟩
def hid (d idx : Nat) (T : List Int) (i : Nat) : List Int := (if i = idx then 1 else 0) :: (T.drop (i * d)).take d
structure Qc (p : Int) (s d idx : Nat) (T : List Int) (m : Nat) (qs : List (List Int)) : Prop where
  len : qs.length = s
  rw : Rw p m qs
  val : ∀ k, k < s → ∀ i, i < m → Cg p (Alg.gd (gr qs k) i) (Alg.pv (hid d idx T i) ((k : Int) + 1))
theorem cq_L2 {p : Int} {d idx m : Nat} {T : List Int} (hm : m ≤ 2000) {s : Nat} (hs : s ≤ 10) {qs : List (List Int)} (hq : Qc p s d idx T m qs) {sh : List (Int × Int)} (hsh : Shs p (hid d idx T m) ((List.range s).map fun i => ((i + 1 : Nat) : Int)) sh) (rec : Int → (List (List Int)) → Int → Int → Int → Int → Int → Int → Option ((List (List Int)) × ((List Int) × Int) × Int)) (z1 z2 z3 z4 z5 z6 : Int) :
    ∀ (xs : List (Int × Int)) (k : Nat) (A : List (List Int)), sh.drop k = xs → A.length = s → (∀ i, i < k → (gr A i).length = m + 1 ∧ El p (gr A i) ∧ (∀ j, j < m → Alg.gd (gr A i) j = Alg.gd (gr qs i) j) ∧ Cg p (Alg.gd (gr A i) m) (Alg.pv (hid d idx T m) ((i : Int) + 1))) → (∀ i, k ≤ i → gr A i = gr qs i) →
    ∃ qs', curve_Queries_L2 rec (m : Int) z1 z2 z3 z4 z5 z6 xs k A = rec ((m + 1 : Nat) : Int) qs' z1 z2 z3 z4 z5 z6 ∧ Qc p s d idx T (m + 1) qs'
  | [], k, A, hd, h1, h2, h3 => by
    have hk : s ≤ k := by
      have := congrArg List.length hd
      have h4 := hsh.1
      simp at this h4; omega
    rw [curve_Queries_L2, w64_id (by omega) (by omega), show (m : Int) + 1 = ((m + 1 : Nat) : Int) by omega]
    refine ⟨A, rfl, h1, fun r hr => ?_, fun i hi j hj => ?_⟩
    · obtain ⟨i, hi, rfl⟩ := List.getElem_of_mem hr
      rw [← gr_lt hi]
      have := h2 i (by omega)
      exact ⟨this.1, this.2.1⟩
    · obtain ⟨a, b, c, e⟩ := h2 i (by omega)
      by_cases hj2 : j < m
      · rw [c j hj2]; exact hq.val i hi j hj2
      · rw [show j = m by omega]; exact e
  | x :: xs, k, A, hd, h1, h2, h3 => by
    have hk : k < sh.length := by
      rcases Nat.lt_or_ge k sh.length with h | h
      · exact h
      · rw [List.drop_of_length_le h] at hd; cases hd
    have hks : k < s := by have := hsh.1; simp at this; omega
    obtain ⟨v, v1, v2, v3⟩ := hsh.2 k (by simpa using hks)
    have hx : x = (((k + 1 : Nat) : Int), v) := by
      have h5 := List.drop_eq_getElem_cons hk
      rw [hd] at h5
      rw [(List.cons.inj h5).1]
      have h6 := List.getElem?_eq_getElem hk
      rw [h6] at v1
      simpa using v1
    have hqk := hq.rw.gr (i := k) (by have := hq.len; omega)
    rw [curve_Queries_L2]
    unfold curve_Queries_B2
    rw [lidx_gr (by omega), h3 k (Nat.le_refl _)]
    simp only [Option.bind_some]
    rw [lapp_ok (by simp; omega)]
    simp only [Option.bind_some]
    rw [lupd_nat (by omega), Option.bind_some]
    refine cq_L2 hm hs hq hsh rec z1 z2 z3 z4 z5 z6 xs (k + 1) _ (by rw [← List.drop_drop, hd]; rfl) (by simp [h1]) (fun i hi => ?_) (fun i hi => ?_)
    · rw [gr_set (by omega)]
      by_cases e : i = k
      · rw [if_pos e, e]
        subst e
        refine ⟨by simp [hqk.1], hqk.2.app (El.cons.2 ⟨by rw [hx]; exact v2, El.nil⟩), fun j hj => gd_app j (by omega), ?_⟩
        have : Alg.gd (gr qs i ++ [x.2]) m = x.2 := by
          have := gd_snoc (gr qs i) x.2
          rwa [hqk.1] at this
        rw [this, hx]
        simpa using v3
      · rw [if_neg e]; exact h2 i (by omega)
    · rw [gr_set (by omega), if_neg (by omega)]; exact h3 i (by omega)
theorem cq_L5 {p : Int} (hf : Fd p) {s d n idx : Nat} (h : PlanOK p s d) (hn : n ≤ 1024) {T : List Int} (hT : El p T) (hTl : T.length = n * d) (kx : (List Int) → (List (List Int)) → Int → Int → Int → Int → Int → Int → Option ((List (List Int)) × ((List Int) × Int) × Int)) (z1 z2 z3 : Int) : ∀ (f m : Nat) (qs : List (List Int)), m ≤ n → n - m < f → Qc p s d idx T m qs →
    ∃ qs', curve_Queries_L5 kx (idx : Int) T (n : Int) f (m : Int) qs z1 z2 z3 (s : Int) (d : Int) p = kx T qs' z1 z2 z3 (s : Int) (d : Int) p ∧ Qc p s d idx T n qs'
  | 0, m, qs, _, h2, _ => by omega
  | f + 1, m, qs, h1, h2, h3 => by
    have h' := h
    obtain ⟨p1, p2, p3, p4, p5⟩ := h'
    have hp := hf.rng
    rw [curve_Queries_L5]
    unfold curve_Queries_B5
    by_cases hm : m < n
    · rw [if_pos (by omega)]
      have key : ∀ sec : Int, sec = (if m = idx then 1 else 0) → ∃ qs', (curve_Queries_J4 (curve_Queries_L5 kx (idx : Int) T (n : Int) f) (m : Int) T z1 z2 z3 (s : Int) (d : Int) p qs) sec = kx T qs' z1 z2 z3 (s : Int) (d : Int) p ∧ Qc p s d idx T n qs' := fun sec hsec => by
        have m1 : (m + 1) * d ≤ n * d := Nat.mul_le_mul_right _ hm
        have m2 : n * d ≤ 1024 * 10 := Nat.mul_le_mul hn (by omega)
        have m3 : (m + 1) * d = m * d + d := by rw [Nat.add_mul, Nat.one_mul]
        unfold curve_Queries_J4
        rw [w64_id (x := (m : Int) + 1) (by omega) (by omega), show (m : Int) * (d : Int) = ((m * d : Nat) : Int) by simp, show ((m : Int) + 1) * (d : Int) = (((m + 1) * d : Nat) : Int) by simp, w64_id (x := ((m * d : Nat) : Int)) (by omega) (by omega), w64_id (x := (((m + 1) * d : Nat) : Int)) (by omega) (by omega), lsub_ok (by omega) (by omega) (by omega)]
        simp only [Option.bind_some]
        have e1 : ((T.drop ((m * d : Nat) : Int).toNat).take ((((m + 1) * d : Nat) : Int) - ((m * d : Nat) : Int)).toNat) = (T.drop (m * d)).take d := by
          rw [Int.toNat_natCast, show ((((m + 1) * d : Nat) : Int) - ((m * d : Nat) : Int)).toNat = d by omega]
        rw [e1]
        obtain ⟨out, t, o1, o2⟩ := split_ok hf (sec := sec) (by rw [hsec]; split <;> exact ⟨by omega, by omega⟩) (d := d) (s := s) (by omega) (by omega) p5 (T := (T.drop (m * d)).take d) (fun x hx => hT x (List.mem_of_mem_drop (List.mem_of_mem_take hx))) (by rw [List.length_take, List.length_drop]; omega)
        rw [o1]
        simp only [Option.bind_some]
        unfold curve_Queries_J3
        rw [if_neg (by simp)]
        have e2 : sec :: (T.drop (m * d)).take d = hid d idx T m := by unfold hid; rw [hsec]
        rw [e2] at o2
        obtain ⟨qs', q1, q2⟩ := cq_L2 (by omega) p2 h3 o2 (curve_Queries_L5 kx (idx : Int) T (n : Int) f) z1 z2 z3 (s : Int) (d : Int) p out 0 qs rfl h3.len (fun i hi => by omega) (fun i _ => rfl)
        rw [q1]
        exact cq_L5 hf h hn hT hTl kx z1 z2 z3 f (m + 1) qs' (by omega) (by omega) q2
      by_cases e : m = idx
      · rw [if_pos (by omega)]; exact key 1 (by rw [if_pos e])
      · rw [if_neg (by omega)]; exact key 0 (by rw [if_neg e])
    · rw [if_neg (by omega)]
      have : m = n := by omega
      subst this
      exact ⟨qs, rfl, h3⟩
theorem cqueries_ok {p : Int} (hf : Fd p) {s d n idx : Nat} (h : PlanOK p s d) (hn : 1 ≤ n ∧ n ≤ 1024) (hi : idx < n) {T : List Int} (hT : El p T) (hTl : T.length = n * d) :
    ∃ qs t, curve_Queries p ((s : Int), (d : Int)) (n : Int) (idx : Int) (T, 0) = some (qs, t, 0) ∧ Qc p s d idx T n qs := by
  have h' := h
  obtain ⟨p1, p2, p3, p4, p5⟩ := h'
  have hp := hf.rng
  have m2 : n * d ≤ 1024 * 10 := Nat.mul_le_mul hn.2 (by omega)
  unfold curve_Queries
  rw [cvcheck2 hf h hn, Option.bind_some, if_neg (by omega), if_neg (by omega)]
  dsimp only
  rw [show (n : Int) * (d : Int) = ((n * d : Nat) : Int) by simp, w64_id (by omega) (by omega)]
  have := draws_ok hp hT (n := n * d) (at0 := 0) (by omega) (by omega)
  rw [show ((0 : Nat) : Int) = 0 from rfl] at this
  rw [this]
  simp only [Option.bind_some]
  rw [if_neg (by simp), lmk_ok _ (by omega), Option.bind_some]
  have eT : (T.drop 0).take (n * d) = T := by rw [List.drop_zero, List.take_of_length_le (by omega)]
  rw [eT]
  obtain ⟨qs, q1, q2⟩ := cq_L5 hf h hn.2 hT hTl (idx := idx) (curve_Queries_J1 T) ((0 + n * d : Nat) : Int) 0 0 big 0 (List.replicate s []) (by omega) (by simp only [big]; omega) { len := by simp, rw := fun r hr => by rw [(List.mem_replicate.1 hr).2]; exact ⟨rfl, El.nil⟩, val := fun k hk i hi => absurd hi (by omega) }
  rw [show ((0 : Nat) : Int) = 0 from rfl] at q1
  rw [q1]
  unfold curve_Queries_J1
  rw [lapp_ok (by simp; omega)]
  exact ⟨qs, _, rfl, q2⟩
end Go.Proofs.YtfcicopgdahmcaaGreatDoor
end

section
namespace Go.Proofs.YtfcicopgdahmcaaGreatDoor
set_option linter.unusedVariables false
theorem order_L1 {l : List Int} (hl : l.length ≤ 1000) : ∀ (m fuel : Nat) (rest out : List Int) (d : List Int × Int), rest.length = m → m < fuel → m + out.length ≤ 1000 → Dk l d →
    ∃ r e, make_Order_L1 fuel rest out d.1 d.2 = some (r, e) ∧ Dk l e ∧ r.Perm (out ++ rest)
  | 0, fuel + 1, rest, out, d, hr, _, _, hd => by
    have : rest = [] := List.eq_nil_of_length_eq_zero hr
    subst this
    rw [make_Order_L1]
    unfold make_Order_B1
    rw [if_neg (by simp)]
    exact ⟨out, (d.1, d.2), rfl, hd, by simp⟩
  | m + 1, fuel + 1, rest, out, d, hr, hf, hm, hd => by
    rw [make_Order_L1]
    unfold make_Order_B1
    rw [if_pos (by omega)]
    obtain ⟨v, e1, h1, a1, b1, c1⟩ := next_ok hl (d := (d.1, d.2)) hd (n := (rest.length : Int)) (by omega)
    rw [h1]
    simp only [Option.bind_some]
    have hk : v.toNat < rest.length := by omega
    rw [lidx_ok 0 a1 b1]
    simp only [Option.bind_some]
    rw [lapp_ok (by simp; omega)]
    simp only [Option.bind_some]
    have hs3 : lsub3 rest 0 v v = some (rest.take v.toNat) := by
      unfold lsub3
      rw [if_pos ⟨Int.le_refl _, by omega⟩, lsub_ok (by omega) a1 (by omega)]
      simp
    have hs : lsub rest (w64 (v + 1)) (rest.length : Int) = some (rest.drop (v.toNat + 1)) := by
      rw [w64_id (by omega) (by omega), lsub_ok (by omega) (by omega) (by omega), show (v + 1).toNat = v.toNat + 1 from by omega]
      congr 1
      exact List.take_of_length_le (by simp; omega)
    rw [hs3, hs]
    simp only [Option.bind_some]
    rw [lapp_ok (by simp; omega)]
    simp only [Option.bind_some]
    have hsplit : rest = rest.take v.toNat ++ rest.getD v.toNat 0 :: rest.drop (v.toNat + 1) := by
      rw [List.getD_eq_getElem?_getD, List.getElem?_eq_getElem hk, Option.getD_some, ← List.drop_eq_getElem_cons hk, List.take_append_drop]
    obtain ⟨r, e, k1, k2, k3⟩ := order_L1 hl m fuel (rest.take v.toNat ++ rest.drop (v.toNat + 1)) (out ++ [rest.getD v.toNat 0]) e1 (by simp; omega) (by omega) (by simp; omega) c1
    refine ⟨r, e, k1, k2, k3.trans ?_⟩
    conv => rhs; rw [hsplit]
    rw [List.append_assoc]
    refine List.Perm.append_left _ ?_
    rw [List.singleton_append]
    exact List.perm_middle.symm
theorem order_L3 {l : List Int} (n : Nat) (z2 : Int) (kx : List Int → Int → Option (List Int × List Int × Int)) : ∀ (m k fuel : Nat), k + m = n → m < fuel → n ≤ 1000 → make_Order_L3 kx (n : Int) z2 fuel ((List.range k).map fun (i : Nat) => (i : Int)) (k : Int) = kx ((List.range n).map fun (i : Nat) => (i : Int)) z2
  | 0, k, fuel + 1, hk, _, _ => by
    simp at hk; subst hk
    rw [make_Order_L3]
    unfold make_Order_B3
    rw [if_neg (by omega)]
  | m + 1, k, fuel + 1, hk, hf, hn => by
    rw [make_Order_L3]
    unfold make_Order_B3
    rw [if_pos (by omega), lapp_ok (by simp; omega)]
    simp only [Option.bind_some]
    rw [w64_id (by omega) (by omega)]
    have := order_L3 (l := l) n z2 kx m (k + 1) fuel (by omega) (by omega) hn
    rw [List.range_succ, List.map_append] at this
    exact_mod_cast this
theorem order_ok {l : List Int} (hl : l.length ≤ 1000) {d : List Int × Int} (hd : Dk l d) {n : Nat} (hn : n ≤ 500) : ∃ r e, make_Order d n = some (r, e) ∧ Dk l e ∧ r.Perm ((List.range n).map fun (i : Nat) => (i : Int)) := by
  unfold make_Order
  have := order_L3 (l := l) n d.2 (make_Order_J2 d.1) n 0 big (by omega) (by simp only [big]; omega) (by omega)
  simp only [List.range_zero, List.map_nil] at this
  rw [show ((0 : Nat) : Int) = 0 from rfl] at this
  rw [this]
  unfold make_Order_J2
  obtain ⟨r, e, h1, h2, h3⟩ := order_L1 hl n big ((List.range n).map fun (i : Nat) => (i : Int)) [] d (by simp) (by simp only [big]; omega) (by simp; omega) hd
  exact ⟨r, e, h1, h2, by simpa using h3⟩
end Go.Proofs.YtfcicopgdahmcaaGreatDoor
end

section
namespace Go.Proofs.YtfcicopgdahmcaaGreatDoor
open Alg (Cg Pr)
def mixf (p : Int) (n k : Nat) (c : Nat → List Int) (R : List (List Int)) (j : Nat) : List Int := (List.range k).map fun t => Alg.sm n (fun r => Alg.gd (c r) t * Alg.gd (gr R r) j) % p
theorem mixf_el {p : Int} (hp : 2 ≤ p) (n k : Nat) (c : Nat → List Int) (R : List (List Int)) (j : Nat) : El p (mixf p n k c R j) := fun x hx => by
  obtain ⟨t, _, rfl⟩ := List.mem_map.1 hx
  exact E1.emod hp _
theorem mixf_gd {p : Int} {n k : Nat} {c : Nat → List Int} {R : List (List Int)} {j t : Nat} (ht : t < k) : Alg.gd (mixf p n k c R j) t = Alg.sm n (fun r => Alg.gd (c r) t * Alg.gd (gr R r) j) % p := by
  simp [mixf, Alg.gd, List.getD_eq_getElem?_getD, ht]
theorem mixf_pv {p : Int} {n k : Nat} {c : Nat → List Int} {R : List (List Int)} {j : Nat} (hc : ∀ r, r < n → (c r).length ≤ k) (x : Int) : Cg p (Alg.pv (mixf p n k c R j) x) (Alg.sm n (fun r => Alg.pv (c r) x * Alg.gd (gr R r) j)) := by
  have hl : (mixf p n k c R j).length = k := by simp [mixf]
  rw [Alg.pv_sm, hl]
  have h1 : Cg p (Alg.sm k (fun t => Alg.gd (mixf p n k c R j) t * x ^ t)) (Alg.sm k (fun t => Alg.sm n (fun r => Alg.gd (c r) t * x ^ t * Alg.gd (gr R r) j))) := Alg.sm_congr fun t ht => by
    rw [mixf_gd ht]
    refine ((Cg.emod p _).mul (Cg.refl p (x ^ t))).trans (Cg.of ?_)
    rw [← sm_mul_right]
    refine Alg.sm_eq fun r _ => ?_
    rw [Int.mul_assoc, Int.mul_assoc, Int.mul_comm (x ^ t)]
  refine h1.trans (Cg.of ?_)
  rw [sm_swap (fun t r => Alg.gd (c r) t * x ^ t * Alg.gd (gr R r) j)]
  refine Alg.sm_eq fun r hr => ?_
  rw [sm_mul_right (Alg.gd (gr R r) j) (fun t => Alg.gd (c r) t * x ^ t), Alg.pv_sm_le x (hc r hr)]
theorem hid_len {d idx : Nat} {T : List Int} (i : Nat) : (hid d idx T i).length ≤ d + 1 := by
  unfold hid
  rw [List.length_cons, List.length_take]; omega
theorem mix_row {p : Int} (hp : 2 ≤ p) {n d idx k : Nat} {T : List Int} {R : List (List Int)} {w : Nat} (hR : Rw p w R) (hn : R.length = n) (hi : idx < n) (hk : 0 < k) (j : Nat) : Alg.gd (mixf p n k (hid d idx T) R j) 0 = Alg.gd (gr R idx) j := by
  have hr := El.gd hp (hR.gr (i := idx) (by omega)).2 j
  rw [mixf_gd hk]
  have h1 : Cg p (Alg.sm n (fun r => Alg.gd (hid d idx T r) 0 * Alg.gd (gr R r) j)) (Alg.gd (gr R idx) j) := by
    have := Alg.sm_one (p := p) (f := fun r => Alg.gd (hid d idx T r) 0 * Alg.gd (gr R r) j) (q := idx) (n := n) (fun i _ h => Cg.of (by simp [hid, Alg.gd, h])) hi
    exact this.trans (Cg.of (by simp [hid, Alg.gd]))
  have h2 := E1.emod hp (Alg.sm n (fun r => Alg.gd (hid d idx T r) 0 * Alg.gd (gr R r) j))
  exact ((Cg.emod p _).trans h1).eq h2.1 h2.2 hr.1 hr.2
theorem cdec_L2 (kx : (List Int) → Int → Int → Int → Int → Int → Option (((List Int) × (List Int)) × Int)) (z1 z2 z3 z4 : Int) : ∀ (xs : List (List Int)) (acc : List Int), (∀ x ∈ xs, ∃ y, x = trim y) → acc.length + xs.length ≤ 1000 →
    curve_Decode_L2 kx z1 z2 z3 z4 xs acc = kx (acc ++ xs.map fun x => Alg.gd x 0) z1 z2 z3 z4 z1
  | [], acc, _, _ => by simp [curve_Decode_L2]
  | x :: xs, acc, h2, h3 => by
    simp only [List.length_cons] at h3
    obtain ⟨y, rfl⟩ := h2 x List.mem_cons_self
    rw [curve_Decode_L2]
    unfold curve_Decode_B2
    have := coeff_ok y 0
    rw [show ((0 : Nat) : Int) = 0 from rfl] at this
    rw [this, Option.bind_some, lapp_ok (by simp; omega), Option.bind_some]
    have e := trim_gd y 0
    rw [cdec_L2 kx z1 z2 z3 z4 xs (acc ++ [Alg.gd y 0]) (fun z hz => h2 z (List.mem_cons_of_mem _ hz)) (by simp; omega)]
    rw [List.map_cons, e]; simp
theorem cdec_ok {p : Int} (hf : Fd p) {s d : Nat} (h : PlanOK p s d) {w : Nat} (hw : w ≤ 64) {L : List (Bool × List Int)} (hL : AnsOK p w L) (hLl : L.length = s) (hn : d + 1 ≤ nk L) {F : Nat → List Int} (hF : ∀ j, j < w → Fit p (d + 1) L j (F j)) {W : List Int}
    (hW : columns_Columns_All_J1 ((List.range w).map fun t => trim (F t)) ((List.range w).map fun t => wr p L t (F t)).flatten p ((d + 1 : Nat) : Int) = some ((List.range w).map fun t => trim (F t), W, 0)) :
    curve_Decode p ((s : Int), (d : Int)) (w : Int) L = some (((List.range w).map fun j => Alg.gd (F j) 0, W), 0) := by
  have h' := h
  obtain ⟨p1, p2, p3, p4, p5⟩ := h'
  unfold curve_Decode
  rw [cvcheck hf h]
  simp only [Option.bind_some]
  rw [if_neg (by simp), w64_id (x := (d : Int) + 1) (by omega) (by omega), show (d : Int) + 1 = ((d + 1 : Nat) : Int) by omega]
  have hc := ccheck_ok hw hL (by omega) hn
  rw [hLl] at hc
  rw [hc]
  simp only [Option.bind_some]
  rw [if_neg (by simp), all_cols hf hw hL (by omega) (by omega) (by omega) hn hF, hW]
  simp only [Option.bind_some]
  rw [if_neg (by simp), cdec_L2 _ _ _ _ _ _ [] (fun x hx => by
      obtain ⟨t, _, rfl⟩ := List.mem_map.1 hx
      exact ⟨_, rfl⟩) (by simp; omega)]
  unfold curve_Decode_J1
  simp only [List.nil_append, List.map_map]
  congr 3
  refine List.map_congr_left fun t _ => ?_
  exact trim_gd (F t) 0
theorem mkans_L5 (kx : List (Bool × List Int) → Int → Int → Option (List (Bool × List Int) × List Int × (List Int × Int))) (z1 z2 : Int) : ∀ (As : List (List Int)) (acc : List (Bool × List Int)), (∀ a ∈ As, a.length ≤ 1000) → acc.length + As.length ≤ 1000 → make_Answers_L5 kx z1 z2 As acc = kx (acc ++ As.map fun a => (true, a)) z1 z2
  | [], acc, _, _ => by simp [make_Answers_L5]
  | a :: As, acc, h, h2 => by
    have ha := h a List.mem_cons_self
    simp only [List.length_cons] at h2
    rw [make_Answers_L5]
    unfold make_Answers_B5
    rw [lapp_ok (by simp; omega), Option.bind_some, lapp_ok (by simp; omega), Option.bind_some, mkans_L5 kx z1 z2 As _ (fun b hb => h b (List.mem_cons_of_mem _ hb)) (by simp; omega)]
    simp
theorem mkans_L3 (kx : List (Bool × List Int) → List Bool → List Int → Int → Int → Option (List (Bool × List Int) × List Int × (List Int × Int))) (As : List (List Int)) (z : Int) : ∀ (xs : List Int) (i : Nat) (v1 : List (Bool × List Int)) (v2 : List Bool) (v3 : List Int) (v4 : Int), make_Answers_L3 kx As 0 0 z xs i v1 v2 v3 v4 = kx v1 v2 v3 v4 z
  | [], _, _, _, _, _ => rfl
  | x :: xs, i, v1, v2, v3, v4 => by
    rw [make_Answers_L3]
    unfold make_Answers_B3
    rw [if_neg (by omega)]
    simp only [Option.bind_some]
    have : w64 (0 + 0) = 0 := rfl
    rw [if_neg (by simp), if_neg (by rw [this]; omega)]
    exact mkans_L3 kx As z xs (i + 1) v1 v2 v3 v4
theorem mkans_L1 (z1 : List Int) (z2 : Int) (L : List (Bool × List Int)) : ∀ (n i : Nat), make_Answers_L1 z1 z2 L (List.replicate n false) i [] = some (L, [], (z1, z2))
  | 0, _ => rfl
  | n + 1, i => by
    rw [List.replicate_succ, make_Answers_L1]
    unfold make_Answers_B1
    rw [if_neg (by simp)]
    exact mkans_L1 z1 z2 L n (i + 1)
theorem mkans0 {l : List Int} (hl : l.length ≤ 1000) {dk : List Int × Int} (hd : Dk l dk) {p : Int} {As : List (List Int)} (hA : ∀ a ∈ As, a.length ≤ 1000) (hn : As.length ≤ 500) : ∃ e, make_Answers dk p As 0 0 = some (As.map fun a => (true, a), [], e) ∧ Dk l e := by
  obtain ⟨d1, d2⟩ := dk
  have e1 := hd.1
  dsimp only at e1
  unfold make_Answers
  rw [mkans_L5 _ _ _ As [] hA (by simp; omega), List.nil_append]
  unfold make_Answers_J4
  rw [lmk_ok _ (by omega), Option.bind_some]
  obtain ⟨r, e, o1, o2, o3⟩ := order_ok hl hd hn
  rw [o1, Option.bind_some, mkans_L3]
  unfold make_Answers_J2
  rw [mkans_L1]
  exact ⟨_, rfl, o2⟩
theorem read_L2 (kx : List (List Int) → Option (((List Int) × (List Int)) × (List Int) × Bool × ((List Int) × Int))) {p : Int} {w : Nat} {R : List (List Int)} (z1 : List Int) (z2 : Int) : ∀ (qs As acc : List (List Int)), Ans p w R qs As → acc.length + qs.length ≤ 1000 → top_read_L2 kx (w : Int) R z1 z2 p qs acc = kx (acc ++ As)
  | [], As, acc, h, _ => by
    have : As = [] := List.eq_nil_of_length_eq_zero (by simpa using h.len)
    subst this
    simp [top_read_L2]
  | q :: qs, [], acc, h, _ => by have := h.len; simp at this
  | q :: qs, a :: As, acc, h, h2 => by
    simp only [List.length_cons] at h2
    have h3 := h.ans 0 (by simp)
    have hA : Ans p w R qs As := { len := by simpa using h.len, rw := (Rw.cons.1 h.rw).2, ans := fun k hk => h.ans (k + 1) (by simpa using hk), sum := fun k hk => h.sum (k + 1) (by simpa using hk) }
    rw [top_read_L2]
    unfold top_read_B2
    rw [show gr (q :: qs) 0 = q from rfl, show gr (a :: As) 0 = a from rfl] at h3
    rw [h3]
    simp only [Option.bind_some]
    rw [if_neg (by simp), lapp_ok (by simp; omega), Option.bind_some, read_L2 kx z1 z2 qs As _ hA (by simp; omega)]
    simp
theorem ans_fit {p : Int} (hp : 2 ≤ p) {s d n idx : Nat} {T : List Int} {w : Nat} {R qs As : List (List Int)} (hRn : R.length = n) (hq : Qc p s d idx T n qs) (hA : Ans p w R qs As) (j : Nat) (k : Nat) (hk : k < s) :
    Cg p (Alg.pv (mixf p n (d + 1) (hid d idx T) R j) ((k : Int) + 1)) (Alg.gd (gr As k) j) := by
  have h1 := hA.sum k (by rw [hq.len]; exact hk) j
  rw [hRn] at h1
  refine (mixf_pv (fun r _ => hid_len r) _).trans (Cg.symm (h1.trans (Alg.sm_congr fun i hi => (hq.val k hk i hi).mul (Cg.refl p _))))
theorem read0_ok {p : Int} (hf : Fd p) {s d n idx w : Nat} (h : PlanOK p s d) (hn : 1 ≤ n ∧ n ≤ 1024) (hi : idx < n) (hw : w ≤ 64) {R : List (List Int)} (hR : Rw p w R) (hRn : R.length = n) {l : List Int} (hl : l.length ≤ 1000) {dk : List Int × Int} (hd : Dk l dk) :
    ∃ e, top_read dk p ((s : Int), (d : Int)) (w : Int) R (idx : Int) 0 0 = some ((gr R idx, []), [], true, e) ∧ Dk l e := by
  have h' := h
  obtain ⟨p1, p2, p3, p4, p5⟩ := h'
  have hp := hf.rng
  have m2 : n * d ≤ 1024 * 10 := Nat.mul_le_mul hn.2 (by omega)
  unfold top_read
  rw [hRn, cvlimits hf h hn]
  simp only [Option.bind_some]
  obtain ⟨T, e1, s1, s2, s3, s4⟩ := seed_ok hl hd hp (m := n * d) (by omega)
  rw [s1]
  simp only [Option.bind_some]
  obtain ⟨qs, t, q1, q2⟩ := cqueries_ok hf h hn hi s3 s2
  rw [q1]
  simp only [Option.bind_some]
  unfold top_read_J3
  rw [if_neg (by simp)]
  obtain ⟨As, hA⟩ := ans_ok hf hw hR (qs := qs) (by rw [hRn]; exact q2.rw)
  have lq := q2.len
  have lA := hA.len
  rw [read_L2 _ _ _ qs As [] hA (by simp; omega), List.nil_append]
  unfold top_read_J1
  obtain ⟨e2, a1, a2⟩ := mkans0 hl (dk := (e1.1, e1.2)) s4 (p := p) (As := As) (fun a ha => by have := (hA.rw a ha).1; omega) (by omega)
  rw [a1]
  simp only [Option.bind_some]
  have hL : AnsOK p w (As.map fun a => (true, a)) := fun a ha _ => by
    obtain ⟨b, hb, rfl⟩ := List.mem_map.1 ha
    exact hA.rw b hb
  have hnk : nk (As.map fun a => (true, a)) = s := by
    have : (As.map fun a => (true, a)).filter (fun a => a.1) = As.map fun a => (true, a) := List.filter_eq_self.2 fun a ha => by
      obtain ⟨b, hb, rfl⟩ := List.mem_map.1 ha; rfl
    unfold nk
    rw [this]; simp; omega
  have hfit : ∀ j, Fit p (d + 1) (As.map fun a => (true, a)) j (mixf p n (d + 1) (hid d idx T) R j) ∧ wr p (As.map fun a => (true, a)) j (mixf p n (d + 1) (hid d idx T) R j) = [] := fun j =>
    fit_right (mixf_el hp.1 _ _ _ _ _) (by simp [mixf]) fun i hi2 _ => by
      have hi3 : i < As.length := by simpa using hi2
      have := ans_fit hp.1 hRn q2 hA j i (by omega)
      rw [gr_lt hi3] at this
      simpa using this
  have hwr : ((List.range w).map fun t => wr p (As.map fun a => (true, a)) t (mixf p n (d + 1) (hid d idx T) R t)).flatten = [] := by
    rw [List.flatten_eq_nil_iff]
    intro x hx
    obtain ⟨t, _, rfl⟩ := List.mem_map.1 hx
    exact (hfit t).2
  rw [cdec_ok hf h hw hL (by simp; omega) (by rw [hnk]; omega) (F := fun j => mixf p n (d + 1) (hid d idx T) R j) (fun j _ => (hfit j).1) (by rw [hwr]; exact sort_nil _ _ _)]
  simp only [Option.bind_some]
  have erow : ((List.range w).map fun j => Alg.gd (mixf p n (d + 1) (hid d idx T) R j) 0) = gr R idx := by
    have hg := hR.gr (i := idx) (by omega)
    refine List.ext_getElem (by simp [hg.1]) fun i h1 h2 => ?_
    rw [List.getElem_map, List.getElem_range, mix_row hp.1 hR hRn hi (by omega)]
    simp [Alg.gd, List.getD_eq_getElem?_getD, h2]
  rw [erow]
  exact ⟨e2, rfl, a2⟩
end Go.Proofs.YtfcicopgdahmcaaGreatDoor
end

section
namespace Go.Proofs.YtfcicopgdahmcaaGreatDoor
open Alg (Cg Pr)
def StOK (p : Int) (s D G : Nat) : Prop := 2 ≤ s ∧ s ≤ 10 ∧ (s : Int) < p ∧ 1 ≤ D ∧ 1 ≤ G ∧ 2 * G + D ≤ s + 1
theorem cdcheck {p : Int} (hf : Fd p) {s D G : Nat} (h : StOK p s D G) : coded_Check p ((s : Int), (D : Int), (G : Int)) = some 0 := by
  obtain ⟨h1, h2, h3, h4, h5, h6⟩ := h
  unfold coded_Check
  rw [of_eq hf]
  simp only [Option.bind_some]
  rw [if_neg (by simp), w64_id (x := 2 * (G : Int)) (by omega) (by omega), w64_id (x := 2 * (G : Int) + D) (by omega) (by omega), w64_id (x := 2 * (G : Int) + D - 1) (by omega) (by omega), if_neg (by omega)]
theorem cdcheck2 {p : Int} (hf : Fd p) {s D G : Nat} (h : StOK p s D G) {m : Nat} (hm : 1 ≤ m ∧ m ≤ 1024) : coded_check p ((s : Int), (D : Int), (G : Int)) (m : Int) = some 0 := by
  unfold coded_check
  rw [cdcheck hf h, Option.bind_some, if_neg (by omega)]
theorem cdlimits_L {p : Int} {m : Nat} (hm : m ≤ 100000) : ∀ (f c : Nat), c ≤ m → m - c < f → coded_Limits_L1 (m : Int) p f (List.replicate c p) (c : Int) = some (List.replicate m p, 0)
  | 0, c, _, h => by omega
  | f + 1, c, h1, h2 => by
    rw [coded_Limits_L1]
    unfold coded_Limits_B1
    by_cases h : c < m
    · rw [if_pos (by omega), lapp_ok (by simp; omega), Option.bind_some, w64_id (by omega) (by omega), show (c : Int) + 1 = ((c + 1 : Nat) : Int) by omega, show List.replicate c p ++ [p] = List.replicate (c + 1) p by rw [List.replicate_succ']]
      exact cdlimits_L hm f (c + 1) (by omega) (by omega)
    · rw [if_neg (by omega), show c = m by omega]
theorem cdlimits {p : Int} (hf : Fd p) {s D G : Nat} (h : StOK p s D G) {m : Nat} (hm : 1 ≤ m ∧ m ≤ 1024) : coded_Limits p ((s : Int), (D : Int), (G : Int)) (m : Int) = some (List.replicate (m * D) p, 0) := by
  have h' := h
  obtain ⟨h1, h2, h3, h4, h5, h6⟩ := h'
  unfold coded_Limits
  rw [cdcheck2 hf h hm, Option.bind_some, if_neg (by omega)]
  have hm' : m * D ≤ 1024 * 10 := Nat.mul_le_mul hm.2 (by omega)
  dsimp only
  rw [show (m : Int) * (D : Int) = ((m * D : Nat) : Int) by simp, w64_id (by omega) (by omega)]
  exact cdlimits_L (by omega) big 0 (by omega) (by simp only [big]; omega)
def ngr (n G : Nat) : Nat := (n + G - 1) / G
theorem ngr_lt {n G g : Nat} (hG : 1 ≤ G) : g < ngr n G ↔ g * G < n := by
  unfold ngr
  rw [Nat.lt_div_iff_mul_lt (by omega)]
  omega
theorem ngr_pos {n G : Nat} (hG : 1 ≤ G) (hn : 1 ≤ n) : 1 ≤ ngr n G := (ngr_lt hG).2 (by omega)
theorem ngr_le {n G : Nat} (hG : 1 ≤ G) : ngr n G ≤ n := by
  rcases Nat.lt_or_ge n (ngr n G) with h | h
  · have := (ngr_lt hG).1 h
    have h2 : n * 1 ≤ n * G := Nat.mul_le_mul_left _ hG
    omega
  · exact h
theorem groups_ok {s D G n : Nat} (hG : 1 ≤ G) (hn : n ≤ 1024) : coded_Groups ((s : Int), (D : Int), (G : Int)) (n : Int) = some ((ngr n G : Int), 0) := by
  unfold coded_Groups
  dsimp only
  rw [if_neg (by omega), nz_ok (by omega)]
  simp only [Option.bind_some]
  rw [Int.tdiv_eq_ediv_of_nonneg (by omega), Int.tmod_eq_emod_of_nonneg (by omega)]
  have hd : n / G ≤ n := Nat.div_le_self _ _
  have e1 : (n : Int) / (G : Int) = ((n / G : Nat) : Int) := by simp
  have e2 : (n : Int) % (G : Int) = ((n % G : Nat) : Int) := by simp
  have hdm := Nat.div_add_mod n G
  have hlt := Nat.mod_lt n (show 0 < G by omega)
  rw [e1, e2]
  have key : ngr n G = if 0 < n % G then n / G + 1 else n / G := by
    apply Nat.le_antisymm
    · rcases Nat.lt_or_ge (if 0 < n % G then n / G + 1 else n / G) (ngr n G) with h | h
      · have h3 := (ngr_lt hG).1 h
        split at h3
        · rw [Nat.add_mul, Nat.one_mul, Nat.mul_comm] at h3; omega
        · rw [Nat.mul_comm] at h3; omega
      · exact h
    · split
      · exact (ngr_lt hG).2 (by rw [Nat.mul_comm]; omega)
      · rcases Nat.lt_or_ge (ngr n G) (n / G) with h | h
        · have := mt (ngr_lt (n := n) (g := ngr n G) hG).2 (Nat.lt_irrefl _)
          have h4 : (ngr n G + 1) * G ≤ n / G * G := Nat.mul_le_mul_right _ h
          rw [Nat.add_mul, Nat.one_mul, Nat.mul_comm (n / G)] at h4
          omega
        · exact h
  rw [key]
  clear key e1 e2 hdm hlt
  generalize n / G = c at *
  generalize n % G = r at *
  split
  · rw [if_pos (by omega), w64_id (x := (c : Int)) (by omega) (by omega), w64_id (by omega) (by omega)]; rfl
  · rw [if_neg (by omega), w64_id (by omega) (by omega)]
def drw (D : Nat) (T : List Int) (g : Nat) : List Int := (T.drop (g * D)).take D
theorem cdq_L4 {p : Int} (hp : 2 ≤ p ∧ p ≤ 65521) {D G m grp : Nat} (hD : D ≤ 10) (hG : G ≤ 10) (hm : m ≤ 1024) {T : List Int} (hT : El p T) (hTl : T.length = m * D) {k : Nat} (hk : (k : Int) + 1 < p) (kx : (List Int) → Int → Int → Int → Int → Int → Int → Option ((List (List Int)) × ((List Int) × Int) × Int)) (z1 z2 z3 z6 : Int) :
    ∀ (f g : Nat) (acc : List Int), g ≤ m → m - g < f → acc.length = g → El p acc → (∀ i, i < g → Cg p (Alg.gd acc i) (((k : Int) + 1) ^ G * Alg.pv (drw D T i) ((k : Int) + 1) + if i = grp then 1 else 0)) →
    ∃ q, coded_Queries_L4 kx ((k : Int) + 1) (m : Int) (grp : Int) T p z1 z2 z3 (D : Int) (G : Int) z6 f acc (g : Int) = kx q z1 z2 z3 (D : Int) (G : Int) z6 ∧ q.length = m ∧ El p q ∧ ∀ i, i < m → Cg p (Alg.gd q i) (((k : Int) + 1) ^ G * Alg.pv (drw D T i) ((k : Int) + 1) + if i = grp then 1 else 0)
  | 0, g, acc, _, h, _, _, _ => by omega
  | f + 1, g, acc, h1, h2, h3, h4, h5 => by
    rw [coded_Queries_L4]
    unfold coded_Queries_B4
    by_cases hg : g < m
    · have m1 : (g + 1) * D ≤ m * D := Nat.mul_le_mul_right _ hg
      have m2 : m * D ≤ 1024 * 10 := Nat.mul_le_mul hm hD
      have m3 : (g + 1) * D = g * D + D := by rw [Nat.add_mul, Nat.one_mul]
      rw [if_pos (by omega), w64_id (x := (g : Int) + 1) (by omega) (by omega), show (g : Int) * (D : Int) = ((g * D : Nat) : Int) by simp, show ((g : Int) + 1) * (D : Int) = (((g + 1) * D : Nat) : Int) by simp, w64_id (x := ((g * D : Nat) : Int)) (by omega) (by omega), w64_id (x := (((g + 1) * D : Nat) : Int)) (by omega) (by omega), lsub_ok (by omega) (by omega) (by omega)]
      simp only [Option.bind_some]
      have e1 : ((T.drop ((g * D : Nat) : Int).toNat).take ((((g + 1) * D : Nat) : Int) - ((g * D : Nat) : Int)).toNat) = drw D T g := by
        rw [Int.toNat_natCast, show ((((g + 1) * D : Nat) : Int) - ((g * D : Nat) : Int)).toNat = D by omega]; rfl
      rw [e1]
      have hdr : El p (drw D T g) := fun x hx => hT x (List.mem_of_mem_drop (List.mem_of_mem_take hx))
      have hdl : (drw D T g).length ≤ D := by unfold drw; rw [List.length_take]; omega
      have hx1 : E1 p ((k : Int) + 1) := ⟨by omega, hk⟩
      obtain ⟨a, a1, a2, a3⟩ := power_ok hp hx1 (n := G) (by omega)
      obtain ⟨b, b1, b2, b3⟩ := value_ok hp hdr (by omega) hx1
      rw [a1, Option.bind_some, b1, Option.bind_some, mul_eq hp a2 b2, Option.bind_some]
      have hmc : Cg p (a * b % p) (((k : Int) + 1) ^ G * Alg.pv (drw D T g) ((k : Int) + 1)) := (Cg.emod p _).trans (a3.mul b3)
      have key : ∀ y, E1 p y → Cg p y (((k : Int) + 1) ^ G * Alg.pv (drw D T g) ((k : Int) + 1) + if g = grp then 1 else 0) → ∃ q, (coded_Queries_J3 (coded_Queries_L4 kx ((k : Int) + 1) (m : Int) (grp : Int) T p z1 z2 z3 (D : Int) (G : Int) z6 f) (g : Int) acc) y = kx q z1 z2 z3 (D : Int) (G : Int) z6 ∧ q.length = m ∧ El p q ∧ ∀ i, i < m → Cg p (Alg.gd q i) (((k : Int) + 1) ^ G * Alg.pv (drw D T i) ((k : Int) + 1) + if i = grp then 1 else 0) := fun y hy hc => by
        unfold coded_Queries_J3
        rw [lapp_ok (by simp; omega), Option.bind_some, w64_id (by omega) (by omega), show (g : Int) + 1 = ((g + 1 : Nat) : Int) by omega]
        refine cdq_L4 hp hD hG hm hT hTl hk kx z1 z2 z3 z6 f (g + 1) (acc ++ [y]) (by omega) (by omega) (by simp; omega) (h4.app (El.cons.2 ⟨hy, El.nil⟩)) fun i hi => ?_
        by_cases hig : i < g
        · rw [gd_app i (by omega)]; exact h5 i hig
        · have e : i = acc.length := by omega
          rw [e, gd_snoc, h3]; exact hc
      by_cases e : g = grp
      · rw [if_pos (by omega), add_eq hp (E1.emod hp.1 _) ⟨by omega, by omega⟩, Option.bind_some]
        refine key _ (E1.emod hp.1 _) ?_
        rw [if_pos e]
        exact (Cg.emod p _).trans (hmc.add (Cg.refl p 1))
      · rw [if_neg (by omega)]
        refine key _ (E1.emod hp.1 _) ?_
        rw [if_neg e, Int.add_zero]; exact hmc
    · rw [if_neg (by omega)]
      have : g = m := by omega
      subst this
      exact ⟨acc, rfl, h3, h4, h5⟩
structure Qd (p : Int) (s D G m grp : Nat) (T : List Int) (qs : List (List Int)) : Prop where
  len : qs.length = s
  rw : Rw p m qs
  val : ∀ k, k < s → ∀ i, i < m → Cg p (Alg.gd (gr qs k) i) (((k : Int) + 1) ^ G * Alg.pv (drw D T i) ((k : Int) + 1) + if i = grp then 1 else 0)
theorem cdq_L5 {p : Int} (hp : 2 ≤ p ∧ p ≤ 65521) {D G m grp : Nat} (hD : D ≤ 10) (hG : G ≤ 10) (hm : m ≤ 1024) {T : List Int} (hT : El p T) (hTl : T.length = m * D) {s : Nat} (hs : s ≤ 10) (hsp : (s : Int) < p) (kx : (List (List Int)) → Int → Int → Int → Int → Int → Int → Option ((List (List Int)) × ((List Int) × Int) × Int)) (z1 z2 : Int) : ∀ (f k : Nat) (qs : List (List Int)), k ≤ s → s - k < f → Qd p k D G m grp T qs →
    ∃ qs', coded_Queries_L5 kx (m : Int) (grp : Int) T p f qs ((k : Int) + 1) z1 z2 (s : Int) (D : Int) (G : Int) p = kx qs' z1 z2 (s : Int) (D : Int) (G : Int) p ∧ Qd p s D G m grp T qs'
  | 0, k, qs, _, h, _ => by omega
  | f + 1, k, qs, h1, h2, h3 => by
    have hlen := h3.len
    rw [coded_Queries_L5]
    unfold coded_Queries_B5
    by_cases hk : k < s
    · rw [if_pos (by omega)]
      obtain ⟨q, q1, q2, q3, q4⟩ := cdq_L4 hp hD hG hm hT hTl (k := k) (grp := grp) (by omega) (coded_Queries_J2 (coded_Queries_L5 kx (m : Int) (grp : Int) T p f) ((k : Int) + 1) qs) z1 z2 (s : Int) p big 0 [] (by omega) (by simp only [big]; omega) rfl El.nil (fun i hi => by omega)
      rw [show ((0 : Nat) : Int) = 0 from rfl] at q1
      rw [q1]
      unfold coded_Queries_J2
      rw [lapp_ok (by simp; omega), Option.bind_some, w64_id (by omega) (by omega), show (k : Int) + 1 + 1 = ((k + 1 : Nat) : Int) + 1 by omega]
      refine cdq_L5 hp hD hG hm hT hTl hs hsp kx z1 z2 f (k + 1) (qs ++ [q]) (by omega) (by omega) { len := by simp [hlen], rw := fun r hr => ?_, val := fun j hj i hi => ?_ }
      · rcases List.mem_append.1 hr with hr | hr
        · exact h3.rw r hr
        · rw [List.mem_singleton.1 hr]; exact ⟨q2, q3⟩
      · by_cases hjk : j < k
        · have : gr (qs ++ [q]) j = gr qs j := by
            unfold gr
            rw [List.getD_eq_getElem?_getD, List.getD_eq_getElem?_getD, List.getElem?_append_left (by omega)]
          rw [this]; exact h3.val j hjk i hi
        · have e : j = k := by omega
          have : gr (qs ++ [q]) j = q := by
            unfold gr
            rw [List.getD_eq_getElem?_getD, List.getElem?_append_right (by omega), e, hlen, Nat.sub_self]; rfl
          rw [this, e]; exact q4 i hi
    · rw [if_neg (by omega)]
      have : k = s := by omega
      subst this
      exact ⟨qs, rfl, h3⟩
theorem cdqueries_ok {p : Int} (hf : Fd p) {s D G m grp : Nat} (h : StOK p s D G) (hm : 1 ≤ m ∧ m ≤ 1024) (hg : grp < m) {T : List Int} (hT : El p T) (hTl : T.length = m * D) :
    ∃ qs t, coded_Queries p ((s : Int), (D : Int), (G : Int)) (m : Int) (grp : Int) (T, 0) = some (qs, t, 0) ∧ Qd p s D G m grp T qs := by
  have h' := h
  obtain ⟨p1, p2, p3, p4, p5, p6⟩ := h'
  have hp := hf.rng
  have m2 : m * D ≤ 1024 * 10 := Nat.mul_le_mul hm.2 (by omega)
  unfold coded_Queries
  rw [cdcheck2 hf h hm, Option.bind_some, if_neg (by omega), if_neg (by omega)]
  dsimp only
  rw [show (m : Int) * (D : Int) = ((m * D : Nat) : Int) by simp, w64_id (by omega) (by omega)]
  have := draws_ok hp hT (n := m * D) (at0 := 0) (by omega) (by omega)
  rw [show ((0 : Nat) : Int) = 0 from rfl] at this
  rw [this]
  simp only [Option.bind_some]
  have eT : (T.drop 0).take (m * D) = T := by rw [List.drop_zero, List.take_of_length_le (by omega)]
  rw [if_neg (by simp), eT]
  obtain ⟨qs, q1, q2⟩ := cdq_L5 hp (D := D) (G := G) (m := m) (grp := grp) (by omega) (by omega) hm.2 hT hTl p2 p3 (coded_Queries_J1 T) 0 ((0 + m * D : Nat) : Int) big 0 [] (by omega) (by simp only [big]; omega) { len := rfl, rw := fun r hr => (by cases hr), val := fun k hk => absurd hk (by omega) }
  rw [show ((0 : Nat) : Int) + 1 = 1 from rfl] at q1
  rw [q1]
  exact ⟨qs, _, rfl, q2⟩
end Go.Proofs.YtfcicopgdahmcaaGreatDoor
end

section
namespace Go.Proofs.YtfcicopgdahmcaaGreatDoor
open Alg (Cg Pr)
theorem rng_from {α : Type} (g : Nat → α) {c k : Nat} (h : k < c) : (List.range (c - k)).map (fun t => g (k + t)) = g k :: (List.range (c - (k + 1))).map fun t => g (k + 1 + t) := by
  rw [show c - k = (c - (k + 1)) + 1 by omega, List.range_succ_eq_map, List.map_cons, List.map_map]
  congr 1
  refine List.map_congr_left fun t _ => ?_
  show g (k + (t + 1)) = _
  congr 1; omega
def grp (R : List (List Int)) (G g : Nat) : List (List Int) := (R.drop (g * G)).take G
theorem grp_rw {p : Int} {w : Nat} {R : List (List Int)} (h : Rw p w R) (G g : Nat) : Rw p w (grp R G g) := fun r hr => h r (List.mem_of_mem_drop (List.mem_of_mem_take hr))
theorem groups_L {R : List (List Int)} {G : Nat} (hG : 1 ≤ G ∧ G ≤ 100) (hn : R.length ≤ 1024) : ∀ (f g : Nat), g ≤ ngr R.length G → ngr R.length G - g < f → coded_groups_f1_L1 (G : Int) R f (g : Int) = some ((List.range (ngr R.length G - g)).map fun t => (((g + t : Nat) : Int), grp R G (g + t)))
  | 0, g, _, h => by omega
  | f + 1, g, h1, h2 => by
    have hle := ngr_le (n := R.length) hG.1
    have hgg : g * G ≤ 1024 * 100 := Nat.mul_le_mul (by omega) hG.2
    have hg1 : (g + 1) * G = g * G + G := by rw [Nat.add_mul, Nat.one_mul]
    rw [coded_groups_f1_L1]
    unfold coded_groups_f1_B1
    rw [show (g : Int) * (G : Int) = ((g * G : Nat) : Int) by simp, w64_id (x := ((g * G : Nat) : Int)) (by omega) (by omega)]
    have hiff := ngr_lt (n := R.length) (g := g) hG.1
    by_cases hg : g < ngr R.length G
    · have hlt := hiff.1 hg
      rw [if_pos (by omega), w64_id (x := (g : Int) + 1) (by omega) (by omega), show ((g : Int) + 1) * (G : Int) = (((g + 1) * G : Nat) : Int) by simp, w64_id (x := (((g + 1) * G : Nat) : Int)) (by omega) (by omega), lsub_ok (by omega) (by omega) (by omega)]
      simp only [Option.bind_some]
      rw [show (g : Int) + 1 = ((g + 1 : Nat) : Int) by omega, groups_L hG hn f (g + 1) (by omega) (by omega), rng_from (fun t => (((t : Nat) : Int), grp R G t)) hg]
      have e : ((R.drop ((g * G : Nat) : Int).toNat).take (min (((g + 1) * G : Nat) : Int) (R.length : Int) - ((g * G : Nat) : Int)).toNat) = grp R G g := by
        unfold grp
        rw [Int.toNat_natCast]
        by_cases hc : (g + 1) * G ≤ R.length
        · rw [show (min (((g + 1) * G : Nat) : Int) (R.length : Int) - ((g * G : Nat) : Int)).toNat = G by omega]
        · rw [show (min (((g + 1) * G : Nat) : Int) (R.length : Int) - ((g * G : Nat) : Int)).toNat = R.length - g * G by omega, List.take_of_length_le (by rw [List.length_drop]; omega), List.take_of_length_le (by rw [List.length_drop]; omega)]
      rw [e]; rfl
    · have hlt := mt hiff.2 hg
      rw [if_neg (by omega), show ngr R.length G - g = 0 by omega]; rfl
theorem groups_eq {R : List (List Int)} {G : Nat} (hG : 1 ≤ G ∧ G ≤ 100) (hn : R.length ≤ 1024) : coded_groups R (G : Int) = some ((List.range (ngr R.length G)).map fun t => (((t : Nat) : Int), grp R G t)) := by
  have hle := ngr_le (n := R.length) hG.1
  unfold coded_groups coded_groups_f1
  have := groups_L hG hn big 0 (by omega) (by simp only [big]; omega)
  rw [show ((0 : Nat) : Int) = 0 from rfl] at this
  rw [this, Option.bind_some, Nat.sub_zero]
  simp only [Nat.zero_add]
def hc (R : List (List Int)) (G g j : Nat) : List Int := (grp R G g).map fun r => Alg.gd r j
theorem hold_L3 {p : Int} (hp : 2 ≤ p ∧ p ≤ 65521) {w : Nat} {x : Int} (hx : E1 p x) (kx : (List Int) → Int → Int → Int → Int → Int → Int → Int → Option ((List (List Int)) × Int)) (z2 z3 z4 z5 z6 : Int) : ∀ (xs : List (List Int)) (i : Nat) (v : List Int), Rw p w xs → i + xs.length ≤ 1000 → v.length = w → El p v →
    ∃ v', coded_Hold_L3 kx p x z2 z3 z4 z5 z6 xs i v = kx v' p x z2 z3 z4 z5 z6 ∧ v'.length = w ∧ El p v' ∧ ∀ j, Cg p (Alg.gd v' j) (Alg.gd v j + x ^ i * Alg.pv (xs.map fun r => Alg.gd r j) x)
  | [], i, v, _, _, h1, h2 => ⟨v, rfl, h1, h2, fun j => Cg.of (by simp [Alg.pv])⟩
  | r :: xs, i, v, h, h0, h1, h2 => by
    obtain ⟨⟨a, b⟩, h⟩ := Rw.cons.1 h
    simp only [List.length_cons] at h0
    rw [coded_Hold_L3]
    unfold coded_Hold_B3
    obtain ⟨c, c1, c2, c3⟩ := power_ok hp hx (n := i) (by omega)
    rw [c1, Option.bind_some, at_eq hp c2 b h2 (by omega), Option.bind_some]
    obtain ⟨v', e1, e2, e3, e4⟩ := hold_L3 hp hx kx z2 z3 z4 z5 z6 xs (i + 1) (at_ p c v r) h (by omega) (by rw [at_len (by omega)]; exact h1) (at_el hp.1 _ _)
    refine ⟨v', e1, e2, e3, fun j => (e4 j).trans ?_⟩
    have h5 := (at_gd (p := p) (x := c) (t := v) (l := r) (by omega) j).trans ((Cg.refl p _).add (c3.mul (Cg.refl p (Alg.gd r j))))
    refine (h5.add (Cg.refl p _)).trans (Cg.of ?_)
    rw [List.map_cons, Alg.pv, Int.pow_succ, Int.mul_add]
    generalize Alg.pv (xs.map fun r => Alg.gd r j) x = u
    have : x ^ i * x * u = x ^ i * (u * x) := by rw [Int.mul_assoc, Int.mul_comm x u]
    omega
structure Hld (p : Int) (w m G : Nat) (R : List (List Int)) (x : Int) (H : List (List Int)) : Prop where
  len : H.length = m
  rw : Rw p w H
  val : ∀ g, g < m → ∀ j, Cg p (Alg.gd (gr H g) j) (Alg.pv (hc R G g j) x)
theorem hold_L4 {p : Int} (hp : 2 ≤ p ∧ p ≤ 65521) {w G : Nat} (hw : w ≤ 64) (hG : G ≤ 100) {x : Int} (hx : E1 p x) {R : List (List Int)} (hR : Rw p w R) {m : Nat} (hm : m ≤ 1024) (kx : (List (List Int)) → Int → Int → Int → Int → Int → Int → Int → Option ((List (List Int)) × Int)) (z3 z4 z5 z6 : Int) : ∀ (c g : Nat) (H : List (List Int)), m - g = c → g ≤ m → Hld p w g G R x H →
    ∃ H', coded_Hold_L4 kx ((List.range (m - g)).map fun t => (((g + t : Nat) : Int), grp R G (g + t))) H p x (w : Int) z3 z4 z5 z6 = kx H' p x (w : Int) z3 z4 z5 z6 ∧ Hld p w m G R x H'
  | 0, g, H, hc0, hgm, h => by
    have : g = m := by omega
    subst this
    rw [Nat.sub_self]
    exact ⟨H, rfl, h⟩
  | c + 1, g, H, hc0, hgm, h => by
    have hlen := h.len
    rw [rng_from (fun t => (((t : Nat) : Int), grp R G t)) (by omega), coded_Hold_L4]
    unfold coded_Hold_B4
    rw [lmk_ok _ (by omega), Option.bind_some]
    dsimp only
    have hgl : (grp R G g).length ≤ G := by unfold grp; rw [List.length_take]; omega
    obtain ⟨v, e1, e2, e3, e4⟩ := hold_L3 hp hx (coded_Hold_J2 (coded_Hold_L4 kx ((List.range (m - (g + 1))).map fun t => (((g + 1 + t : Nat) : Int), grp R G (g + 1 + t)))) H) (w : Int) z3 z4 z5 z6 (grp R G g) 0 (List.replicate w 0) (grp_rw hR G g) (by omega) (by simp) (zeros_el hp.1 w)
    rw [e1]
    unfold coded_Hold_J2
    rw [lapp_ok (by simp; omega), Option.bind_some]
    refine hold_L4 hp hw hG hx hR hm kx z3 z4 z5 z6 c (g + 1) (H ++ [v]) (by omega) (by omega) { len := by simp [hlen], rw := fun r hr => ?_, val := fun g' hg' j => ?_ }
    · rcases List.mem_append.1 hr with hr | hr
      · exact h.rw r hr
      · rw [List.mem_singleton.1 hr]; exact ⟨e2, e3⟩
    · by_cases hg2 : g' < g
      · have : gr (H ++ [v]) g' = gr H g' := by
          unfold gr
          rw [List.getD_eq_getElem?_getD, List.getD_eq_getElem?_getD, List.getElem?_append_left (by omega)]
        rw [this]; exact h.val g' hg2 j
      · have e : g' = g := by omega
        have : gr (H ++ [v]) g' = v := by
          unfold gr
          rw [List.getD_eq_getElem?_getD, List.getElem?_append_right (by omega), e, hlen, Nat.sub_self]; rfl
        rw [this, e]
        have := e4 j
        rw [gd_zeros] at this
        refine this.trans (Cg.of ?_)
        rw [Int.pow_zero, Int.one_mul, Int.zero_add]; rfl
theorem hold_L6 {p : Int} {w : Nat} (kx : Int → Int → Int → Int → Int → Int → Int → Option ((List (List Int)) × Int)) (z1 z3 z4 z5 : Int) : ∀ xs : List (List Int), Rw p w xs → coded_Hold_L6 kx p z1 (w : Int) z3 z4 z5 xs = kx p z1 (w : Int) z3 z4 z5 p
  | [], _ => rfl
  | r :: xs, h => by
    obtain ⟨⟨a, b⟩, h⟩ := Rw.cons.1 h
    rw [coded_Hold_L6]
    unfold coded_Hold_B6
    rw [if_neg (by omega), all_eq, Option.bind_some, if_neg (by simp [b])]
    exact hold_L6 kx z1 z3 z4 z5 xs h
theorem hold_ok {p : Int} (hf : Fd p) {s D G w k : Nat} (h : StOK p s D G) (hk : k < s) (hw : w ≤ 64) {R : List (List Int)} (hR : Rw p w R) (hn : R.length ≤ 1024) :
    ∃ H, coded_Hold p ((s : Int), (D : Int), (G : Int)) (w : Int) R ((k : Int) + 1) = some (H, 0) ∧ Hld p w (ngr R.length G) G R ((k : Int) + 1) H := by
  have h' := h
  obtain ⟨p1, p2, p3, p4, p5, p6⟩ := h'
  have hp := hf.rng
  have hle := ngr_le (n := R.length) p5
  unfold coded_Hold coded_wide
  rw [cdcheck hf h, Option.bind_some, if_neg (by omega)]
  dsimp only
  rw [if_neg (by omega)]
  simp only [Option.bind_some]
  rw [decide_eq_true (by omega), if_neg (by simp; omega), hold_L6 _ _ _ _ _ R hR]
  unfold coded_Hold_J5
  rw [groups_eq ⟨p5, by omega⟩ hn, Option.bind_some]
  obtain ⟨H, e1, e2⟩ := hold_L4 hp (G := G) hw (by omega) (x := (k : Int) + 1) ⟨by omega, by omega⟩ hR (m := ngr R.length G) (by omega) coded_Hold_J1 (s : Int) (D : Int) (G : Int) p (ngr R.length G) 0 [] (by omega) (by omega) { len := rfl, rw := fun r hr => (by cases hr), val := fun g hg => absurd hg (by omega) }
  simp only [Nat.sub_zero, Nat.zero_add] at e1
  rw [e1]
  exact ⟨H, rfl, e2⟩
end Go.Proofs.YtfcicopgdahmcaaGreatDoor
end

section
namespace Go.Proofs.YtfcicopgdahmcaaGreatDoor
open Alg (Cg Pr)
def psum : Nat → (Nat → List Int) → List Int
  | 0, _ => []
  | m + 1, f => Alg.padd (psum m f) (f m)
theorem pv_psum (x : Int) (f : Nat → List Int) : ∀ m, Alg.pv (psum m f) x = Alg.sm m (fun g => Alg.pv (f g) x)
  | 0 => rfl
  | m + 1 => by rw [psum, Alg.pv_padd, pv_psum x f m]; rfl
theorem psum_len {f : Nat → List Int} {b : Nat} : ∀ m, (∀ g, g < m → (f g).length ≤ b) → (psum m f).length ≤ b
  | 0, _ => Nat.zero_le _
  | m + 1, h => by
    have h1 := psum_len m fun g hg => h g (by omega)
    have h2 := h m (by omega)
    rw [psum, Alg.padd_length]; omega
theorem hc_len {R : List (List Int)} {G g j : Nat} : (hc R G g j).length ≤ G := by unfold hc grp; rw [List.length_map, List.length_take]; omega
def fcd (p : Int) (D G m gp : Nat) (T : List Int) (R : List (List Int)) (j : Nat) : List Int :=
  (Alg.padd (hc R G gp j) (List.replicate G 0 ++ psum m (fun g => Alg.pmul (drw D T g) (hc R G g j)))).map (· % p)
theorem fcd_el {p : Int} (hp : 2 ≤ p) {D G m gp : Nat} {T : List Int} {R : List (List Int)} {j : Nat} : El p (fcd p D G m gp T R j) := fun x hx => by
  obtain ⟨y, _, rfl⟩ := List.mem_map.1 hx
  exact E1.emod hp _
theorem fcd_len {p : Int} {D G m gp : Nat} {T : List Int} {R : List (List Int)} {j : Nat} (hD : 1 ≤ D) (hG : 1 ≤ G) : (fcd p D G m gp T R j).length ≤ 2 * G + D - 1 := by
  have h1 : (psum m (fun g => Alg.pmul (drw D T g) (hc R G g j))).length ≤ D + G - 1 := psum_len m fun g _ => by
    have a : (drw D T g).length ≤ D := by unfold drw; rw [List.length_take]; omega
    have b := hc_len (R := R) (G := G) (g := g) (j := j)
    by_cases e1 : drw D T g = []
    · rw [e1]; simp [Alg.pmul]
    · by_cases e2 : hc R G g j = []
      · have := Alg.pmul_length (hc R G g j) (drw D T g)
        rw [e2] at this ⊢
        simp only [List.length_nil] at this; omega
      · have := Alg.pmul_length' (hc R G g j) e2 (drw D T g) e1
        omega
  have h2 := hc_len (R := R) (G := G) (g := gp) (j := j)
  unfold fcd
  rw [List.length_map, Alg.padd_length, List.length_append, List.length_replicate]
  omega
theorem gd_map_mod {p : Int} (l : List Int) (i : Nat) : Cg p (Alg.gd (l.map (· % p)) i) (Alg.gd l i) := by
  unfold Alg.gd
  rw [List.getD_eq_getElem?_getD, List.getD_eq_getElem?_getD, List.getElem?_map]
  cases l[i]? with
  | none => exact Cg.of (by simp)
  | some x => exact Cg.emod p _
theorem fcd_pv {p : Int} {D G m gp : Nat} {T : List Int} {R : List (List Int)} {j : Nat} (x : Int) : Cg p (Alg.pv (fcd p D G m gp T R j) x) (Alg.pv (hc R G gp j) x + x ^ G * Alg.sm m (fun g => Alg.pv (drw D T g) x * Alg.pv (hc R G g j) x)) := by
  refine (pv_cg (fun i => gd_map_mod _ i) x).trans (Cg.of ?_)
  rw [Alg.pv_padd, pv_app, Alg.pv_zeros, List.length_replicate, pv_psum, Int.zero_add]
  congr 2
  exact Alg.sm_eq fun g _ => Alg.pv_pmul x _ _
theorem fcd_low {p : Int} (hp : 2 ≤ p) {D G m gp w : Nat} {T : List Int} {R : List (List Int)} (hR : Rw p w R) {j i : Nat} (hi : i < G) (hir : gp * G + i < R.length) : Alg.gd (fcd p D G m gp T R j) i = Alg.gd (gr R (gp * G + i)) j := by
  have e1 : Alg.gd (hc R G gp j) i = Alg.gd (gr R (gp * G + i)) j := by
    unfold hc grp
    rw [gr_lt hir]
    simp [Alg.gd, List.getD_eq_getElem?_getD, hi, hir]
  have h1 := gd_map_mod (p := p) (Alg.padd (hc R G gp j) (List.replicate G 0 ++ psum m (fun g => Alg.pmul (drw D T g) (hc R G g j)))) i
  rw [Alg.gd_padd, gd_app i (by simpa using hi), gd_zeros, Int.add_zero, e1] at h1
  have a := El.gd hp (fcd_el hp (D := D) (G := G) (m := m) (gp := gp) (T := T) (R := R) (j := j)) i
  have b := El.gd hp (hR.gr hir).2 j
  exact h1.eq a.1 a.2 b.1 b.2
theorem cd_fit {p : Int} {s D G m gp w k : Nat} {T : List Int} {R qs H : List (List Int)} (hq : Qd p s D G m gp T qs) (hk : k < s) (hg : gp < m) (hH : Hld p w m G R ((k : Int) + 1) H) {a : List Int} {j : Nat} (ha : Cg p (Alg.gd a j) (Alg.sm m (fun i => Alg.gd (gr qs k) i * Alg.gd (gr H i) j))) : Cg p (Alg.pv (fcd p D G m gp T R j) ((k : Int) + 1)) (Alg.gd a j) := by
  refine (fcd_pv _).trans (Cg.symm (ha.trans ?_))
  generalize hx : (k : Int) + 1 = x at *
  have h1 : Cg p (Alg.sm m (fun i => Alg.gd (gr qs k) i * Alg.gd (gr H i) j)) (Alg.sm m (fun i => x ^ G * (Alg.pv (drw D T i) x * Alg.pv (hc R G i j) x) + (if i = gp then 1 else 0) * Alg.pv (hc R G i j) x)) := Alg.sm_congr fun i hi => by
    have := (hq.val k hk i hi).mul (hH.val i hi j)
    rw [hx] at this
    refine this.trans (Cg.of ?_)
    rw [Int.add_mul, Int.mul_assoc]
  refine h1.trans ?_
  rw [Alg.sm_add, Alg.sm_mul]
  have h2 := Alg.sm_one (p := p) (f := fun i => (if i = gp then 1 else 0) * Alg.pv (hc R G i j) x) (q := gp) (n := m) (fun i _ h => Cg.of (by simp [h])) hg
  have h3 := (Cg.refl p (x ^ G * Alg.sm m (fun i => Alg.pv (drw D T i) x * Alg.pv (hc R G i j) x))).add h2
  refine h3.trans (Cg.of ?_)
  rw [if_pos rfl, Int.one_mul]; omega
theorem low_L2 (kx : List Int → Option (List (List Int))) (i : Nat) : ∀ (Ps : List (List Int)) (acc : List Int), (∀ x ∈ Ps, ∃ y, x = trim y) → acc.length + Ps.length ≤ 1000 → coded_lowest_L2 kx (i : Int) Ps acc = kx (acc ++ Ps.map fun P => Alg.gd P i)
  | [], acc, _, _ => by simp [coded_lowest_L2]
  | P :: Ps, acc, h, h2 => by
    simp only [List.length_cons] at h2
    obtain ⟨y, rfl⟩ := h P List.mem_cons_self
    rw [coded_lowest_L2]
    unfold coded_lowest_B2
    rw [coeff_ok, Option.bind_some, lapp_ok (by simp; omega), Option.bind_some, low_L2 kx i Ps _ (fun x hx => h x (List.mem_cons_of_mem _ hx)) (by simp; omega), List.map_cons, trim_gd]
    simp
theorem low_L3 {Ps : List (List Int)} (h : ∀ x ∈ Ps, ∃ y, x = trim y) (hl : Ps.length ≤ 500) {G : Nat} (hG : G ≤ 100) : ∀ (f i : Nat), i ≤ G → G - i < f → coded_lowest_L3 Ps (G : Int) f ((List.range i).map fun t => Ps.map fun P => Alg.gd P t) (i : Int) = some ((List.range G).map fun t => Ps.map fun P => Alg.gd P t)
  | 0, i, _, h2 => by omega
  | f + 1, i, h1, h2 => by
    rw [coded_lowest_L3]
    unfold coded_lowest_B3
    by_cases hi : i < G
    · rw [if_pos (by omega), low_L2 _ i Ps [] h (by simp; omega), List.nil_append]
      unfold coded_lowest_J1
      rw [lapp_ok (by simp; omega), Option.bind_some, w64_id (by omega) (by omega), show (i : Int) + 1 = ((i + 1 : Nat) : Int) by omega]
      have := low_L3 h hl hG f (i + 1) (by omega) (by omega)
      rw [List.range_succ, List.map_append] at this
      exact this
    · rw [if_neg (by omega), show i = G by omega]
theorem cddec_ok {p : Int} (hf : Fd p) {s D G : Nat} (h : StOK p s D G) {w : Nat} (hw : w ≤ 64) {L : List (Bool × List Int)} (hL : AnsOK p w L) (hLl : L.length = s) (hn : nk L = s) {F : Nat → List Int} (hF : ∀ j, j < w → Fit p (2 * G + D - 1) L j (F j) ∧ wr p L j (F j) = []) :
    coded_Decode p ((s : Int), (D : Int), (G : Int)) (w : Int) L = some ((List.range G).map fun t => (List.range w).map fun j => Alg.gd (F j) t, [], 0) := by
  have h' := h
  obtain ⟨p1, p2, p3, p4, p5, p6⟩ := h'
  unfold coded_Decode
  rw [cdcheck hf h]
  simp only [Option.bind_some]
  rw [if_neg (by simp), w64_id (x := 2 * (G : Int)) (by omega) (by omega), w64_id (x := 2 * (G : Int) + D) (by omega) (by omega), w64_id (x := 2 * (G : Int) + D - 1) (by omega) (by omega), show 2 * (G : Int) + D - 1 = ((2 * G + D - 1 : Nat) : Int) by omega]
  have hc := ccheck_ok hw hL (by omega) (need := 2 * G + D - 1) (by omega)
  rw [hLl] at hc
  rw [hc]
  simp only [Option.bind_some]
  have hwr : ((List.range w).map fun t => wr p L t (F t)).flatten = [] := by
    rw [List.flatten_eq_nil_iff]
    intro x hx
    obtain ⟨t, ht, rfl⟩ := List.mem_map.1 hx
    exact (hF t (List.mem_range.1 ht)).2
  rw [if_neg (by simp), all_cols hf hw hL (by omega) (by omega) (by omega) (by omega) (fun j hj => (hF j hj).1), hwr, sort_nil]
  simp only [Option.bind_some]
  rw [if_neg (by simp)]
  unfold coded_lowest
  have := low_L3 (Ps := (List.range w).map fun t => trim (F t)) (fun x hx => by
    obtain ⟨t, _, rfl⟩ := List.mem_map.1 hx
    exact ⟨_, rfl⟩) (by simp; omega) (G := G) (by omega) big 0 (by omega) (by simp only [big]; omega)
  rw [List.range_zero, List.map_nil, show ((0 : Nat) : Int) = 0 from rfl] at this
  rw [this, Option.bind_some]
  congr 2
  refine List.map_congr_left fun t _ => ?_
  rw [List.map_map]
  refine List.map_congr_left fun j _ => ?_
  exact trim_gd (F j) t
end Go.Proofs.YtfcicopgdahmcaaGreatDoor
end

section
namespace Go.Proofs.YtfcicopgdahmcaaGreatDoor
open Alg (Cg Pr)
theorem tsawake : top_awake = some true := by kernel_rfl
theorem big_L2 (kx : (List Int) → Int → Int → Option (Int × ((List Int) × Int))) {n : Int} (hn : n < 65521) (z : Int) : ∀ (f : Nat) (v : List Int), v.length < f → (∀ x ∈ v, Fd x) → v.Pairwise (· < ·) → 65521 ∈ v → v.length ≤ 100 →
    ∃ v', make_Big_L2 kx n z f v = kx v' 0 z ∧ (∀ x ∈ v', Fd x ∧ n < x) ∧ 1 ≤ v'.length ∧ v'.length ≤ 100
  | 0, v, h, _, _, _, _ => by omega
  | f + 1, [], _, _, _, h, _ => by cases h
  | f + 1, x :: v, h1, h2, h3, h4, h5 => by
    rw [make_Big_L2]
    unfold make_Big_B2
    have e : lidx (x :: v) 0 = some x := rfl
    rw [e, Option.bind_some]
    obtain ⟨h6, h7⟩ := List.pairwise_cons.1 h3
    by_cases hx : x ≤ n
    · rw [if_pos hx, lsub_ok (by omega) (by simp; omega) (by omega)]
      simp only [Option.bind_some]
      have e2 : (((x :: v).drop (1 : Int).toNat).take (((x :: v).length : Int) - 1).toNat) = v := by
        rw [List.take_of_length_le (by simp)]; rfl
      rw [e2]
      refine big_L2 kx hn z f v (by simpa using h1) (fun y hy => h2 y (List.mem_cons_of_mem _ hy)) h7 ?_ (by simp at h5; omega)
      rcases List.mem_cons.1 h4 with h8 | h8
      · omega
      · exact h8
    · rw [if_neg hx]
      refine ⟨x :: v, rfl, fun y hy => ⟨h2 y hy, ?_⟩, by simp, h5⟩
      rcases List.mem_cons.1 hy with rfl | hy
      · omega
      · have := h6 y hy; omega
theorem big_ok {l : List Int} (hl : l.length ≤ 1000) {d : List Int × Int} (hd : Dk l d) {n : Int} (hn : n < 65521) : ∃ p e, make_Big d n = some (p, e) ∧ Fd p ∧ n < p ∧ Dk l e := by
  unfold make_Big
  obtain ⟨v, h1, h2, h3, h4⟩ := big_L2 (make_Big_J1 d.1) hn d.2 big [2, 3, 5, 7, 11, 13, 17, 257, 65521] (by simp [big]) (fun x hx => by
    simp only [List.mem_cons, List.not_mem_nil, or_false] at hx
    exact hx) (by decide) (by simp) (by simp)
  rw [h1]
  unfold make_Big_J1
  obtain ⟨q, e, q1, q2, q3, q4⟩ := next_ok hl (d := (d.1, d.2)) hd (n := (v.length : Int)) (by omega)
  rw [q1, Option.bind_some, lidx_ok 0 q2 q3]
  have hm : v.getD q.toNat 0 ∈ v := by
    rw [List.getD_eq_getElem?_getD, List.getElem?_eq_getElem (by omega), Option.getD_some]
    exact List.getElem_mem _
  exact ⟨_, e, rfl, (h2 _ hm).1, (h2 _ hm).2, q4⟩
theorem storage_ok {l : List Int} (hl : l.length ≤ 1000) {dk : List Int × Int} (hd : Dk l dk) : ∃ (p : Int) (s D G : Nat) (e : List Int × Int), make_Storage dk = some (p, ((s : Int), (D : Int), (G : Int)), e) ∧ Fd p ∧ StOK p s D G ∧ Dk l e := by
  unfold make_Storage
  obtain ⟨a, e1, a1, a2, a3, a4⟩ := next_ok hl hd (n := 3) (by omega)
  rw [a1, Option.bind_some]
  obtain ⟨b, e2, b1, b2, b3, b4⟩ := next_ok hl a4 (n := 2) (by omega)
  rw [b1, Option.bind_some]
  obtain ⟨c, e3, c1, c2, c3, c4⟩ := next_ok hl b4 (n := 4) (by omega)
  rw [c1, Option.bind_some]
  rw [w64_id (x := 1 + a) (by omega) (by omega), w64_id (x := 1 + b) (by omega) (by omega), w64_id (x := 2 * (1 + a)) (by omega) (by omega), w64_id (x := 2 * (1 + a) + (1 + b)) (by omega) (by omega), w64_id (x := 2 * (1 + a) + (1 + b) - 1) (by omega) (by omega), w64_id (by omega) (by omega), show max 2 (2 * (1 + a) + (1 + b) - 1 + c) = 2 * (1 + a) + (1 + b) - 1 + c by omega]
  obtain ⟨p, e4, p1, p2, p3, p4⟩ := big_ok hl c4 (n := 2 * (1 + a) + (1 + b) - 1 + c) (by omega)
  rw [p1, Option.bind_some]
  refine ⟨p, (2 * (1 + a) + (1 + b) - 1 + c).toNat, (1 + b).toNat, (1 + a).toNat, e4, ?_, p2, ?_, p4⟩
  · rw [show (((2 * (1 + a) + (1 + b) - 1 + c).toNat : Nat) : Int) = 2 * (1 + a) + (1 + b) - 1 + c by omega, show (((1 + b).toNat : Nat) : Int) = 1 + b by omega, show (((1 + a).toNat : Nat) : Int) = 1 + a by omega]
  · unfold StOK
    have q1 : (((2 * (1 + a) + (1 + b) - 1 + c).toNat : Nat) : Int) = 2 * (1 + a) + (1 + b) - 1 + c := by omega
    rw [q1]
    omega
theorem ts_L5 (kx : (List (List Int)) → (List (Bool × (List Int))) → Option Bool) {p : Int} {w : Nat} {R : List (List Int)} : ∀ (qs As : List (List Int)) (acc : List (Bool × List Int)), Ans p w R qs As → acc.length + qs.length ≤ 1000 → top_TopSchemes_L5 kx (w : Int) R p qs acc = kx R (acc ++ As.map fun a => (true, a))
  | [], As, acc, h, _ => by
    have : As = [] := List.eq_nil_of_length_eq_zero (by simpa using h.len)
    subst this
    simp [top_TopSchemes_L5]
  | q :: qs, [], acc, h, _ => by have := h.len; simp at this
  | q :: qs, a :: As, acc, h, h2 => by
    simp only [List.length_cons] at h2
    have h3 := h.ans 0 (by simp)
    have hA : Ans p w R qs As := { len := by simpa using h.len, rw := (Rw.cons.1 h.rw).2, ans := fun k hk => h.ans (k + 1) (by simpa using hk), sum := fun k hk => h.sum (k + 1) (by simpa using hk) }
    rw [top_TopSchemes_L5]
    unfold top_TopSchemes_B5
    rw [show gr (q :: qs) 0 = q from rfl, show gr (a :: As) 0 = a from rfl] at h3
    rw [h3]
    simp only [Option.bind_some]
    rw [if_neg (by simp), lapp_ok (by simp; omega), Option.bind_some, ts_L5 kx qs As _ hA (by simp; omega)]
    simp
structure CA (p : Int) (s D G w m gp : Nat) (T : List Int) (R : List (List Int)) (i : Nat) (As : List (Bool × List Int)) : Prop where
  len : As.length = i
  ok : ∀ a ∈ As, a.1 = true ∧ a.2.length = w ∧ El p a.2
  val : ∀ k (hk : k < As.length), ∀ j, Cg p (Alg.pv (fcd p D G m gp T R j) ((k : Int) + 1)) (Alg.gd As[k].2 j)
theorem ts_L2 (kx : (List (Bool × (List Int))) → Option Bool) {p : Int} (hf : Fd p) {s D G w gp : Nat} (h : StOK p s D G) (hw : w ≤ 64) {R : List (List Int)} (hR : Rw p w R) (hn : R.length ≤ 1024) {T : List Int} {qs : List (List Int)} (hq : Qd p s D G (ngr R.length G) gp T qs) (hg : gp < ngr R.length G) : ∀ (xs : List (List Int)) (i : Nat) (acc : List (Bool × List Int)), qs.drop i = xs → i ≤ s → CA p s D G w (ngr R.length G) gp T R i acc →
    ∃ As, top_TopSchemes_L2 kx R (w : Int) (s : Int) (D : Int) (G : Int) p xs i acc = kx As ∧ CA p s D G w (ngr R.length G) gp T R s As
  | [], i, acc, hd, his, hc => by
    have hlen := hq.len
    have hl := hc.len
    have h1 : s ≤ i := by have := congrArg List.length hd; simp at this; omega
    have h2 : i = s := by omega
    subst h2
    exact ⟨acc, rfl, hc⟩
  | x :: xs, i, acc, hd, his, hc => by
    have hlen := hq.len
    have hl := hc.len
    have hi : i < s := by
      rcases Nat.lt_or_ge i qs.length with h1 | h1
      · omega
      · rw [List.drop_of_length_le h1] at hd; cases hd
    have hx : x = gr qs i := by
      have h1 := List.drop_eq_getElem_cons (show i < qs.length by omega)
      rw [hd] at h1
      rw [gr_lt (by omega)]; exact (List.cons.inj h1).1
    have h' := h
    obtain ⟨p1, p2, p3, p4, p5, p6⟩ := h'
    rw [top_TopSchemes_L2]
    unfold top_TopSchemes_B2
    rw [w64_id (x := (i : Int) + 1) (by omega) (by omega)]
    obtain ⟨H, h1, h2⟩ := hold_ok hf h hi hw hR hn
    rw [h1]
    simp only [Option.bind_some]
    have hqi := hq.rw.gr (i := i) (by omega)
    obtain ⟨a, a1, a2, a3, a4⟩ := answer_ok hf hw h2.rw (c := gr qs i) hqi.2 (by rw [hqi.1, h2.len])
    rw [hx, a1]
    simp only [Option.bind_some]
    rw [if_neg (by simp), lapp_ok (by simp; omega), Option.bind_some]
    refine ts_L2 kx hf h hw hR hn hq hg xs (i + 1) _ (by rw [← List.drop_drop, hd]; rfl) (by omega) { len := by simp [hl], ok := fun b hb => ?_, val := fun k hk j => ?_ }
    · rcases List.mem_append.1 hb with hb | hb
      · exact hc.ok b hb
      · rw [List.mem_singleton.1 hb]; exact ⟨rfl, a2, a3⟩
    · by_cases hk2 : k < acc.length
      · rw [List.getElem_append_left hk2]; exact hc.val k hk2 j
      · have e : k = i := by simp at hk; omega
        subst e
        rw [List.getElem_append_right (by omega)]
        simp only [hl, Nat.sub_self, List.getElem_cons_zero]
        have := a4 j
        rw [h2.len] at this
        exact cd_fit hq hi hg h2 this
theorem law_tschemes {x0 : List Int} {x1 : Int} (h1 : 0 ≤ x1 ∧ x1 ≤ 255) : top_TopSchemes x0 x1 = some true := by
  unfold top_TopSchemes make_Few make_New
  rw [tsawake, Option.bind_some, if_neg (by simp), Option.bind_some]
  by_cases hfw : (x0.length : Int) ≤ 500
  · rw [if_neg (by simp [hfw]), Option.bind_some]
    have ht : x0.length ≤ 1000 := by omega
    obtain ⟨p, s, D, G, e1, k1, hf, hS, d1⟩ := storage_ok ht (dk := (x0, 0)) ⟨rfl, by omega, by omega⟩
    rw [k1, Option.bind_some]
    have hp := hf.rng
    dsimp only
    obtain ⟨v2, e2, k2, a2, b2, d2⟩ := next_ok ht d1 (n := 6) (by omega)
    rw [k2, Option.bind_some]
    obtain ⟨v3, e3, k3, a3, b3, d3⟩ := next_ok ht d2 (n := 3) (by omega)
    rw [k3, Option.bind_some]
    dsimp only
    rw [w64_id (x := 1 + v2) (by omega) (by omega), w64_id (x := 1 + v3) (by omega) (by omega)]
    obtain ⟨n, hn⟩ : ∃ n : Nat, 1 + v2 = n := ⟨(1 + v2).toNat, by omega⟩
    obtain ⟨w, hw⟩ : ∃ w : Nat, 1 + v3 = w := ⟨(1 + v3).toNat, by omega⟩
    rw [hn, hw]
    obtain ⟨R, e4, k4, hRl, hR, d4⟩ := mrows_ok ht d3 hp (n := n) (w := w) (by omega) (by omega)
    rw [k4, Option.bind_some, nz_ok (by omega), Option.bind_some, w64_id (x := x1) (by omega) (by omega), Int.tmod_eq_emod_of_nonneg h1.1]
    obtain ⟨idx, hidx⟩ : ∃ i : Nat, x1 % (n : Int) = i := ⟨(x1 % (n : Int)).toNat, by have := Int.emod_nonneg x1 (show (n : Int) ≠ 0 by omega); omega⟩
    have hi : idx < n := by have := Int.emod_lt_of_pos x1 (show (0 : Int) < n by omega); omega
    rw [hidx]
    dsimp only
    rw [lidx_gr (by omega)]
    simp only [Option.bind_some]
    have hlim := limits_eq hf (n := n) (s := 3) (by omega) (by omega)
    rw [show ((3 : Nat) : Int) = 3 from rfl] at hlim
    rw [hlim, Option.bind_some]
    obtain ⟨T1, e5, s1, s2, s3, d5⟩ := seed_ok ht d4 hp (m := n * (3 - 1)) (by omega)
    dsimp only
    rw [s1, Option.bind_some]
    obtain ⟨qs, t, q1, q2⟩ := queries_ok hf (n := n) (s := 3) (idx := idx) (by omega) (by omega) hi s3 s2
    rw [show ((3 : Nat) : Int) = 3 from rfl] at q1
    dsimp only
    rw [q1, Option.bind_some]
    unfold top_TopSchemes_J6
    rw [if_neg (by simp)]
    obtain ⟨As, hA⟩ := ans_ok hf (w := w) (by omega) hR (qs := qs) (by rw [hRl]; exact q2.rw)
    have lq := q2.len
    rw [ts_L5 _ qs As [] hA (by simp; omega), List.nil_append]
    unfold top_TopSchemes_J4
    rw [pdec_ok hf (w := w) (by omega) hR (s := 3) (idx := idx) (by omega) (by omega) (by rw [hRl]; exact q2) hA, Option.bind_some]
    have hS' := hS
    obtain ⟨p1, p2, p3, p4, p5, p6⟩ := hS'
    rw [w64_id (x := (s : Int) - 1) (by omega) (by omega)]
    obtain ⟨v6, e6, k6, a6, b6, d6⟩ := next_ok ht (d := (e5.1, e5.2)) d5 (n := (s : Int) - 1) (by omega)
    rw [k6, Option.bind_some]
    dsimp only
    rw [w64_id (x := 1 + v6) (by omega) (by omega)]
    obtain ⟨dg, hdg⟩ : ∃ i : Nat, 1 + v6 = i := ⟨(1 + v6).toNat, by omega⟩
    rw [hdg]
    unfold top_TopSchemes_J3
    obtain ⟨e7, r1, d7⟩ := read0_ok hf (s := s) (d := dg) (n := n) (idx := idx) (w := w) ⟨p1, p2, by omega, by omega, p3⟩ (by omega) hi (by omega) hR hRl ht (dk := (e6.1, e6.2)) d6
    rw [r1, Option.bind_some, groups_ok p5 (by omega), Option.bind_some]
    dsimp only
    have hgp := ngr_pos (n := n) (G := G) p5 (by omega)
    have hgl := ngr_le (n := n) (G := G) p5
    rw [cdlimits hf hS ⟨hgp, by omega⟩, Option.bind_some, nz_ok (by omega), Option.bind_some]
    have hmD : ngr n G * D ≤ 10 * 10 := Nat.mul_le_mul (by omega) (by omega)
    obtain ⟨T2, e8, t1, t2, t3, d8⟩ := seed_ok ht d7 hp (m := ngr n G * D) (by omega)
    dsimp only
    rw [t1, Option.bind_some, Int.tdiv_eq_ediv_of_nonneg (by omega), show (idx : Int) / (G : Int) = ((idx / G : Nat) : Int) by simp]
    have hidG := Nat.div_add_mod idx G
    have hgi : idx / G < ngr n G := (ngr_lt p5).2 (by rw [Nat.mul_comm]; omega)
    have hmodlt := Nat.mod_lt idx (show 0 < G by omega)
    have hdle : idx / G ≤ idx := Nat.div_le_self _ _
    rw [w64_id (x := ((idx / G : Nat) : Int)) (by generalize idx / G = z at *; omega) (by generalize idx / G = z at *; omega)]
    obtain ⟨q2s, t', c1, c2⟩ := cdqueries_ok hf hS ⟨hgp, by omega⟩ hgi t3 t2
    rw [c1, Option.bind_some]
    dsimp only
    rw [if_neg (by simp [c2.len])]
    rw [← hRl] at c2 hgi
    obtain ⟨As2, l1, l2⟩ := ts_L2 (top_TopSchemes_J1 (w : Int) (idx : Int) (gr R idx) (gr R idx) (gr R idx) (s : Int) (D : Int) (G : Int) p) hf hS (w := w) (by omega) hR (by omega) c2 hgi q2s 0 [] rfl (by omega) { len := rfl, ok := fun a ha => (by cases ha), val := fun k hk => absurd hk (by simp) }
    rw [l1]
    unfold top_TopSchemes_J1
    have hLA : AnsOK p w As2 := fun a ha _ => (l2.ok a ha).2
    have hnk : nk As2 = s := by
      unfold nk
      rw [List.filter_eq_self.2 fun a ha => (l2.ok a ha).1]; exact l2.len
    rw [cddec_ok hf hS (w := w) (by omega) hLA l2.len hnk (F := fun j => fcd p D G (ngr R.length G) (idx / G) T2 R j) (fun j _ => fit_right (fcd_el hp.1) (fcd_len p4 p5) fun i hi _ => l2.val i hi j)]
    simp only [Option.bind_some]
    rw [if_pos (by simp), same_refl]
    simp only [Option.bind_some, if_true]
    rw [nz_ok (by omega)]
    simp only [Option.bind_some]
    rw [Int.tmod_eq_emod_of_nonneg (by omega), show (idx : Int) % (G : Int) = ((idx % G : Nat) : Int) by simp, lidx_gr (by simp; exact hmodlt)]
    have erow : gr ((List.range G).map fun t => (List.range w).map fun j => Alg.gd (fcd p D G (ngr R.length G) (idx / G) T2 R j) t) (idx % G) = gr R idx := by
      have hg := hR.gr (i := idx) (by omega)
      rw [gr_lt (by simp; exact hmodlt), List.getElem_map, List.getElem_range]
      refine List.ext_getElem (by simp [hg.1]) fun j h2 h3 => ?_
      rw [List.getElem_map, List.getElem_range, fcd_low hp.1 hR hmodlt (by rw [Nat.mul_comm]; omega), show idx / G * G + idx % G = idx by rw [Nat.mul_comm]; exact hidG]
      simp [Alg.gd, List.getD_eq_getElem?_getD, h3]
    rw [erow]
    simp only [Option.bind_some]
    rw [same_refl]
    rfl
  · rw [if_pos (by simp [hfw])]
end Go.Proofs.YtfcicopgdahmcaaGreatDoor
end
