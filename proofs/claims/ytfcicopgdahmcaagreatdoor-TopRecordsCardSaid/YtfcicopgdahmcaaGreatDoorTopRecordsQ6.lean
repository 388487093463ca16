/- What the proof needs, gathered by wip/gen/shake.py. -/
import Derived.Calls
import Derived.Deep.Quiet
import Derived.Below
import Derived.Laws.AppendOwn
import Derived.WalkKit
import Derived.Laws.OwnMore
import Derived.Deep.Slices
import Derived.ChangeOld
import Derived.ArgAppend
import Derived.RangeFuncIn
import Derived.RangeFuncRecord
import Derived.RangeFuncLeaves
import Derived.Laws.MakeOwn
import Derived.IntWalk
import Derived.Laws.IdiomStrings
import Derived.Laws.Cover3
import Derived.Laws.CopyOwn
import Derived.MapKept
import Derived.RangeFuncNested
import Derived.Test.YtfcicopgdahmcaaGreatDoorRows
import Derived.LaidEql
import Derived.Stop.Asserts
import Derived.RowKitTokens
import Derived.Test.YtfcicopgdahmcaaGreatDoorCards
import Derived.LaidLaws
import Derived.Look8
import Derived.MakeChecks
import Derived.Test.YtfcicopgdahmcaaGreatDoorTie
import Derived.LaidMore
import Derived.Lay
import Derived.SevenTiedAt
import Derived.Stop.Joined
import Derived.ProofKit
import Derived.OpenShut
import Derived.ShutString
import Derived.Test.YtfcicopgdahmcaaGreatDoorTopRecordsQ5
set_option linter.unusedVariables false
set_option linter.unusedSimpArgs false
section
namespace Go.Proofs.YtfcicopgdahmcaaGreatDoor
open Alg (Cg Pr)
theorem Xij {p : Int} {l : List (Int × Bool)} (hlp : (l.length : Int) < p) : Alg.Apart p ((kn l 0).map (·.1)) := by
  unfold Alg.Apart
  refine List.Pairwise.imp_of_mem ?_ (Xpu l 0)
  intro x y hx hy hlt hc
  obtain ⟨q, hq, rfl⟩ := List.mem_map.1 hx
  obtain ⟨r, hr, rfl⟩ := List.mem_map.1 hy
  have h1 := Xh6 l 0 q hq
  have h2 := Xh6 l 0 r hr
  have h3 : Cg p (r.1 - q.1) 0 := by
    have := (Cg.refl p 0).sub hc
    exact (Cg.of (by omega)).trans this
  have := h3.small (by omega) (by omega)
  omega
theorem Xl4 {p : Int} (hf : Fd p) {l : List (Int × Bool)} (hl : l.length ≤ 32) (hlp : (l.length : Int) < p) (hE : El p ((kn l 0).map (·.2))) {k : Nat} (hk : 1 ≤ k) (hk2 : k ≤ (kn l 0).length) {f : List Int} (hfe : El p f) (hfl : f.length ≤ k) {v : Nat} (hv : v = ((kn l 0).length - k) / 2) (hw : ((kn l 0).filter (Alg.bad p f)).length ≤ v) :
    X7n p l (k : Int) = some ((trim f, ((kn l 0).filter (Alg.bad p f)).map (·.1)), 0) := by
  have hp := hf.rng
  have hkl := Xh5 l 0
  obtain ⟨r0, hr0⟩ := Xkw hf hl hlp hE hk hk2
  unfold X7n X9f
  rw [hr0]
  simp only [Option.bind_some]
  rw [if_neg (by simp), Xmv hl, Option.bind_some]
  unfold X9a
  rw [if_neg (by omega), if_neg (by omega)]
  simp only [Option.bind_some]
  have er : w64 (Int.tdiv (w64 (((kn l 0).length : Int) - (k : Int))) 2) = (v : Int) := by
    rw [w64_id (x := ((kn l 0).length : Int) - (k : Int)) (by omega) (by omega), Int.tdiv_eq_ediv_of_nonneg (by omega), w64_id (by omega) (by omega)]
    omega
  rw [er]
  have hK : k + v + v ≤ (kn l 0).length := by omega
  obtain ⟨C, Rt, e1, hKR⟩ := Xre hf hl hlp hE hk hk2 (v := v) (by omega)
  rw [e1]
  simp only [Option.bind_some]
  rw [if_neg (by simp)]
  obtain ⟨hC, hRt⟩ := hKR.rw
  obtain ⟨lC, lR⟩ := hKR.len
  have hlr : Rt.length = C.length := by omega
  -- the matrix is the key equations'
  have hM : ∀ i (hi : i < (kn l 0).length) (j : Nat), j < k + v + v + 1 → Cg p (Alg.gd (gr (aug C Rt) i) j) (Alg.keyRow k v (kn l 0)[i] j) := fun i hi j hj => by
    obtain ⟨g1, g2⟩ := hKR.get i hi
    rw [Xl1 hlr (by omega)]
    have hg := (hC.gr (i := i) (by omega)).1
    rcases Nat.lt_or_ge j (k + v + v) with h | h
    · rw [Xig j (by omega)]; exact g1 j h
    · have hj' : j = k + v + v := by omega
      rw [hj', ← hg, Xej, hg]; exact g2
  have hsum : ∀ (z : Nat → Int), Alg.SolM p C.length (k + v + v + 1) (fun i j => Alg.gd (gr (aug C Rt) i) j) z ↔ ∀ i (hi : i < (kn l 0).length), Cg p (Alg.sm (k + v + v + 1) (fun j => Alg.keyRow k v (kn l 0)[i] j * z j)) 0 := fun z => by
    unfold Alg.SolM
    constructor
    · intro h i hi
      exact (Alg.X9k fun j hj => ((hM i hi j hj).symm.mul (Cg.refl p (z j)))).trans (h i (by omega))
    · intro h i hi
      exact (Alg.X9k fun j hj => ((hM i (by omega) j hj).mul (Cg.refl p (z j)))).trans (h i (by omega))
  obtain ⟨Q0, E0, hQ0, hE0, hs0⟩ := Alg.Xgz (p := p) (f := f) (K := kn l 0) (k := k) (v := v) hfl hw
  obtain ⟨x, x1, x2, x3, x4⟩ := Xmw hf hC hRt hlr (by omega) (by omega) (x0 := Alg.keySol k v Q0 E0) ((hsum _).2 fun i hi => by
    rw [Alg.Xkc k v Q0 E0 hQ0 hE0]
    exact hs0 _ (List.getElem_mem hi)) (by unfold Alg.keySol; rw [if_neg (by omega), if_neg (by omega)])
  rw [x1]
  simp only [Option.bind_some]
  rw [if_neg (by simp), w64_id (x := (k : Int) + (v : Int)) (by omega) (by omega), X5c (by omega) (by omega) (by omega)]
  simp only [Option.bind_some]
  rw [X5c (by omega) (by omega) (by omega)]
  simp only [Option.bind_some]
  have eQ : ((x.drop (0 : Int).toNat).take ((k : Int) + (v : Int) - 0).toNat) = x.take (k + v) := by
    rw [show ((k : Int) + (v : Int) - 0).toNat = k + v by omega]; simp
  have eE : ((x.drop ((k : Int) + (v : Int)).toNat).take ((x.length : Int) - ((k : Int) + (v : Int))).toNat) = x.drop (k + v) := by
    rw [show ((k : Int) + (v : Int)).toNat = k + v by omega, List.take_of_length_le (by rw [List.length_drop]; omega)]
  rw [eQ, eE]
  unfold X8
  rw [Xk (by simp; omega)]
  simp only [Option.bind_some, List.nil_append]
  rw [Xk (by simp; omega)]
  simp only [Option.bind_some]
  generalize hQ : x.take (k + v) = Q
  generalize hEE : x.drop (k + v) = E
  have lQ : Q.length = k + v := by rw [← hQ, List.length_take]; omega
  have lE : E.length = v := by rw [← hEE, List.length_drop]; omega
  have EQ : El p Q := fun y hy => by rw [← hQ] at hy; exact x3 y (List.mem_of_mem_take hy)
  have EE : El p E := fun y hy => by rw [← hEE] at hy; exact x3 y (List.mem_of_mem_drop hy)
  have hsol : ∀ q ∈ kn l 0, Cg p (Alg.pv Q q.1 - q.2 * Alg.pv (E ++ [1]) q.1) 0 := fun q hq => by
    obtain ⟨i, hi, rfl⟩ := List.getElem_of_mem hq
    have := (hsum _).1 x4 i hi
    rw [← Alg.Xkc k v Q E (by omega) lE]
    refine (Cg.of (Alg.Xg5 fun j hj => ?_)).trans this
    congr 1
    unfold Alg.keySol
    by_cases h1 : j < k + v
    · rw [if_pos h1, if_pos (by omega), ← hQ, Xbp j h1]
    · rw [if_neg h1]
      by_cases h2 : j < k + v + v
      · rw [if_pos h2, if_pos h2, ← hEE, Xkx, show k + v + (j - (k + v)) = j by omega]
      · rw [if_neg h2, if_neg h2]
  have hz := Alg.Xje hf.pr hfl hw (by omega) (Xij hlp) (Q := Q) (E := E) (by omega) lE hsol
  unfold X6v
  obtain ⟨g, r, d1, d2, d3, d4, d5, d6⟩ := Xl3 hf (E := E) EQ (by omega) EE (by omega)
  rw [d1]
  simp only [Option.bind_some]
  obtain ⟨hz1, hz2⟩ := Alg.Xhp hf.pr hfl (by omega) (Xij hlp) (g := g) (r := r) lE hz (by omega) (by omega) d6
  have hr : trim r = [] := Xmx fun i => by
    have := El.gd hp.1 d3 i
    exact (hz2 i).small this.1 this.2
  have hg : trim g = trim f := Xih fun i => by
    have a1 := El.gd hp.1 d2 i
    have a2 := El.gd hp.1 hfe i
    have := hz1 i
    rw [Alg.Xb1, Alg.Xd7] at this
    exact ((Cg.of_sub0 ((Cg.of (by omega)).trans this)).eq a2.1 a2.2 a1.1 a1.2).symm
  have htf := Xbu f
  have htn := Xei f
  rw [hr, hg, if_neg (by simp; omega)]
  unfold X9e
  rw [Xii hp (f := f) (Xkm hfe) (by omega) (fun x => Xht f x) l 0 [] (by simpa using hlp) (by simp; omega) hE]
  simp only [Option.bind_some, List.nil_append]
  rw [if_neg (by rw [List.length_map]; omega)]
  simp only [Option.bind_some]
  unfold Xdw Xav
  simp
end Go.Proofs.YtfcicopgdahmcaaGreatDoor
end

section
namespace Go.Proofs.YtfcicopgdahmcaaGreatDoor
open Alg (Cg Pr)
def col (L : List (Bool × List Int)) (j : Nat) : List (Int × Bool) := L.map fun a => (if a.1 = true then Alg.gd a.2 j else 0, a.1)
def AnsOK (p : Int) (w : Nat) (L : List (Bool × List Int)) : Prop := ∀ a ∈ L, a.1 = true → a.2.length = w ∧ El p a.2
theorem AnsOK.cons {p : Int} {w : Nat} {a : Bool × List Int} {L : List (Bool × List Int)} : AnsOK p w (a :: L) ↔ (a.1 = true → a.2.length = w ∧ El p a.2) ∧ AnsOK p w L := by unfold AnsOK; simp
def nk (L : List (Bool × List Int)) : Nat := (L.filter fun a => a.1).length
theorem Xfl : ∀ (L : List (Bool × List Int)) (j i : Nat), (kn (col L j) i).length = nk L
  | [], _, _ => rfl
  | a :: L, j, i => by
    have ih := Xfl L j (i + 1)
    unfold col nk at ih ⊢
    rw [List.map_cons, kn, List.filter_cons]
    by_cases h : a.1 = true
    · rw [if_pos h, List.length_cons, ih]; simp [h]
    · rw [if_neg h, ih]; simp [h]
theorem Xhb {p : Int} (hp : 2 ≤ p) {w : Nat} : ∀ (L : List (Bool × List Int)) (j i : Nat), AnsOK p w L → El p ((kn (col L j) i).map (·.2))
  | [], _, _, _ => El.nil
  | a :: L, j, i, h => by
    obtain ⟨h1, h⟩ := AnsOK.cons.1 h
    have ih := Xhb hp L j (i + 1) h
    unfold col at ih ⊢
    rw [List.map_cons, kn]
    by_cases hk : a.1 = true
    · rw [if_pos hk, List.map_cons]
      refine El.cons.2 ⟨?_, ih⟩
      dsimp only
      rw [if_pos hk]
      exact El.gd hp (h1 hk).2 j
    · rw [if_neg hk]; exact ih
theorem Xhu (L : List (Bool × List Int)) (j : Nat) : (col L j).length = L.length := by simp [col]
theorem Xgb {p : Int} {w : Nat} (kx : Int → Bool → Int → Option Int) : ∀ (L : List (Bool × List Int)) (n : Nat), AnsOK p w L → n + L.length ≤ 1000 → X2m kx (w : Int) p L (n : Int) true = kx ((n + nk L : Nat) : Int) true p
  | [], n, _, _ => by simp [X2m, nk]
  | a :: L, n, h, h2 => by
    obtain ⟨h1, h⟩ := AnsOK.cons.1 h
    simp only [List.length_cons] at h2
    rw [X2m]
    unfold X6s
    by_cases hk : a.1 = true
    · have e : nk (a :: L) = nk L + 1 := by unfold nk; rw [List.filter_cons, if_pos hk]; rfl
      rw [if_neg (by simp [hk]), if_neg (by have := (h1 hk).1; omega), if_pos rfl, all_eq]
      simp only [Option.bind_some, (h1 hk).2, decide_true]
      rw [w64_id (by omega) (by omega), show (n : Int) + 1 = ((n + 1 : Nat) : Int) by omega, Xgb kx L (n + 1) h (by omega), e]
      congr 2; omega
    · have e : nk (a :: L) = nk L := by unfold nk; rw [List.filter_cons, if_neg hk]
      have hk' : a.1 = false := by simpa using hk
      rw [if_pos (by simp [hk']), Xgb kx L n h (by omega), e]
theorem Xl5 {p : Int} {w : Nat} (hw : w ≤ 64) {L : List (Bool × List Int)} (h : AnsOK p w L) (hL : L.length ≤ 100) {need : Nat} (hn : need ≤ nk L) : X7i p (w : Int) (L.length : Int) (need : Int) L = some 0 := by
  unfold X7i
  rw [if_neg (by omega), if_neg (by omega)]
  have := Xgb (X2l (need : Int)) L 0 h (by omega)
  rw [show (0 : Int) = ((0 : Nat) : Int) from rfl, this]
  unfold X2l
  rw [if_neg (by simp), if_neg (by omega)]
  rfl
theorem Xhc {p : Int} {w j : Nat} (hj : j < w) (kx : List (Int × Bool) → Int → Int → Option ((List Int × List Int) × Int)) (z1 z2 : Int) : ∀ (L : List (Bool × List Int)) (acc : List (Int × Bool)), AnsOK p w L → acc.length + L.length ≤ 1000 → Xi kx (j : Int) z1 z2 L acc = kx (acc ++ col L j) z1 z2
  | [], acc, _, _ => by simp [Xi, col]
  | a :: L, acc, h, h2 => by
    obtain ⟨h1, h⟩ := AnsOK.cons.1 h
    simp only [List.length_cons] at h2
    rw [Xi]
    unfold X36
    have ih := fun c => Xhc (p := p) hj kx z1 z2 L (acc ++ [c]) h (by simp; omega)
    by_cases hk : a.1 = true
    · rw [if_pos hk, X53 (by rw [(h1 hk).1]; exact hj), Option.bind_some]
      unfold X1k
      rw [Xk (by simp; omega), Option.bind_some, ih]
      congr 1
      unfold col
      rw [List.map_cons, if_pos hk, List.append_assoc]; rfl
    · rw [if_neg hk]
      unfold X1k
      rw [Xk (by simp; omega), Option.bind_some, ih]
      congr 1
      unfold col
      rw [List.map_cons, if_neg hk, List.append_assoc]; rfl
structure Fit (p : Int) (k : Nat) (L : List (Bool × List Int)) (j : Nat) (f : List Int) : Prop where
  el : El p f
  len : f.length ≤ k
  few : ((kn (col L j) 0).filter (Alg.bad p f)).length ≤ (nk L - k) / 2
def wr (p : Int) (L : List (Bool × List Int)) (j : Nat) (f : List Int) : List Int := ((kn (col L j) 0).filter (Alg.bad p f)).map (·.1)
theorem Xl6 {p : Int} (hf : Fd p) {w : Nat} {L : List (Bool × List Int)} (h : AnsOK p w L) (hL : L.length ≤ 32) (hLp : (L.length : Int) < p) {k : Nat} (hk : 1 ≤ k) (hn : k ≤ nk L) {j : Nat} (hj : j < w) {f : List Int} (hfit : Fit p k L j f) :
    X2u (p, (k : Int), L) (j : Int) = some ((trim f, wr p L j f), 0) := by
  have hp := hf.rng
  unfold X2u
  dsimp only
  rw [Xhc hj _ _ _ L [] h (by simp; omega), List.nil_append]
  unfold Xo
  have e := Xfl L j 0
  rw [Xl4 hf (l := col L j) (by rw [Xhu]; exact hL) (by rw [Xhu]; exact hLp) (Xhb hp.1 L j 0 h) hk (by rw [e]; exact hn) hfit.el hfit.len rfl (by rw [e]; exact hfit.few)]
  rfl
theorem Xo3 {p : Int} (hf : Fd p) {w : Nat} (hw : w ≤ 64) {L : List (Bool × List Int)} (h : AnsOK p w L) (hL : L.length ≤ 32) (hLp : (L.length : Int) < p) {k : Nat} (hk : 1 ≤ k) (hn : k ≤ nk L) {F : Nat → List Int} (hF : ∀ j, j < w → Fit p k L j (F j)) (kx : List (List Int) → List Int → Int → Int → Option (List (List Int) × List Int × Int)) : ∀ (f j : Nat), j ≤ w → w - j < f →
    X23 kx (w : Int) p (k : Int) L f ((List.range j).map fun t => trim (F t)) ((List.range j).map fun t => wr p L t (F t)).flatten (j : Int) = kx ((List.range w).map fun t => trim (F t)) ((List.range w).map fun t => wr p L t (F t)).flatten p (k : Int)
  | 0, j, _, h => by omega
  | f + 1, j, h1, h2 => by
    rw [X23]
    unfold X4c
    by_cases hj : j < w
    · rw [if_pos (by omega), Xl6 hf h hL hLp hk hn hj (hF j hj)]
      simp only [Option.bind_some]
      have hwl : ∀ t, (wr p L t (F t)).length ≤ 32 := fun t => by
        unfold wr
        rw [List.length_map]
        have h3 := List.length_filter_le (Alg.bad p (F t)) (kn (col L t) 0)
        have h4 := Xh5 (col L t) 0
        rw [Xhu] at h4
        omega
      have hfl : ∀ m : Nat, ((List.range m).map fun t => wr p L t (F t)).flatten.length ≤ m * 32 := fun m => by
        induction m with
        | zero => simp
        | succ m ih =>
          rw [List.range_succ, List.map_append, List.flatten_append, List.length_append]
          have := hwl m
          simp only [List.map_cons, List.map_nil, List.flatten_cons, List.flatten_nil, List.append_nil]
          omega
      have h3 := hfl j
      have h4 := hwl j
      rw [if_neg (by simp), Xk (by simp; omega), Option.bind_some, Xk (by omega), Option.bind_some, w64_id (by omega) (by omega), show (j : Int) + 1 = ((j + 1 : Nat) : Int) by omega]
      have ih := Xo3 hf hw h hL hLp hk hn hF kx f (j + 1) (by omega) (by omega)
      rw [List.range_succ, List.map_append, List.map_append, List.flatten_append] at ih
      simpa using ih
    · rw [if_neg (by omega), show j = w by omega]
theorem Xmz {p : Int} (hf : Fd p) {w : Nat} (hw : w ≤ 64) {L : List (Bool × List Int)} (h : AnsOK p w L) (hL : L.length ≤ 32) (hLp : (L.length : Int) < p) {k : Nat} (hk : 1 ≤ k) (hn : k ≤ nk L) {F : Nat → List Int} (hF : ∀ j, j < w → Fit p k L j (F j)) :
    X3x (p, (k : Int), L) (w : Int) = Xf ((List.range w).map fun t => trim (F t)) ((List.range w).map fun t => wr p L t (F t)).flatten p (k : Int) := by
  unfold X3x
  dsimp only
  have := Xo3 hf hw h hL hLp hk hn hF Xf big 0 (by omega) (by simp only [big]; omega)
  simpa using this
theorem Xn0 (f : List Int) (i : Nat) : X3y (trim f) (i : Int) = some (Alg.gd f i) := by
  unfold X3y
  by_cases h : i < (trim f).length
  · rw [if_pos (by omega), X53 h, Option.bind_some, Xc8]
  · rw [if_neg (by omega), ← Xc8, Alg.Xcw (by omega)]
end Go.Proofs.YtfcicopgdahmcaaGreatDoor
end

section
namespace Go.Proofs.YtfcicopgdahmcaaGreatDoor
open Alg (Cg Pr)
def PlanOK (p : Int) (s d : Nat) : Prop := 2 ≤ s ∧ s ≤ 10 ∧ 1 ≤ d ∧ d < s ∧ (s : Int) < p
theorem cvcheck {p : Int} (hf : Fd p) {s d : Nat} (h : PlanOK p s d) : X8b p ((s : Int), (d : Int)) = some 0 := by
  obtain ⟨h1, h2, h3, h4, h5⟩ := h
  unfold X8b Xat
  rw [of_eq hf]
  simp only [Option.bind_some]
  rw [if_neg (by simp), decide_eq_true (by omega), if_neg (by simp; omega)]
theorem cvcheck2 {p : Int} (hf : Fd p) {s d : Nat} (h : PlanOK p s d) {n : Nat} (hn : 1 ≤ n ∧ n ≤ 1024) : X8c p ((s : Int), (d : Int)) (n : Int) = some 0 := by
  unfold X8c
  rw [cvcheck hf h, Option.bind_some, if_neg (by omega)]
theorem Xfm {p : Int} {m : Nat} (hm : m ≤ 100000) : ∀ (f c : Nat), c ≤ m → m - c < f → X59 (m : Int) p f (List.replicate c p) (c : Int) = some (List.replicate m p, 0)
  | 0, c, _, h => by omega
  | f + 1, c, h1, h2 => by
    rw [X59]
    unfold X7v
    by_cases h : c < m
    · rw [if_pos (by omega), Xk (by simp; omega), Option.bind_some, w64_id (by omega) (by omega), show (c : Int) + 1 = ((c + 1 : Nat) : Int) by omega, show List.replicate c p ++ [p] = List.replicate (c + 1) p by rw [List.replicate_succ']]
      exact Xfm hm f (c + 1) (by omega) (by omega)
    · rw [if_neg (by omega), show c = m by omega]
theorem cvlimits {p : Int} (hf : Fd p) {s d : Nat} (h : PlanOK p s d) {n : Nat} (hn : 1 ≤ n ∧ n ≤ 1024) : X8u p ((s : Int), (d : Int)) (n : Int) = some (List.replicate (n * d) p, 0) := by
  have h' := h
  obtain ⟨h1, h2, h3, h4, h5⟩ := h'
  unfold X8u
  rw [cvcheck2 hf h hn, Option.bind_some, if_neg (by omega)]
  have hm : n * d ≤ 1024 * 10 := Nat.mul_le_mul hn.2 (by omega)
  dsimp only
  rw [show (n : Int) * (d : Int) = ((n * d : Nat) : Int) by simp, w64_id (by omega) (by omega)]
  exact Xfm (by omega) big 0 (by omega) (by simp only [big]; omega)
theorem Xik (kx : (List Int) → Int → Int → Int → Option ((List (Int × Int)) × ((List Int) × Int) × Int)) (z1 z2 : Int) {s : Nat} (hs : s ≤ 500) : ∀ (f c : Nat), c ≤ s → s - c < f → X64 kx (s : Int) z1 z2 f ((List.range c).map fun i => ((i + 1 : Nat) : Int)) (c : Int) = kx ((List.range s).map fun i => ((i + 1 : Nat) : Int)) 0 z1 z2
  | 0, c, _, h => by omega
  | f + 1, c, h1, h2 => by
    rw [X64]
    unfold X8k
    by_cases h : c < s
    · rw [if_pos (by omega), w64_id (by omega) (by omega), Xk (by simp; omega), Option.bind_some, show (c : Int) + 1 = ((c + 1 : Nat) : Int) by omega]
      have ih := Xik kx z1 z2 hs f (c + 1) (by omega) (by omega)
      rw [List.range_succ, List.map_append] at ih
      exact ih
    · rw [if_neg (by omega), show c = s by omega]
def Shs (p : Int) (c : List Int) (xs : List Int) (out : List (Int × Int)) : Prop := out.length = xs.length ∧ ∀ i (hi : i < xs.length), ∃ v, out[i]? = some (xs[i], v) ∧ E1 p v ∧ Cg p v (Alg.pv c xs[i])
theorem Xil {p : Int} (hp : 2 ≤ p ∧ p ≤ 65521) {c : List Int} (hc : El p c) (hcl : c.length ≤ 1000) : ∀ (xs : List Int) (acc : List (Int × Int)), El p xs → acc.length + xs.length ≤ 1000 → ∃ out, X39 p c xs acc = some (acc ++ out) ∧ Shs p c xs out
  | [], acc, _, _ => ⟨[], by simp [X39], rfl, fun i hi => absurd hi (by simp)⟩
  | x :: xs, acc, h, h2 => by
    obtain ⟨hx, h⟩ := El.cons.1 h
    simp only [List.length_cons] at h2
    rw [X39]
    unfold X7h
    obtain ⟨v, v1, v2, v3⟩ := Xdl hp hc (by omega) hx
    rw [v1, Option.bind_some, Xk (by simp; omega), Option.bind_some]
    obtain ⟨out, e, o1, o2⟩ := Xil hp hc hcl xs (acc ++ [(x, v)]) h (by simp; omega)
    refine ⟨(x, v) :: out, by rw [e]; simp, by simp [o1], fun i hi => ?_⟩
    cases i with
    | zero => exact ⟨v, rfl, v2, v3⟩
    | succ i => simpa using o2 i (by simpa using hi)
theorem Xn1 {p : Int} (hf : Fd p) {sec : Int} (hsec : E1 p sec) {d s : Nat} (hd : d ≤ 9) (hs : 1 ≤ s ∧ s ≤ 500) (hsp : (s : Int) < p) {T : List Int} (hT : El p T) (hTl : T.length = d) :
    ∃ out t, X9s p sec (d : Int) (s : Int) (T, 0) = some (out, t, 0) ∧ Shs p (sec :: T) ((List.range s).map fun i => ((i + 1 : Nat) : Int)) out := by
  have hp := hf.rng
  unfold X9s X2b X7g
  rw [of_eq hf]
  simp only [Option.bind_some]
  rw [if_neg (by simp), decide_eq_true (show 0 ≤ sec ∧ sec < p from hsec)]
  simp only [Option.bind_some]
  rw [if_neg (by simp), decide_eq_true (by omega), if_neg (by simp; omega)]
  have := Xic hp hT (n := d) (at0 := 0) (by omega) (by omega)
  rw [show ((0 : Nat) : Int) = 0 from rfl] at this
  rw [this]
  simp only [Option.bind_some]
  rw [if_neg (by simp)]
  have l2 := Xik (X3p sec p T ((T.drop 0).take d)) ((0 + d : Nat) : Int) p hs.2 big 0 (by omega) (by simp only [big]; omega)
  rw [List.range_zero, List.map_nil, show ((0 : Nat) : Int) = 0 from rfl] at l2
  rw [l2]
  unfold X3p
  have eT : (T.drop 0).take d = T := by rw [List.drop_zero, List.take_of_length_le (by omega)]
  rw [eT, Xk (by simp; omega), Option.bind_some]
  unfold Xa2
  obtain ⟨out, e, o⟩ := Xil hp (c := sec :: T) (El.cons.2 ⟨hsec, hT⟩) (by simp; omega) ((List.range s).map fun i => ((i + 1 : Nat) : Int)) [] (fun x hx => by
    obtain ⟨i, hi, rfl⟩ := List.mem_map.1 hx
    have := List.mem_range.1 hi
    exact ⟨by omega, by omega⟩) (by simp; omega)
  rw [List.nil_append] at e
  rw [List.singleton_append, e]
  exact ⟨out, _, rfl, o⟩
def hid (d idx : Nat) (T : List Int) (i : Nat) : List Int := (if i = idx then 1 else 0) :: (T.drop (i * d)).take d
structure Qc (p : Int) (s d idx : Nat) (T : List Int) (m : Nat) (qs : List (List Int)) : Prop where
  len : qs.length = s
  rw : Rw p m qs
  val : ∀ k, k < s → ∀ i, i < m → Cg p (Alg.gd (gr qs k) i) (Alg.pv (hid d idx T i) ((k : Int) + 1))
theorem Xrk {p : Int} {d idx m : Nat} {T : List Int} (hm : m ≤ 2000) {s : Nat} (hs : s ≤ 10) {qs : List (List Int)} (hq : Qc p s d idx T m qs) {sh : List (Int × Int)} (hsh : Shs p (hid d idx T m) ((List.range s).map fun i => ((i + 1 : Nat) : Int)) sh) (rec : Int → (List (List Int)) → Int → Int → Int → Int → Int → Int → Option ((List (List Int)) × ((List Int) × Int) × Int)) (z1 z2 z3 z4 z5 z6 : Int) :
    ∀ (xs : List (Int × Int)) (k : Nat) (A : List (List Int)), sh.drop k = xs → A.length = s → (∀ i, i < k → (gr A i).length = m + 1 ∧ El p (gr A i) ∧ (∀ j, j < m → Alg.gd (gr A i) j = Alg.gd (gr qs i) j) ∧ Cg p (Alg.gd (gr A i) m) (Alg.pv (hid d idx T m) ((i : Int) + 1))) → (∀ i, k ≤ i → gr A i = gr qs i) →
    ∃ qs', X2k rec (m : Int) z1 z2 z3 z4 z5 z6 xs k A = rec ((m + 1 : Nat) : Int) qs' z1 z2 z3 z4 z5 z6 ∧ Qc p s d idx T (m + 1) qs'
  | [], k, A, hd, h1, h2, h3 => by
    have hk : s ≤ k := by
      have := congrArg List.length hd
      have h4 := hsh.1
      simp at this h4; omega
    rw [X2k, w64_id (by omega) (by omega), show (m : Int) + 1 = ((m + 1 : Nat) : Int) by omega]
    refine ⟨A, rfl, h1, fun r hr => ?_, fun i hi j hj => ?_⟩
    · obtain ⟨i, hi, rfl⟩ := List.getElem_of_mem hr
      rw [← Xf3 hi]
      have := h2 i (by omega)
      exact ⟨this.1, this.2.1⟩
    · obtain ⟨a, b, c, e⟩ := h2 i (by omega)
      by_cases hj2 : j < m
      · rw [c j hj2]; exact hq.val i hi j hj2
      · rw [show j = m by omega]; exact e
  | x :: xs, k, A, hd, h1, h2, h3 => by
    have hk : k < sh.length := by
      rcases Nat.lt_or_ge k sh.length with h | h
      · exact h
      · rw [List.drop_of_length_le h] at hd; cases hd
    have hks : k < s := by have := hsh.1; simp at this; omega
    obtain ⟨v, v1, v2, v3⟩ := hsh.2 k (by simpa using hks)
    have hx : x = (((k + 1 : Nat) : Int), v) := by
      have h5 := List.drop_eq_getElem_cons hk
      rw [hd] at h5
      rw [(List.cons.inj h5).1]
      have h6 := List.getElem?_eq_getElem hk
      rw [h6] at v1
      simpa using v1
    have hqk := hq.rw.gr (i := k) (by have := hq.len; omega)
    rw [X2k]
    unfold X6p
    rw [Xac (by omega), h3 k (Nat.le_refl _)]
    simp only [Option.bind_some]
    rw [Xk (by simp; omega)]
    simp only [Option.bind_some]
    rw [X9m (by omega), Option.bind_some]
    refine Xrk hm hs hq hsh rec z1 z2 z3 z4 z5 z6 xs (k + 1) _ (by rw [← List.drop_drop, hd]; rfl) (by simp [h1]) (fun i hi => ?_) (fun i hi => ?_)
    · rw [Xfj (by omega)]
      by_cases e : i = k
      · rw [if_pos e, e]
        subst e
        refine ⟨by simp [hqk.1], hqk.2.app (El.cons.2 ⟨by rw [hx]; exact v2, El.nil⟩), fun j hj => Xig j (by omega), ?_⟩
        have : Alg.gd (gr qs i ++ [x.2]) m = x.2 := by
          have := Xej (gr qs i) x.2
          rwa [hqk.1] at this
        rw [this, hx]
        simpa using v3
      · rw [if_neg e]; exact h2 i (by omega)
    · rw [Xfj (by omega), if_neg (by omega)]; exact h3 i (by omega)
theorem Xrl {p : Int} (hf : Fd p) {s d n idx : Nat} (h : PlanOK p s d) (hn : n ≤ 1024) {T : List Int} (hT : El p T) (hTl : T.length = n * d) (kx : (List Int) → (List (List Int)) → Int → Int → Int → Int → Int → Int → Option ((List (List Int)) × ((List Int) × Int) × Int)) (z1 z2 z3 : Int) : ∀ (f m : Nat) (qs : List (List Int)), m ≤ n → n - m < f → Qc p s d idx T m qs →
    ∃ qs', Xy kx (idx : Int) T (n : Int) f (m : Int) qs z1 z2 z3 (s : Int) (d : Int) p = kx T qs' z1 z2 z3 (s : Int) (d : Int) p ∧ Qc p s d idx T n qs'
  | 0, m, qs, _, h2, _ => by omega
  | f + 1, m, qs, h1, h2, h3 => by
    have h' := h
    obtain ⟨p1, p2, p3, p4, p5⟩ := h'
    have hp := hf.rng
    rw [Xy]
    unfold X6r
    by_cases hm : m < n
    · rw [if_pos (by omega)]
      have key : ∀ sec : Int, sec = (if m = idx then 1 else 0) → ∃ qs', (X4e (Xy kx (idx : Int) T (n : Int) f) (m : Int) T z1 z2 z3 (s : Int) (d : Int) p qs) sec = kx T qs' z1 z2 z3 (s : Int) (d : Int) p ∧ Qc p s d idx T n qs' := fun sec hsec => by
        have m1 : (m + 1) * d ≤ n * d := Nat.mul_le_mul_right _ hm
        have m2 : n * d ≤ 1024 * 10 := Nat.mul_le_mul hn (by omega)
        have m3 : (m + 1) * d = m * d + d := by rw [Nat.add_mul, Nat.one_mul]
        unfold X4e
        rw [w64_id (x := (m : Int) + 1) (by omega) (by omega), show (m : Int) * (d : Int) = ((m * d : Nat) : Int) by simp, show ((m : Int) + 1) * (d : Int) = (((m + 1) * d : Nat) : Int) by simp, w64_id (x := ((m * d : Nat) : Int)) (by omega) (by omega), w64_id (x := (((m + 1) * d : Nat) : Int)) (by omega) (by omega), X5c (by omega) (by omega) (by omega)]
        simp only [Option.bind_some]
        have e1 : ((T.drop ((m * d : Nat) : Int).toNat).take ((((m + 1) * d : Nat) : Int) - ((m * d : Nat) : Int)).toNat) = (T.drop (m * d)).take d := by
          rw [Int.toNat_natCast, show ((((m + 1) * d : Nat) : Int) - ((m * d : Nat) : Int)).toNat = d by omega]
        rw [e1]
        obtain ⟨out, t, o1, o2⟩ := Xn1 hf (sec := sec) (by rw [hsec]; split <;> exact ⟨by omega, by omega⟩) (d := d) (s := s) (by omega) (by omega) p5 (T := (T.drop (m * d)).take d) (fun x hx => hT x (List.mem_of_mem_drop (List.mem_of_mem_take hx))) (by rw [List.length_take, List.length_drop]; omega)
        rw [o1]
        simp only [Option.bind_some]
        unfold X6q
        rw [if_neg (by simp)]
        have e2 : sec :: (T.drop (m * d)).take d = hid d idx T m := by unfold hid; rw [hsec]
        rw [e2] at o2
        obtain ⟨qs', q1, q2⟩ := Xrk (by omega) p2 h3 o2 (Xy kx (idx : Int) T (n : Int) f) z1 z2 z3 (s : Int) (d : Int) p out 0 qs rfl h3.len (fun i hi => by omega) (fun i _ => rfl)
        rw [q1]
        exact Xrl hf h hn hT hTl kx z1 z2 z3 f (m + 1) qs' (by omega) (by omega) q2
      by_cases e : m = idx
      · rw [if_pos (by omega)]; exact key 1 (by rw [if_pos e])
      · rw [if_neg (by omega)]; exact key 0 (by rw [if_neg e])
    · rw [if_neg (by omega)]
      have : m = n := by omega
      subst this
      exact ⟨qs, rfl, h3⟩
theorem Xhv {p : Int} (hf : Fd p) {s d n idx : Nat} (h : PlanOK p s d) (hn : 1 ≤ n ∧ n ≤ 1024) (hi : idx < n) {T : List Int} (hT : El p T) (hTl : T.length = n * d) :
    ∃ qs t, X6i p ((s : Int), (d : Int)) (n : Int) (idx : Int) (T, 0) = some (qs, t, 0) ∧ Qc p s d idx T n qs := by
  have h' := h
  obtain ⟨p1, p2, p3, p4, p5⟩ := h'
  have hp := hf.rng
  have m2 : n * d ≤ 1024 * 10 := Nat.mul_le_mul hn.2 (by omega)
  unfold X6i
  rw [cvcheck2 hf h hn, Option.bind_some, if_neg (by omega), if_neg (by omega)]
  dsimp only
  rw [show (n : Int) * (d : Int) = ((n * d : Nat) : Int) by simp, w64_id (by omega) (by omega)]
  have := Xic hp hT (n := n * d) (at0 := 0) (by omega) (by omega)
  rw [show ((0 : Nat) : Int) = 0 from rfl] at this
  rw [this]
  simp only [Option.bind_some]
  rw [if_neg (by simp), Xfi _ (by omega), Option.bind_some]
  have eT : (T.drop 0).take (n * d) = T := by rw [List.drop_zero, List.take_of_length_le (by omega)]
  rw [eT]
  obtain ⟨qs, q1, q2⟩ := Xrl hf h hn.2 hT hTl (idx := idx) (Xx T) ((0 + n * d : Nat) : Int) 0 0 big 0 (List.replicate s []) (by omega) (by simp only [big]; omega) { len := by simp, rw := fun r hr => by rw [(List.mem_replicate.1 hr).2]; exact ⟨rfl, El.nil⟩, val := fun k hk i hi => absurd hi (by omega) }
  rw [show ((0 : Nat) : Int) = 0 from rfl] at q1
  rw [q1]
  unfold Xx
  rw [Xk (by simp; omega)]
  exact ⟨qs, _, rfl, q2⟩
end Go.Proofs.YtfcicopgdahmcaaGreatDoor
end

section
namespace Go.Proofs.YtfcicopgdahmcaaGreatDoor
set_option linter.unusedVariables false
theorem Xim {l : List Int} (hl : l.length ≤ 1000) : ∀ (m fuel : Nat) (rest out : List Int) (d : List Int × Int), rest.length = m → m < fuel → m + out.length ≤ 1000 → Dk l d →
    ∃ r e, X5m fuel rest out d.1 d.2 = some (r, e) ∧ Dk l e ∧ r.Perm (out ++ rest)
  | 0, fuel + 1, rest, out, d, hr, _, _, hd => by
    have : rest = [] := List.eq_nil_of_length_eq_zero hr
    subst this
    rw [X5m]
    unfold X7w
    rw [if_neg (by simp)]
    exact ⟨out, (d.1, d.2), rfl, hd, by simp⟩
  | m + 1, fuel + 1, rest, out, d, hr, hf, hm, hd => by
    rw [X5m]
    unfold X7w
    rw [if_pos (by omega)]
    obtain ⟨v, e1, h1, a1, b1, c1⟩ := X91 hl (d := (d.1, d.2)) hd (n := (rest.length : Int)) (by omega)
    rw [h1]
    simp only [Option.bind_some]
    have hk : v.toNat < rest.length := by omega
    rw [Xed 0 a1 b1]
    simp only [Option.bind_some]
    rw [Xk (by simp; omega)]
    simp only [Option.bind_some]
    have hs3 : lsub3 rest 0 v v = some (rest.take v.toNat) := by
      unfold lsub3
      rw [if_pos ⟨Int.le_refl _, by omega⟩, X5c (by omega) a1 (by omega)]
      simp
    have hs : lsub rest (w64 (v + 1)) (rest.length : Int) = some (rest.drop (v.toNat + 1)) := by
      rw [w64_id (by omega) (by omega), X5c (by omega) (by omega) (by omega), show (v + 1).toNat = v.toNat + 1 from by omega]
      congr 1
      exact List.take_of_length_le (by simp; omega)
    rw [hs3, hs]
    simp only [Option.bind_some]
    rw [Xk (by simp; omega)]
    simp only [Option.bind_some]
    have hsplit : rest = rest.take v.toNat ++ rest.getD v.toNat 0 :: rest.drop (v.toNat + 1) := by
      rw [List.getD_eq_getElem?_getD, List.getElem?_eq_getElem hk, Option.getD_some, ← List.drop_eq_getElem_cons hk, List.take_append_drop]
    obtain ⟨r, e, k1, k2, k3⟩ := Xim hl m fuel (rest.take v.toNat ++ rest.drop (v.toNat + 1)) (out ++ [rest.getD v.toNat 0]) e1 (by simp; omega) (by omega) (by simp; omega) c1
    refine ⟨r, e, k1, k2, k3.trans ?_⟩
    conv => rhs; rw [hsplit]
    rw [List.append_assoc]
    refine List.Perm.append_left _ ?_
    rw [List.singleton_append]
    exact List.perm_middle.symm
theorem Xin {l : List Int} (n : Nat) (z2 : Int) (kx : List Int → Int → Option (List Int × List Int × Int)) : ∀ (m k fuel : Nat), k + m = n → m < fuel → n ≤ 1000 → X5n kx (n : Int) z2 fuel ((List.range k).map fun (i : Nat) => (i : Int)) (k : Int) = kx ((List.range n).map fun (i : Nat) => (i : Int)) z2
  | 0, k, fuel + 1, hk, _, _ => by
    simp at hk; subst hk
    rw [X5n]
    unfold X7x
    rw [if_neg (by omega)]
  | m + 1, k, fuel + 1, hk, hf, hn => by
    rw [X5n]
    unfold X7x
    rw [if_pos (by omega), Xk (by simp; omega)]
    simp only [Option.bind_some]
    rw [w64_id (by omega) (by omega)]
    have := Xin (l := l) n z2 kx m (k + 1) fuel (by omega) (by omega) hn
    rw [List.range_succ, List.map_append] at this
    exact_mod_cast this
theorem Xn2 {l : List Int} (hl : l.length ≤ 1000) {d : List Int × Int} (hd : Dk l d) {n : Nat} (hn : n ≤ 500) : ∃ r e, Xaj d n = some (r, e) ∧ Dk l e ∧ r.Perm ((List.range n).map fun (i : Nat) => (i : Int)) := by
  unfold Xaj
  have := Xin (l := l) n d.2 (X4u d.1) n 0 big (by omega) (by simp only [big]; omega) (by omega)
  simp only [List.range_zero, List.map_nil] at this
  rw [show ((0 : Nat) : Int) = 0 from rfl] at this
  rw [this]
  unfold X4u
  obtain ⟨r, e, h1, h2, h3⟩ := Xim hl n big ((List.range n).map fun (i : Nat) => (i : Int)) [] d (by simp) (by simp only [big]; omega) (by simp; omega) hd
  exact ⟨r, e, h1, h2, by simpa using h3⟩
end Go.Proofs.YtfcicopgdahmcaaGreatDoor
end

section
namespace Go.Proofs.YtfcicopgdahmcaaGreatDoor
open Alg (Cg Pr)
def mixf (p : Int) (n k : Nat) (c : Nat → List Int) (R : List (List Int)) (j : Nat) : List Int := (List.range k).map fun t => Alg.sm n (fun r => Alg.gd (c r) t * Alg.gd (gr R r) j) % p
theorem Xq1 {p : Int} (hp : 2 ≤ p) (n k : Nat) (c : Nat → List Int) (R : List (List Int)) (j : Nat) : El p (mixf p n k c R j) := fun x hx => by
  obtain ⟨t, _, rfl⟩ := List.mem_map.1 hx
  exact E1.emod hp _
theorem Xl7 {p : Int} {n k : Nat} {c : Nat → List Int} {R : List (List Int)} {j t : Nat} (ht : t < k) : Alg.gd (mixf p n k c R j) t = Alg.sm n (fun r => Alg.gd (c r) t * Alg.gd (gr R r) j) % p := by
  simp [mixf, Alg.gd, List.getD_eq_getElem?_getD, ht]
theorem Xq2 {p : Int} {n k : Nat} {c : Nat → List Int} {R : List (List Int)} {j : Nat} (hc : ∀ r, r < n → (c r).length ≤ k) (x : Int) : Cg p (Alg.pv (mixf p n k c R j) x) (Alg.sm n (fun r => Alg.pv (c r) x * Alg.gd (gr R r) j)) := by
  have hl : (mixf p n k c R j).length = k := by simp [mixf]
  rw [Alg.Xmn, hl]
  have h1 : Cg p (Alg.sm k (fun t => Alg.gd (mixf p n k c R j) t * x ^ t)) (Alg.sm k (fun t => Alg.sm n (fun r => Alg.gd (c r) t * x ^ t * Alg.gd (gr R r) j))) := Alg.X9k fun t ht => by
    rw [Xl7 ht]
    refine ((Cg.emod p _).mul (Cg.refl p (x ^ t))).trans (Cg.of ?_)
    rw [← Xd8]
    refine Alg.Xg5 fun r _ => ?_
    rw [Int.mul_assoc, Int.mul_assoc, Int.mul_comm (x ^ t)]
  refine h1.trans (Cg.of ?_)
  rw [Xkj (fun t r => Alg.gd (c r) t * x ^ t * Alg.gd (gr R r) j)]
  refine Alg.Xg5 fun r hr => ?_
  rw [Xd8 (Alg.gd (gr R r) j) (fun t => Alg.gd (c r) t * x ^ t), Alg.Xi9 x (hc r hr)]
theorem Xq3 {d idx : Nat} {T : List Int} (i : Nat) : (hid d idx T i).length ≤ d + 1 := by
  unfold hid
  rw [List.length_cons, List.length_take]; omega
theorem Xq4 {p : Int} (hp : 2 ≤ p) {n d idx k : Nat} {T : List Int} {R : List (List Int)} {w : Nat} (hR : Rw p w R) (hn : R.length = n) (hi : idx < n) (hk : 0 < k) (j : Nat) : Alg.gd (mixf p n k (hid d idx T) R j) 0 = Alg.gd (gr R idx) j := by
  have hr := El.gd hp (hR.gr (i := idx) (by omega)).2 j
  rw [Xl7 hk]
  have h1 : Cg p (Alg.sm n (fun r => Alg.gd (hid d idx T r) 0 * Alg.gd (gr R r) j)) (Alg.gd (gr R idx) j) := by
    have := Alg.Xka (p := p) (f := fun r => Alg.gd (hid d idx T r) 0 * Alg.gd (gr R r) j) (q := idx) (n := n) (fun i _ h => Cg.of (by simp [hid, Alg.gd, h])) hi
    exact this.trans (Cg.of (by simp [hid, Alg.gd]))
  have h2 := E1.emod hp (Alg.sm n (fun r => Alg.gd (hid d idx T r) 0 * Alg.gd (gr R r) j))
  exact ((Cg.emod p _).trans h1).eq h2.1 h2.2 hr.1 hr.2
theorem Xl8 (kx : (List Int) → Int → Int → Int → Int → Int → Option (((List Int) × (List Int)) × Int)) (z1 z2 z3 z4 : Int) : ∀ (xs : List (List Int)) (acc : List Int), (∀ x ∈ xs, ∃ y, x = trim y) → acc.length + xs.length ≤ 1000 →
    X3c kx z1 z2 z3 z4 xs acc = kx (acc ++ xs.map fun x => Alg.gd x 0) z1 z2 z3 z4 z1
  | [], acc, _, _ => by simp [X3c]
  | x :: xs, acc, h2, h3 => by
    simp only [List.length_cons] at h3
    obtain ⟨y, rfl⟩ := h2 x List.mem_cons_self
    rw [X3c]
    unfold X7s
    have := Xn0 y 0
    rw [show ((0 : Nat) : Int) = 0 from rfl] at this
    rw [this, Option.bind_some, Xk (by simp; omega), Option.bind_some]
    have e := Xc8 y 0
    rw [Xl8 kx z1 z2 z3 z4 xs (acc ++ [Alg.gd y 0]) (fun z hz => h2 z (List.mem_cons_of_mem _ hz)) (by simp; omega)]
    rw [List.map_cons, e]; simp
theorem Xq5 {p : Int} (hf : Fd p) {s d : Nat} (h : PlanOK p s d) {w : Nat} (hw : w ≤ 64) {L : List (Bool × List Int)} (hL : AnsOK p w L) (hLl : L.length = s) (hn : d + 1 ≤ nk L) {F : Nat → List Int} (hF : ∀ j, j < w → Fit p (d + 1) L j (F j)) {W : List Int}
    (hW : Xf ((List.range w).map fun t => trim (F t)) ((List.range w).map fun t => wr p L t (F t)).flatten p ((d + 1 : Nat) : Int) = some ((List.range w).map fun t => trim (F t), W, 0)) :
    X76 p ((s : Int), (d : Int)) (w : Int) L = some (((List.range w).map fun j => Alg.gd (F j) 0, W), 0) := by
  have h' := h
  obtain ⟨p1, p2, p3, p4, p5⟩ := h'
  unfold X76
  rw [cvcheck hf h]
  simp only [Option.bind_some]
  rw [if_neg (by simp), w64_id (x := (d : Int) + 1) (by omega) (by omega), show (d : Int) + 1 = ((d + 1 : Nat) : Int) by omega]
  have hc := Xl5 hw hL (by omega) hn
  rw [hLl] at hc
  rw [hc]
  simp only [Option.bind_some]
  rw [if_neg (by simp), Xmz hf hw hL (by omega) (by omega) (by omega) hn hF, hW]
  simp only [Option.bind_some]
  rw [if_neg (by simp), Xl8 _ _ _ _ _ _ [] (fun x hx => by
      obtain ⟨t, _, rfl⟩ := List.mem_map.1 hx
      exact ⟨_, rfl⟩) (by simp; omega)]
  unfold X3z
  simp only [List.nil_append, List.map_map]
  congr 3
  refine List.map_congr_left fun t _ => ?_
  exact Xc8 (F t) 0
theorem Xio (kx : List (Bool × List Int) → Int → Int → Option (List (Bool × List Int) × List Int × (List Int × Int))) (z1 z2 : Int) : ∀ (As : List (List Int)) (acc : List (Bool × List Int)), (∀ a ∈ As, a.length ≤ 1000) → acc.length + As.length ≤ 1000 → X3f kx z1 z2 As acc = kx (acc ++ As.map fun a => (true, a)) z1 z2
  | [], acc, _, _ => by simp [X3f]
  | a :: As, acc, h, h2 => by
    have ha := h a List.mem_cons_self
    simp only [List.length_cons] at h2
    rw [X3f]
    unfold X80
    rw [Xk (by simp; omega), Option.bind_some, Xk (by simp; omega), Option.bind_some, Xio kx z1 z2 As _ (fun b hb => h b (List.mem_cons_of_mem _ hb)) (by simp; omega)]
    simp
theorem Xl9 (kx : List (List Int) → Option (((List Int) × (List Int)) × (List Int) × Bool × ((List Int) × Int))) {p : Int} {w : Nat} {R : List (List Int)} (z1 : List Int) (z2 : Int) : ∀ (qs As acc : List (List Int)), Ans p w R qs As → acc.length + qs.length ≤ 1000 → X69 kx (w : Int) R z1 z2 p qs acc = kx (acc ++ As)
  | [], As, acc, h, _ => by
    have : As = [] := List.eq_nil_of_length_eq_zero (by simpa using h.len)
    subst this
    simp [X69]
  | q :: qs, [], acc, h, _ => by have := h.len; simp at this
  | q :: qs, a :: As, acc, h, h2 => by
    simp only [List.length_cons] at h2
    have h3 := h.ans 0 (by simp)
    have hA : Ans p w R qs As := { len := by simpa using h.len, rw := (Rw.cons.1 h.rw).2, ans := fun k hk => h.ans (k + 1) (by simpa using hk), sum := fun k hk => h.sum (k + 1) (by simpa using hk) }
    rw [X69]
    unfold Xax
    rw [show gr (q :: qs) 0 = q from rfl, show gr (a :: As) 0 = a from rfl] at h3
    rw [h3]
    simp only [Option.bind_some]
    rw [if_neg (by simp), Xk (by simp; omega), Option.bind_some, Xl9 kx z1 z2 qs As _ hA (by simp; omega)]
    simp
theorem Xq6 {p : Int} (hp : 2 ≤ p) {s d n idx : Nat} {T : List Int} {w : Nat} {R qs As : List (List Int)} (hRn : R.length = n) (hq : Qc p s d idx T n qs) (hA : Ans p w R qs As) (j : Nat) (k : Nat) (hk : k < s) :
    Cg p (Alg.pv (mixf p n (d + 1) (hid d idx T) R j) ((k : Int) + 1)) (Alg.gd (gr As k) j) := by
  have h1 := hA.sum k (by rw [hq.len]; exact hk) j
  rw [hRn] at h1
  refine (Xq2 (fun r _ => Xq3 r) _).trans (Cg.symm (h1.trans (Alg.X9k fun i hi => (hq.val k hk i hi).mul (Cg.refl p _))))
end Go.Proofs.YtfcicopgdahmcaaGreatDoor
end

section
namespace Go.Proofs.YtfcicopgdahmcaaGreatDoor
set_option linter.unusedVariables false
theorem Xq7 (x y : Int) : X8t x y = some (decide (x < y)) := by
  unfold X8t X7o
  simp
theorem Xgc {α : Type} (X : List α) (y : α) (Z : List α) : lidx (X ++ y :: Z) (X.length : Int) = some y := by
  refine Xc5 (by omega) ?_
  simp
theorem Xip {α : Type} (X : List α) (y w : α) (Z : List α) : lupd (X ++ y :: Z) (X.length : Int) w = some (X ++ w :: Z) := by
  rw [Xc7 (by omega) (by simp; omega)]
  simp
def Asc (l : List Int) : Prop := l.Pairwise (· ≤ ·)
theorem Xrm (rec : Int → List Int → Option (List Int)) (i : Int) (C : List Int) : ∀ (n : Nat) (A B : List Int) (v : Int) (f : Nat), A.length = n → n < f → n ≤ 1000 → Asc (A ++ B) → (∀ b ∈ B, v ≤ b) →
    ∃ S, X7 rec i 0 f (n : Int) (A ++ v :: (B ++ C)) = rec (w64 (i + 1)) (S ++ C) ∧ S.Perm (A ++ v :: B) ∧ Asc S := by
  intro n
  induction n with
  | zero =>
    intro A B v f hA hf _ hs hb
    obtain ⟨g, rfl⟩ : ∃ g, f = g + 1 := ⟨f - 1, by omega⟩
    have : A = [] := List.length_eq_zero_iff.1 hA
    subst this
    refine ⟨v :: B, ?_, List.Perm.refl _, List.pairwise_cons.2 ⟨hb, hs⟩⟩
    rw [X7]
    unfold Xt
    rw [if_neg (by omega)]
    rfl
  | succ n ih =>
    intro A B v f hA hf hn hs hb
    obtain ⟨g, rfl⟩ : ∃ g, f = g + 1 := ⟨f - 1, by omega⟩
    obtain ⟨A0, a, rfl⟩ : ∃ A0 a, A = A0 ++ [a] := by
      rcases List.eq_nil_or_concat A with h | ⟨A0, a, h⟩
      · subst h; simp at hA
      · exact ⟨A0, a, by simpa using h⟩
    have hA0 : A0.length = n := by simpa using hA
    rw [X7]
    unfold Xt
    rw [if_pos (by omega)]
    have e1 : A0 ++ [a] ++ v :: (B ++ C) = (A0 ++ [a]) ++ v :: (B ++ C) := rfl
    have e2 : A0 ++ [a] ++ v :: (B ++ C) = A0 ++ a :: (v :: (B ++ C)) := by simp
    have l1 : lidx (A0 ++ [a] ++ v :: (B ++ C)) ((n + 1 : Nat) : Int) = some v := by
      have := Xgc (A0 ++ [a]) v (B ++ C)
      rw [hA] at this; exact this
    have l2 : lidx (A0 ++ [a] ++ v :: (B ++ C)) (n : Int) = some a := by
      rw [e2]
      have := Xgc A0 a (v :: (B ++ C))
      rw [hA0] at this; exact this
    have w1 : w64 (((n + 1 : Nat) : Int) - 1) = (n : Int) := by rw [w64_id (by omega) (by omega)]; omega
    rw [w1, l1, l2]
    simp only [Option.bind_some]
    rw [Xq7]
    simp only [Option.bind_some]
    unfold X1j
    by_cases hlt : v < a
    · rw [if_pos (by simpa using hlt), w1, l2]
      simp only [Option.bind_some]
      rw [l1]
      simp only [Option.bind_some]
      have u1 : lupd (A0 ++ [a] ++ v :: (B ++ C)) ((n + 1 : Nat) : Int) a = some (A0 ++ a :: (a :: (B ++ C))) := by
        have := Xip (A0 ++ [a]) v a (B ++ C)
        rw [hA] at this; rw [this]; simp
      rw [u1]
      simp only [Option.bind_some]
      have l3 : lidx (A0 ++ a :: (a :: (B ++ C))) (n : Int) = some a := by
        have := Xgc A0 a (a :: (B ++ C))
        rw [hA0] at this; exact this
      rw [l3]
      simp only [Option.bind_some]
      have u2 : lupd (A0 ++ a :: (a :: (B ++ C))) (n : Int) v = some (A0 ++ v :: ((a :: B) ++ C)) := by
        have := Xip A0 a v (a :: (B ++ C))
        rw [hA0] at this; rw [this]; simp
      rw [u2]
      simp only [Option.bind_some]
      have hs2 : Asc (A0 ++ a :: B) := by
        have : A0 ++ a :: B = A0 ++ [a] ++ B := by simp
        rw [this]; exact hs
      obtain ⟨S, h1, h2, h3⟩ := ih A0 (a :: B) v g hA0 (by omega) (by omega) hs2 (fun b hb2 => by
        rcases List.mem_cons.1 hb2 with rfl | hb2
        · omega
        · exact hb b hb2)
      refine ⟨S, h1, h2.trans ?_, h3⟩
      have : A0 ++ [a] ++ v :: B = A0 ++ (a :: v :: B) := by simp
      rw [this]
      exact List.Perm.append_left A0 (List.Perm.swap a v B)
    · rw [if_neg (by simpa using hlt)]
      refine ⟨A0 ++ [a] ++ v :: B, by simp, List.Perm.refl _, ?_⟩
      have h1 := List.pairwise_append.1 hs
      refine List.pairwise_append.2 ⟨h1.1, List.pairwise_cons.2 ⟨hb, h1.2.1⟩, fun x hx y hy => ?_⟩
      rcases List.mem_cons.1 hy with rfl | hy
      · have h2 := List.pairwise_append.1 h1.1
        rcases List.mem_append.1 hx with hx | hx
        · have := h2.2.2 x hx a (by simp); omega
        · have : x = a := by simpa using hx
          omega
      · exact h1.2.2 x hx y hy
theorem Xrn (n : Nat) (hn : n ≤ 1000) : ∀ (C S : List Int) (f : Nat), S.length + C.length = n → C.length < f → Asc S → 1 ≤ S.length ∨ C = [] →
    ∃ y, X2 0 (n : Int) f (S.length : Int) (S ++ C) = some y ∧ y.Perm (S ++ C) ∧ Asc y := by
  intro C
  induction C with
  | nil =>
    intro S f h hf hs _
    obtain ⟨g, rfl⟩ : ∃ g, f = g + 1 := ⟨f - 1, by simp at hf; omega⟩
    refine ⟨S ++ [], ?_, List.Perm.refl _, by simpa using hs⟩
    rw [X2]
    unfold Xj
    rw [if_neg (by simp at h; omega)]
  | cons v C ih =>
    intro S f h hf hs h1
    obtain ⟨g, rfl⟩ : ∃ g, f = g + 1 := ⟨f - 1, by simp at hf; omega⟩
    simp only [List.length_cons] at h hf
    rw [X2]
    unfold Xj
    rw [if_pos (by omega)]
    obtain ⟨T, e, p, a⟩ := Xrm (X2 0 (n : Int) g) (S.length : Int) C S.length S [] v big rfl (by simp only [big]; omega) (by omega) (by simpa using hs) (by simp)
    rw [List.nil_append] at e
    rw [e, w64_id (by omega) (by omega)]
    have tl : T.length = S.length + 1 := by rw [p.length_eq]; simp
    obtain ⟨y, e2, p2, a2⟩ := ih T g (by omega) (by omega) a (.inl (by omega))
    rw [tl] at e2
    refine ⟨y, by exact_mod_cast e2, p2.trans ?_, a2⟩
    have : S ++ v :: C = (S ++ [v]) ++ C := by simp
    rw [this]
    exact List.Perm.append_right C p
theorem Xn3 {l : List Int} (h : l.length ≤ 1000) : ∃ y, X18 l 0 (l.length : Int) = some y ∧ y.Perm l ∧ Asc y := by
  unfold X18
  cases l with
  | nil =>
    refine ⟨[], ?_, List.Perm.refl _, List.Pairwise.nil⟩
    obtain ⟨g, hg⟩ : ∃ g, big = g + 1 := ⟨big - 1, by simp only [big]⟩
    rw [hg, X2]
    unfold Xj
    rw [if_neg (by rw [w64_id (by omega) (by omega)]; simp)]
  | cons v C =>
    have := Xrn (v :: C).length h C [v] big (by simp; omega) (by simp only [big]; simp at h; omega) (List.pairwise_singleton _ _) (.inl (by simp))
    rw [w64_id (by omega) (by omega)]
    exact this
theorem Xla : ∀ n : Nat, n ≤ 12 → ∃ r, X9g (IntKind.u64.wrap (n : Int)) = some r := by
  intro n hn
  match n, hn with
  | 0, _ => exact ⟨0, by kernel_rfl⟩
  | 1, _ => exact ⟨1, by kernel_rfl⟩
  | 2, _ => exact ⟨2, by kernel_rfl⟩
  | 3, _ => exact ⟨2, by kernel_rfl⟩
  | 4, _ => exact ⟨3, by kernel_rfl⟩
  | 5, _ => exact ⟨3, by kernel_rfl⟩
  | 6, _ => exact ⟨3, by kernel_rfl⟩
  | 7, _ => exact ⟨3, by kernel_rfl⟩
  | 8, _ => exact ⟨4, by kernel_rfl⟩
  | 9, _ => exact ⟨4, by kernel_rfl⟩
  | 10, _ => exact ⟨4, by kernel_rfl⟩
  | 11, _ => exact ⟨4, by kernel_rfl⟩
  | 12, _ => exact ⟨4, by kernel_rfl⟩
theorem Xq8 {l : List Int} (h : l.length ≤ 12) : ∃ y, X3w l = some y ∧ y.Perm l ∧ Asc y := by
  obtain ⟨r, hr⟩ := Xla l.length h
  obtain ⟨y, hy, p, a⟩ := Xn3 (l := l) (by omega)
  refine ⟨y, ?_, p, a⟩
  unfold X3w
  rw [hr]
  simp only [Option.bind_some]
  unfold X37
  obtain ⟨g, hg⟩ : ∃ g, big = g + 1 := ⟨big - 1, by simp only [big]⟩
  rw [hg, X19]
  unfold X3m
  rw [hg, X1o]
  unfold X2f
  rw [if_pos (by rw [w64_id (by omega) (by omega)]; omega), hy]
  rfl
theorem Xlb {l : List Int} (hl : l.length ≤ 1000) (hs : l.Pairwise (· < ·)) : ∀ (m i f : Nat), i + m = l.length → 1 ≤ i → m < f → Xp l f (i : Int) = some ((0, (l.length : Int)), l) := by
  intro m
  induction m with
  | zero =>
    intro i f h h1 hf
    obtain ⟨g, rfl⟩ : ∃ g, f = g + 1 := ⟨f - 1, by omega⟩
    rw [Xp]
    unfold X26
    rw [if_neg (by omega)]
  | succ m ih =>
    intro i f h h1 hf
    obtain ⟨g, rfl⟩ : ∃ g, f = g + 1 := ⟨f - 1, by omega⟩
    rw [Xp]
    unfold X26
    rw [if_pos (by omega), X4d 0 (by omega), w64_id (by omega) (by omega), show (i : Int) - 1 = ((i - 1 : Nat) : Int) by omega, X4d 0 (by omega)]
    simp only [Option.bind_some]
    unfold X38
    have hne : l.getD (i - 1) 0 < l.getD i 0 := by
      have := List.pairwise_iff_getElem.1 hs (i - 1) i (by omega) (by omega) (by omega)
      simpa [List.getD_eq_getElem?_getD, show i - 1 < l.length by omega, show i < l.length by omega] using this
    rw [if_neg (by simp only [decide_eq_true_eq]; omega), w64_id (by omega) (by omega)]
    exact_mod_cast ih (i + 1) g (by omega) (by omega) (by omega)
theorem Xjf {l : List Int} (hl : l.length ≤ 1000) (hs : l.Pairwise (· < ·)) : X2v l = some ((0, (l.length : Int)), l) := by
  unfold X2v
  by_cases h : (l.length : Int) < 2
  · rw [if_pos h]
  · rw [if_neg h]
    exact_mod_cast Xlb hl hs (l.length - 1) 1 big (by omega) (by omega) (by simp only [big]; omega)
theorem Xro {l : List Int} (h : Asc l) (hn : l.Nodup) : l.Pairwise (· < ·) := by
  refine (List.Pairwise.and h hn).imp fun h => ?_
  have := h.1; have := h.2; omega
theorem Xn4 : ∀ {l m : List Int}, l.Perm m → l.Pairwise (· < ·) → m.Pairwise (· < ·) → l = m := fun {l m} h h1 h2 =>
  List.Perm.eq_of_pairwise (fun a b _ _ (h3 : a < b) (h4 : b < a) => by omega) h1 h2 h
theorem Xq9 (P : List (List Int)) {W B : List Int} (a b : Int) (h : W.Perm B) (hB : B.Pairwise (· < ·)) (hl : B.length ≤ 12) : Xf P W a b = some (P, B, 0) := by
  obtain ⟨y, h1, h2, h3⟩ := Xq8 (l := W) (by rw [h.length_eq]; exact hl)
  have hn : y.Nodup := (h2.trans h).nodup_iff.2 (hB.imp fun h => by omega)
  have hy : y = B := Xn4 (h2.trans h) (Xro h3 hn) hB
  unfold Xf
  rw [h1]
  simp only [Option.bind_some]
  rw [hy, Xjf (by omega) hB]
  simp only [Option.bind_some]
  rw [X5c (by omega) (by omega) (by omega)]
  simp only [Option.bind_some]
  have e : (B.drop (0 : Int).toNat).take ((B.length : Int) - 0).toNat = B := by simp
  rw [e]
  have c : X8 B = some B := by
    unfold X8
    by_cases h0 : B = []
    · subst h0; rfl
    · simp [Xk, show B.length ≤ 16777216 by omega]
  rw [c]
  rfl
end Go.Proofs.YtfcicopgdahmcaaGreatDoor
end

section
namespace Go.Proofs.YtfcicopgdahmcaaGreatDoor
open Alg (Cg Pr)
set_option linter.unusedVariables false
def Cl (p : Int) (w : Nat) (a : List Int) (x : Bool × List Int) (b : Bool) : Prop :=
  if b = true then x.1 = true ∧ ∃ (c : Nat) (y : Int), c < w ∧ E1 p y ∧ y ≠ Alg.gd a c ∧ x.2 = a.set c y else x = (true, a) ∨ x = (false, [])
abbrev bg (v : List Bool) (k : Nat) : Bool := v.getD k false
abbrev cg (v : List (Bool × List Int)) (k : Nat) : Bool × List Int := v.getD k (false, [])
structure MS (p : Int) (w : Nat) (As : List (List Int)) (wr si : Nat) (i : Nat) (v1 : List (Bool × List Int)) (v2 : List Bool) : Prop where
  l1 : v1.length = As.length
  l2 : v2.length = As.length
  cl : ∀ k, k < As.length → Cl p w (gr As k) (cg v1 k) (bg v2 k)
  nb : (v2.filter fun b => b).length ≤ min i wr
  ns : (v1.filter fun a => !a.1).length ≤ min (i - wr) si
theorem Xb3 {α : Type} (f : α → Bool) (x : α) : ∀ (l : List α) (k : Nat), ((l.set k x).filter f).length ≤ (l.filter f).length + 1
  | [], _ => by simp
  | a :: l, 0 => by
    simp only [List.set_cons_zero, List.filter_cons]
    split <;> split <;> simp <;> omega
  | a :: l, k + 1 => by
    have := Xb3 f x l k
    simp only [List.set_cons_succ, List.filter_cons]
    split <;> simp <;> omega
theorem Xcr {α : Type} (f : α → Bool) (x : α) (hx : f x = false) : ∀ (l : List α) (k : Nat), ((l.set k x).filter f).length ≤ (l.filter f).length
  | [], _ => by simp
  | a :: l, 0 => by
    simp only [List.set_cons_zero, List.filter_cons, hx, Bool.false_eq_true, if_false]
    split <;> simp
  | a :: l, k + 1 => by
    have := Xcr f x hx l k
    simp only [List.set_cons_succ, List.filter_cons]
    split <;> simp <;> omega
theorem Xbv {α : Type} {l : List α} {k j : Nat} {x d : α} (h : k < l.length) : (l.set k x).getD j d = if j = k then x else l.getD j d := by
  rw [List.getD_eq_getElem?_getD, List.getElem?_set]
  by_cases e : k = j
  · subst e; simp [h]
  · rw [if_neg e, if_neg (fun h => e h.symm), List.getD_eq_getElem?_getD]
theorem Xn5 {p y t : Int} (hp : 2 ≤ p ∧ p ≤ 65521) (hy : E1 p y) (ht : 0 ≤ t ∧ t < p - 1) : Int.tmod (w64 (w64 (y + 1) + t)) p ≠ y ∧ E1 p (Int.tmod (w64 (w64 (y + 1) + t)) p) := by
  obtain ⟨h1, h2⟩ := hy
  rw [w64_id (x := y + 1) (by omega) (by omega), w64_id (by omega) (by omega), Int.tmod_eq_emod_of_nonneg (by omega)]
  refine ⟨?_, E1.emod hp.1 _⟩
  by_cases h : y + 1 + t < p
  · rw [Int.emod_eq_of_lt (by omega) h]; omega
  · have : (y + 1 + t) % p = y + 1 + t - p := by
      rw [← Int.sub_emod_right]
      exact Int.emod_eq_of_lt (by omega) (by omega)
    rw [this]; omega
theorem Xs6 {l : List Int} (hl : l.length ≤ 1000) {p : Int} (hp : 2 ≤ p ∧ p ≤ 65521) {w : Nat} (hw : 1 ≤ w ∧ w ≤ 64) {As : List (List Int)} (hA : Rw p w As) (hn : As.length ≤ 100) {wr si : Nat} (hwr : wr ≤ 100) (hsi : si ≤ 100)
    (kx : List (Bool × List Int) → List Bool → List Int → Int → Int → Option (List (Bool × List Int) × List Int × (List Int × Int))) : ∀ (xs : List Int) (i : Nat) (v1 : List (Bool × List Int)) (v2 : List Bool) (d : List Int × Int), i + xs.length ≤ 1000 → Dk l d → xs.Nodup →
    (∀ x ∈ xs, 0 ≤ x ∧ x < As.length ∧ cg v1 x.toNat = (true, gr As x.toNat) ∧ bg v2 x.toNat = false) → MS p w As wr si i v1 v2 →
    ∃ v1' v2' e, X44 kx As (wr : Int) (si : Int) p xs i v1 v2 d.1 d.2 = kx v1' v2' e.1 e.2 p ∧ Dk l e ∧ MS p w As wr si (i + xs.length) v1' v2' := by
  intro xs
  induction xs with
  | nil => intro i v1 v2 d _ hd _ _ hm; exact ⟨v1, v2, d, rfl, hd, hm⟩
  | cons x xs ih =>
    intro i v1 v2 d hi hd hnd hf hm
    obtain ⟨hx0, hx1, hx2, hx3⟩ := hf x List.mem_cons_self
    have hnd' := List.nodup_cons.1 hnd
    have hk : x.toNat < As.length := by omega
    have xe : x = (x.toNat : Int) := by omega
    simp only [List.length_cons] at hi
    have hg := hA.gr hk
    have key : ∀ (y1 : Bool × List Int) (y2 : Bool), ∀ z ∈ xs, 0 ≤ z ∧ z < As.length ∧ cg (v1.set x.toNat y1) z.toNat = (true, gr As z.toNat) ∧ bg (v2.set x.toNat y2) z.toNat = false := fun y1 y2 z hz => by
      obtain ⟨a, b, c, e⟩ := hf z (List.mem_cons_of_mem _ hz)
      have hne : z.toNat ≠ x.toNat := fun h => hnd'.1 (by have : z = x := by omega
                                                          exact this ▸ hz)
      refine ⟨a, b, ?_, ?_⟩
      · unfold cg; rw [Xbv (by rw [hm.l1]; exact hk), if_neg hne]; exact c
      · unfold bg; rw [Xbv (by rw [hm.l2]; exact hk), if_neg hne]; exact e
    have t1 : lidx v1 x = some (true, gr As x.toNat) := by rw [xe, X4d (false, []) (by rw [hm.l1]; exact hk)]; exact congrArg some hx2
    have t2 : lidx As x = some (gr As x.toNat) := by rw [xe]; exact Xac hk
    have t3 : ∀ y, lupd v1 x y = some (v1.set x.toNat y) := fun y => by rw [Xc7 hx0 (by rw [hm.l1]; omega)]
    have t4 : ∀ y, lupd v2 x y = some (v2.set x.toNat y) := fun y => by rw [Xc7 hx0 (by rw [hm.l2]; omega)]
    have t5 : lidx v2 x = some (v2.getD x.toNat false) := by
      have := X4d (l := v2) (i := x.toNat) false (by rw [hm.l2]; omega)
      rw [← xe] at this; exact this
    rw [X44]
    unfold X7z
    by_cases c1 : (i : Int) < (wr : Int)
    · rw [if_pos c1, t2]
      simp only [Option.bind_some]
      rw [if_pos (by rw [hg.1]; simp; omega)]
      obtain ⟨v, e, n1, n2, n3, n4⟩ := X91 hl hd (n := ((gr As x.toNat).length : Int)) (by rw [hg.1]; omega)
      rw [show ((d.1, d.2) : List Int × Int) = d from rfl, n1]
      simp only [Option.bind_some]
      rw [t1]
      simp only [Option.bind_some]
      rw [hg.1] at n3
      have lv : lidx (gr As x.toNat) v = some (Alg.gd (gr As x.toNat) v.toNat) := by
        have := X53 (l := gr As x.toNat) (i := v.toNat) (by rw [hg.1]; omega)
        rw [show (v.toNat : Int) = v by omega] at this; exact this
      rw [lv]
      simp only [Option.bind_some]
      obtain ⟨t, e2, m1, m2, m3, m4⟩ := X91 hl n4 (n := w64 (p - 1)) (by rw [w64_id (by omega) (by omega)]; omega)
      rw [w64_id (x := p - 1) (by omega) (by omega)] at m3
      rw [m1, Xgx (by omega)]
      simp only [Option.bind_some]
      have he1 : E1 p (Alg.gd (gr As x.toNat) v.toNat) := by
        have hv : v.toNat < (gr As x.toNat).length := by rw [hg.1]; omega
        refine hg.2 _ ?_
        unfold Alg.gd
        rw [List.getD_eq_getElem?_getD, List.getElem?_eq_getElem hv]
        exact List.getElem_mem hv
      obtain ⟨s1, s2⟩ := Xn5 hp he1 ⟨m2, m3⟩
      generalize Int.tmod (w64 (w64 (Alg.gd (gr As x.toNat) v.toNat + 1) + t)) p = y at s1 s2
      rw [Xc7 n2 (by rw [hg.1]; omega)]
      simp only [Option.bind_some]
      rw [t3, t5, t4]
      simp only [Option.bind_some]
      obtain ⟨w1, w2, e3, r1, r2, r3⟩ := ih (i + 1) (v1.set x.toNat (true, (gr As x.toNat).set v.toNat y)) (v2.set x.toNat true) e2 (by omega) m4 hnd'.2 (key _ _) (by
        refine ⟨by simp [hm.l1], by simp [hm.l2], fun k hk2 => ?_, ?_, ?_⟩
        · unfold cg bg
          rw [Xbv (by rw [hm.l1]; exact hk), Xbv (by rw [hm.l2]; exact hk)]
          by_cases ek : k = x.toNat
          · subst ek
            simp only [if_true]
            unfold Cl
            rw [if_pos rfl]
            exact ⟨rfl, v.toNat, y, by omega, s2, s1, rfl⟩
          · simp only [if_neg ek]
            exact hm.cl k hk2
        · have := Xb3 (fun b => b) true v2 x.toNat
          have := hm.nb; omega
        · have h5 := Xcr (fun a : Bool × List Int => !a.1) (true, (gr As x.toNat).set v.toNat y) rfl v1 x.toNat
          have := hm.ns
          have h6 : i - wr = i + 1 - wr := by omega
          omega)
      rw [show i + 1 + xs.length = i + (x :: xs).length by simp; omega] at r3
      exact ⟨w1, w2, e3, r1, r2, r3⟩
    · rw [if_neg c1]
      simp only [Option.bind_some]
      rw [if_neg (by simp)]
      by_cases c2 : ((wr : Int) ≤ (i : Int)) ∧ ((i : Int) < w64 ((wr : Int) + (si : Int)))
      · rw [if_pos c2, t1]
        simp only [Option.bind_some]
        rw [t3]
        simp only [Option.bind_some]
        have c3 := c2.2
        rw [w64_id (by omega) (by omega)] at c3
        have ev2 : v2.set x.toNat false = v2 := by
          refine List.ext_getElem (by simp) fun j h1 h2 => ?_
          rw [List.getElem_set]
          split
          · rename_i e
            subst e
            have := hx3
            unfold bg at this
            rw [List.getD_eq_getElem?_getD, List.getElem?_eq_getElem h2] at this
            exact this.symm
          · rfl
        have key2 := key (false, []) false
        rw [ev2] at key2
        obtain ⟨w1, w2, e3, r1, r2, r3⟩ := ih (i + 1) (v1.set x.toNat (false, [])) v2 d (by omega) hd hnd'.2 key2 (by
          refine ⟨by simp [hm.l1], hm.l2, fun k hk2 => ?_, ?_, ?_⟩
          · unfold cg
            rw [Xbv (by rw [hm.l1]; exact hk)]
            by_cases ek : k = x.toNat
            · subst ek
              rw [if_pos rfl]
              unfold Cl
              rw [if_neg (by rw [hx3]; simp)]
              exact .inr rfl
            · rw [if_neg ek]; exact hm.cl k hk2
          · have := hm.nb; omega
          · have := Xb3 (fun a : Bool × List Int => !a.1) (false, []) v1 x.toNat
            have := hm.ns; omega)
        rw [show i + 1 + xs.length = i + (x :: xs).length by simp; omega] at r3
        exact ⟨w1, w2, e3, r1, r2, r3⟩
      · rw [if_neg c2]
        obtain ⟨w1, w2, e3, r1, r2, r3⟩ := ih (i + 1) v1 v2 d (by omega) hd hnd'.2 (fun z hz => hf z (List.mem_cons_of_mem _ hz)) ⟨hm.l1, hm.l2, hm.cl, by have := hm.nb; omega, by have := hm.ns; omega⟩
        rw [show i + 1 + xs.length = i + (x :: xs).length by simp; omega] at r3
        exact ⟨w1, w2, e3, r1, r2, r3⟩
def bads (v : List Bool) (i : Nat) : List Int := ((List.range' i v.length).filter fun k => bg v (k - i)).map fun (k : Nat) => (k : Int) + 1
theorem Xlc (b : Bool) (v : List Bool) (i : Nat) : bads (b :: v) i = (if b = true then [(i : Int) + 1] else []) ++ bads v (i + 1) := by
  unfold bads
  rw [List.length_cons, List.range'_succ, List.filter_cons]
  have e : (List.range' (i + 1) v.length).filter (fun k => bg (b :: v) (k - i)) = (List.range' (i + 1) v.length).filter (fun k => bg v (k - (i + 1))) := by
    refine List.filter_congr fun k hk => ?_
    have := List.mem_range'_1.1 hk
    obtain ⟨m, rfl⟩ : ∃ m, k = i + 1 + m := ⟨k - (i + 1), by omega⟩
    rw [show i + 1 + m - i = m + 1 by omega, show i + 1 + m - (i + 1) = m by omega]
    rfl
  rw [show bg (b :: v) (i - i) = b by simp [bg]]
  cases b
  · rw [if_neg (by simp), if_neg (by simp), e, List.nil_append]
  · rw [if_pos rfl, if_pos rfl, List.map_cons, e]; rfl
theorem Xqa (z1 : List Int) (z2 : Int) (L : List (Bool × List Int)) : ∀ (v : List Bool) (i : Nat) (acc : List Int), i + v.length ≤ 1000 → acc.length + v.length ≤ 1000 → X3d z1 z2 L v i acc = some (L, acc ++ bads v i, (z1, z2))
  | [], i, acc, _, _ => by rw [X3d]; simp [bads]
  | b :: v, i, acc, h, h2 => by
    simp only [List.length_cons] at h h2
    rw [X3d, Xlc]
    unfold X7y
    cases b
    · simp only [Bool.false_eq_true, if_false]
      rw [Xqa z1 z2 L v (i + 1) acc (by omega) (by omega)]; simp
    · simp only [if_true]
      rw [Xk (by simp; omega), w64_id (by omega) (by omega)]
      simp only [Option.bind_some]
      rw [Xqa z1 z2 L v (i + 1) _ (by omega) (by simp; omega)]; simp
theorem Xn6 {l : List Int} (hl : l.length ≤ 1000) {dk : List Int × Int} (hd : Dk l dk) {p : Int} (hp : 2 ≤ p ∧ p ≤ 65521) {w : Nat} (hw : 1 ≤ w ∧ w ≤ 64) {As : List (List Int)} (hA : Rw p w As) (hn : As.length ≤ 100) {wr si : Nat} (hwr : wr ≤ 100) (hsi : si ≤ 100) :
    ∃ L v e, X8v dk p As (wr : Int) (si : Int) = some (L, bads v 0, e) ∧ Dk l e ∧ MS p w As wr si As.length L v := by
  unfold X8v
  rw [Xio _ _ _ As [] (fun a ha => by have := (hA a ha).1; omega) (by simp; omega)]
  unfold X45
  simp only [List.nil_append]
  have e0 : lmk (As.length : Int) false = some (List.replicate As.length false) := by
    unfold lmk; rw [if_pos (by omega)]; simp
  rw [e0]
  simp only [Option.bind_some]
  obtain ⟨r, e, h1, h2, h3⟩ := Xn2 hl (d := (dk.1, dk.2)) hd (n := As.length) (by omega)
  rw [h1]
  simp only [Option.bind_some]
  have hrl : r.length = As.length := by rw [h3.length_eq]; simp
  have hnd : r.Nodup := h3.nodup_iff.2 (List.Pairwise.map _ (fun a b (h : a ≠ b) (h2 : (a : Int) = b) => h (by omega)) List.nodup_range)
  obtain ⟨v1, v2, e2, a1, a2, a3⟩ := Xs6 hl hp hw hA hn hwr hsi X3e r 0 (As.map fun a => (true, a)) (List.replicate As.length false) e (by omega) h2 hnd (fun x hx => by
      obtain ⟨k, hk, rfl⟩ := List.mem_map.1 (h3.mem_iff.1 hx)
      have hk := List.mem_range.1 hk
      refine ⟨by omega, by omega, ?_, ?_⟩
      · simp only [cg, gr, Int.toNat_natCast, List.getD_eq_getElem?_getD]
        simp [hk]
      · simp only [bg, Int.toNat_natCast, List.getD_eq_getElem?_getD]
        simp [hk]) (by
      refine ⟨by simp, by simp, fun k hk => ?_, by simp, by simp [List.filter_map, Function.comp_def]⟩
      have b1 : cg (As.map fun a => (true, a)) k = (true, gr As k) := by
        simp only [cg, gr, List.getD_eq_getElem?_getD]; simp [hk]
      have b2 : bg (List.replicate As.length false) k = false := by simp only [bg, List.getD_eq_getElem?_getD]; simp [hk]
      rw [b1, b2]
      unfold Cl
      rw [if_neg (by simp)]
      exact .inl rfl)
  rw [a1]
  unfold X3e
  rw [Xqa _ _ _ _ _ _ (by rw [a3.l2]; omega) (by rw [a3.l2]; simp; omega), List.nil_append]
  refine ⟨v1, v2, e2, rfl, a2, ?_⟩
  rw [Nat.zero_add, hrl] at a3
  exact a3
end Go.Proofs.YtfcicopgdahmcaaGreatDoor
end

section
namespace Go.Proofs.YtfcicopgdahmcaaGreatDoor
open Alg (Cg Pr)
set_option linter.unusedVariables false
set_option linter.unusedSectionVars false
theorem at_i {α : Type} {L : List α} {i : Nat} {a : α} {M : List α} (d : α) (h : L.drop i = a :: M) : i < L.length ∧ L.getD i d = a ∧ L.drop (i + 1) = M := by
  have hi : i < L.length := by
    rcases Nat.lt_or_ge i L.length with h2 | h2
    · exact h2
    · rw [List.drop_of_length_le h2] at h; cases h
  have h3 := List.drop_eq_getElem_cons hi
  rw [h] at h3
  have h4 := List.cons.inj h3
  refine ⟨hi, ?_, h4.2.symm⟩
  rw [List.getD_eq_getElem?_getD, List.getElem?_eq_getElem hi]
  exact h4.1.symm
section
variable {p : Int} {w : Nat} {As : List (List Int)} {wr0 si n : Nat} {L : List (Bool × List Int)} {v : List Bool} {cc : Nat → Nat}
  (hm : MS p w As wr0 si n L v) (hp : 2 ≤ p) (hA : Rw p w As)
  (hc : ∀ k, k < As.length → bg v k = true → (cg L k).1 = true ∧ cc k < w ∧ ∃ y, E1 p y ∧ y ≠ Alg.gd (gr As k) (cc k) ∧ (cg L k).2 = (gr As k).set (cc k) y)
include hm hp hA hc
theorem Xs7 {k j : Nat} (hk : k < As.length) : E1 p (Alg.gd (gr As k) j) := by
  have hg := hA.gr hk
  rcases Nat.lt_or_ge j (gr As k).length with h | h
  · refine hg.2 _ ?_
    unfold Alg.gd
    rw [List.getD_eq_getElem?_getD, List.getElem?_eq_getElem h]
    exact List.getElem_mem h
  · rw [Alg.Xcw h]; exact ⟨by omega, by omega⟩
theorem Xrp {j : Nat} (hj : j < w) {f : List Int} (hf : ∀ i, i < As.length → Cg p (Alg.pv f ((i : Int) + 1)) (Alg.gd (gr As i) j)) : ∀ (M : List (Bool × List Int)) (i : Nat), L.drop i = M →
    ((kn (col M j) i).filter (Alg.bad p f)).map (·.1) = ((List.range' i M.length).filter fun k => bg v k && (cc k == j)).map fun (k : Nat) => (k : Int) + 1
  | [], i, _ => rfl
  | a :: M, i, hd => by
    obtain ⟨hi, ha, hM⟩ := at_i (false, []) hd
    have hi2 : i < As.length := by rw [← hm.l1]; exact hi
    have ih := Xrp hj hf M (i + 1) hM
    have hfi := hf i hi2
    have hcl := hm.cl i hi2
    rw [show cg L i = a from ha] at hcl
    unfold col at ih ⊢
    rw [List.map_cons, kn, List.length_cons, List.range'_succ, List.filter_cons]
    by_cases hb : bg v i = true
    · obtain ⟨c1, c2, y, y1, y2, y3⟩ := hc i hi2 hb
      rw [show cg L i = a from ha] at c1 y3
      simp only [c1, if_true]
      have hg := hA.gr hi2
      have hval : Alg.gd a.2 j = if cc i = j then y else Alg.gd (gr As i) j := by
        rw [y3]
        unfold Alg.gd
        rw [Xbv (by rw [hg.1]; exact c2)]
        by_cases e : cc i = j
        · rw [if_pos e.symm, if_pos e]
        · rw [if_neg (fun h => e h.symm), if_neg e]
      rw [List.filter_cons, hval]
      by_cases e : cc i = j
      · have hbad : Alg.bad p f ((i : Int) + 1, if cc i = j then y else Alg.gd (gr As i) j) = true := by
          cases hx : Alg.bad p f ((i : Int) + 1, if cc i = j then y else Alg.gd (gr As i) j) with
          | true => rfl
          | false =>
            have h5 := Alg.Xco hx
            simp only [if_pos e] at h5
            have h6 := (hfi.symm.trans h5)
            have he := Xs7 hm hp hA hc (j := j) hi2
            have := h6.eq he.1 he.2 y1.1 y1.2
            rw [← e] at this
            exact absurd this.symm y2
        have hb5 : (bg v i && (cc i == j)) = true := by rw [hb]; simpa using e
        simp only [hbad, hb5, ↓reduceIte, List.map_cons, ih]
      · have hbad : Alg.bad p f ((i : Int) + 1, if cc i = j then y else Alg.gd (gr As i) j) = false := by
          cases hx : Alg.bad p f ((i : Int) + 1, if cc i = j then y else Alg.gd (gr As i) j) with
          | false => rfl
          | true =>
            have h5 := Alg.Xg7 hx
            simp only [if_neg e] at h5
            exact absurd hfi h5
        have hb5 : (bg v i && (cc i == j)) = false := by rw [hb]; simpa using e
        simp only [hbad, hb5, Bool.false_eq_true, ↓reduceIte, ih]
    · have hb' : bg v i = false := by cases h : bg v i with
        | true => exact absurd h hb
        | false => rfl
      have hb5 : (bg v i && (cc i == j)) = false := by rw [hb']; rfl
      unfold Cl at hcl
      rw [if_neg hb] at hcl
      simp only [hb5, Bool.false_eq_true, ↓reduceIte]
      rcases hcl with rfl | rfl
      · simp only [↓reduceIte]
        rw [List.filter_cons]
        have hbad : Alg.bad p f ((i : Int) + 1, Alg.gd (gr As i) j) = false := by
          cases hx : Alg.bad p f ((i : Int) + 1, Alg.gd (gr As i) j) with
          | false => rfl
          | true => exact absurd hfi (Alg.Xg7 hx)
        rw [hbad, if_neg (by simp)]
        exact ih
      · simp only [Bool.false_eq_true, ↓reduceIte]
        exact ih
theorem Xs8 {j : Nat} (hj : j < w) {f : List Int} (hf : ∀ i, i < As.length → Cg p (Alg.pv f ((i : Int) + 1)) (Alg.gd (gr As i) j)) :
    wr p L j f = ((List.range As.length).filter fun k => bg v k && (cc k == j)).map fun (k : Nat) => (k : Int) + 1 := by
  have := Xrp hm hp hA hc hj hf L 0 rfl
  rw [hm.l1, ← List.range_eq_range'] at this
  exact this
end
theorem Xiq {α β : Type} {l : List α} {f g : α → List β} (h : ∀ x ∈ l, f x = g x) : l.flatMap f = l.flatMap g := by rw [List.flatMap_def, List.flatMap_def, List.map_congr_left h]
theorem Xn7 {w : Nat} {a : Nat} {g : Nat → List Nat} {c : Nat} (hc : c < w) : ((List.range w).flatMap fun j => (if (c == j) = true then [a] else []) ++ g j).Perm (a :: (List.range w).flatMap g) := by
  induction w with
  | zero => omega
  | succ w ih =>
    rw [List.range_succ, List.flatMap_append, List.flatMap_append]
    simp only [List.flatMap_cons, List.flatMap_nil, List.append_nil]
    by_cases e : c = w
    · subst e
      have h0 : ((List.range c).flatMap fun j => (if (c == j) = true then [a] else []) ++ g j) = (List.range c).flatMap g := by
        refine Xiq fun j hj => ?_
        have := List.mem_range.1 hj
        rw [if_neg (by simp; omega), List.nil_append]
      rw [h0, if_pos (by simp)]
      exact List.perm_middle
    · rw [if_neg (by simpa using e), List.nil_append]
      exact List.Perm.append_right _ (ih (by omega))
theorem Xfn {w : Nat} (c : Nat → Nat) : ∀ (l : List Nat), (∀ x ∈ l, c x < w) → ((List.range w).flatMap fun j => l.filter fun k => c k == j).Perm l
  | [], _ => by simp
  | a :: l, h => by
    have ih := Xfn c l fun x hx => h x (List.mem_cons_of_mem _ hx)
    have e : ((List.range w).flatMap fun j => (a :: l).filter fun k => c k == j) = (List.range w).flatMap fun j => (if (c a == j) = true then [a] else []) ++ l.filter fun k => c k == j := by
      refine Xiq fun j hj => ?_
      rw [List.filter_cons]
      split <;> rfl
    rw [e]
    exact (Xn7 (h a List.mem_cons_self)).trans (List.Perm.cons a ih)
theorem Xs9 {L : List (Bool × List Int)} : nk L + (L.filter fun a => !a.1).length = L.length := by
  unfold nk
  induction L with
  | nil => rfl
  | cons a L ih =>
    rw [List.filter_cons, List.filter_cons]
    cases h : a.1 <;> simp [h] <;> omega
theorem Xn8 {v : List Bool} : ((List.range v.length).filter fun k => bg v k).length = (v.filter fun b => b).length := by
  have key : ∀ (M : List Bool) (i : Nat), v.drop i = M → ((List.range' i M.length).filter fun k => bg v k).length = (M.filter fun b => b).length := fun M => by
    induction M with
    | nil => intro i _; rfl
    | cons a M ih =>
      intro i hd
      obtain ⟨hi, ha, hM⟩ := at_i false hd
      rw [List.length_cons, List.range'_succ, List.filter_cons, List.filter_cons]
      have := ih (i + 1) hM
      rw [show bg v i = a from ha]
      cases a <;> simp_all
  have := key v 0 rfl
  rw [← List.range_eq_range'] at this
  exact this
theorem Xqb {p : Int} (hf : Fd p) {s d n idx w : Nat} (h : PlanOK p s d) (hn : 1 ≤ n ∧ n ≤ 1024) (hi : idx < n) (hw : 1 ≤ w ∧ w ≤ 64) {R : List (List Int)} (hR : Rw p w R) (hRn : R.length = n) {l : List Int} (hl : l.length ≤ 1000) {dk : List Int × Int} (hd : Dk l dk)
    {wr0 si : Nat} (hws : 2 * wr0 + si + d + 1 ≤ s) :
    ∃ e W, Xca dk p ((s : Int), (d : Int)) (w : Int) R (idx : Int) (si : Int) (wr0 : Int) = some ((gr R idx, W), W, true, e) ∧ Dk l e := by
  have h' := h
  obtain ⟨p1, p2, p3, p4, p5⟩ := h'
  have hp := hf.rng
  have m2 : n * d ≤ 1024 * 10 := Nat.mul_le_mul hn.2 (by omega)
  unfold Xca
  rw [hRn, cvlimits hf h hn]
  simp only [Option.bind_some]
  obtain ⟨T, e1, s1, s2, s3, s4⟩ := Xpq hl hd hp (m := n * d) (by omega)
  rw [s1]
  simp only [Option.bind_some]
  obtain ⟨qs, t, q1, q2⟩ := Xhv hf h hn hi s3 s2
  rw [q1]
  simp only [Option.bind_some]
  unfold Xay
  rw [if_neg (by simp)]
  obtain ⟨As, hA⟩ := Xnt hf hw.2 hR (qs := qs) (by rw [hRn]; exact q2.rw)
  have lq := q2.len
  have lA := hA.len
  rw [Xl9 _ _ _ qs As [] hA (by simp; omega), List.nil_append]
  unfold X70
  obtain ⟨L, v, e2, a1, a2, hm⟩ := Xn6 hl (dk := (e1.1, e1.2)) s4 hp hw hA.rw (by omega) (wr := wr0) (si := si) (by omega) (by omega)
  rw [a1]
  simp only [Option.bind_some]
  have hAl : As.length = s := by omega
  -- the cell that is wrong in each wrong answer
  have hex : ∀ k, ∃ c, k < As.length → bg v k = true → (cg L k).1 = true ∧ c < w ∧ ∃ y, E1 p y ∧ y ≠ Alg.gd (gr As k) c ∧ (cg L k).2 = (gr As k).set c y := fun k => by
    by_cases hk : k < As.length ∧ bg v k = true
    · have := hm.cl k hk.1
      unfold Cl at this
      rw [if_pos hk.2] at this
      obtain ⟨b1, c, y, b2, b3, b4, b5⟩ := this
      exact ⟨c, fun _ _ => ⟨b1, b2, y, b3, b4, b5⟩⟩
    · exact ⟨0, fun h1 h2 => absurd ⟨h1, h2⟩ hk⟩
  obtain ⟨cc, hc⟩ := Classical.skolem.1 hex
  have hfit : ∀ j, ∀ i, i < As.length → Cg p (Alg.pv (mixf p n (d + 1) (hid d idx T) R j) ((i : Int) + 1)) (Alg.gd (gr As i) j) := fun j i hi2 => Xq6 hp.1 hRn q2 hA j i (by omega)
  have hL : AnsOK p w L := fun a ha h1 => by
    obtain ⟨k, hk, rfl⟩ := List.getElem_of_mem ha
    have hk2 : k < As.length := by rw [← hm.l1]; exact hk
    have hcl := hm.cl k hk2
    have hcg : cg L k = L[k] := by simp [cg, List.getD_eq_getElem?_getD, hk]
    rw [hcg] at hcl
    have hg := hA.rw.gr hk2
    unfold Cl at hcl
    split at hcl
    · obtain ⟨_, c, y, b2, b3, b4, b5⟩ := hcl
      rw [b5]
      refine ⟨by simp [hg.1], fun z hz => ?_⟩
      rcases List.mem_or_eq_of_mem_set hz with hz | rfl
      · exact hg.2 z hz
      · exact b3
    · rcases hcl with e | e
      · rw [e]; exact hg
      · rw [e] at h1; cases h1
  have hnk : s ≤ nk L + si := by
    have h1 := Xs9 (L := L)
    have h2 := hm.ns
    have h3 := hm.l1
    omega
  have hnb : ((List.range As.length).filter fun k => bg v k).length ≤ wr0 := by
    rw [← hm.l2, Xn8]
    have := hm.nb; omega
  have hwr : ∀ j, j < w → wr p L j (mixf p n (d + 1) (hid d idx T) R j) = ((List.range As.length).filter fun k => bg v k && (cc k == j)).map fun (k : Nat) => (k : Int) + 1 := fun j hj =>
    Xs8 hm hp.1 hA.rw hc hj (hfit j)
  have hF : ∀ j, j < w → Fit p (d + 1) L j (mixf p n (d + 1) (hid d idx T) R j) := fun j hj => by
    refine ⟨Xq1 hp.1 _ _ _ _ _, by simp [mixf], ?_⟩
    have h1 := congrArg List.length (hwr j hj)
    unfold wr at h1
    rw [List.length_map, List.length_map] at h1
    rw [h1]
    have h2 : ((List.range As.length).filter fun k => bg v k && (cc k == j)).length ≤ ((List.range As.length).filter fun k => bg v k).length := by
      have e : ((List.range As.length).filter fun k => bg v k && (cc k == j)) = ((List.range As.length).filter fun k => bg v k).filter fun k => cc k == j := by
        rw [List.filter_filter]
        refine List.filter_congr fun x _ => ?_
        rw [Bool.and_comm]
      rw [e]; exact List.length_filter_le _ _
    omega
  have hflat : (((List.range w).map fun t => wr p L t (mixf p n (d + 1) (hid d idx T) R t)).flatten).Perm (bads v 0) := by
    have e1 : ((List.range w).map fun t => wr p L t (mixf p n (d + 1) (hid d idx T) R t)).flatten = ((List.range w).flatMap fun j => ((List.range As.length).filter fun k => bg v k).filter fun k => cc k == j).map fun (k : Nat) => (k : Int) + 1 := by
      rw [List.map_flatMap, List.flatMap_def]
      congr 1
      refine List.map_congr_left fun t ht => ?_
      rw [hwr t (List.mem_range.1 ht), List.filter_filter]
      congr 1
      refine List.filter_congr fun x _ => ?_
      rw [Bool.and_comm]
    have e2 : bads v 0 = ((List.range As.length).filter fun k => bg v k).map fun (k : Nat) => (k : Int) + 1 := by
      unfold bads
      rw [← List.range_eq_range', hm.l2]
      simp
    rw [e1, e2]
    refine List.Perm.map _ (Xfn cc _ fun x hx => ?_)
    have hx := List.mem_filter.1 hx
    exact (hc x (List.mem_range.1 hx.1) hx.2).2.1
  have hasc : (bads v 0).Pairwise (· < ·) := by
    unfold bads
    rw [← List.range_eq_range']
    refine List.Pairwise.map _ (fun a b (h : a < b) => by omega) (List.Pairwise.filter _ List.pairwise_lt_range)
  have hbl : (bads v 0).length ≤ 12 := by
    rw [← hflat.length_eq] at *
    have e2 : bads v 0 = ((List.range As.length).filter fun k => bg v k).map fun (k : Nat) => (k : Int) + 1 := by
      unfold bads
      rw [← List.range_eq_range', hm.l2]
      simp
    rw [hflat.length_eq, e2, List.length_map]; omega
  rw [Xq5 hf h hw.2 hL (by rw [hm.l1]; exact hAl) (by omega) (F := fun j => mixf p n (d + 1) (hid d idx T) R j) (fun j hj => hF j hj) (Xq9 _ _ _ hflat hasc hbl)]
  simp only [Option.bind_some]
  have erow : ((List.range w).map fun j => Alg.gd (mixf p n (d + 1) (hid d idx T) R j) 0) = gr R idx := by
    have hg := hR.gr (i := idx) (by omega)
    refine List.ext_getElem (by simp [hg.1]) fun i h1 h2 => ?_
    rw [List.getElem_map, List.getElem_range, Xq4 hp.1 hR hRn hi (by omega)]
    simp [Alg.gd, List.getD_eq_getElem?_getD, h2]
  rw [erow]
  exact ⟨e2, bads v 0, rfl, a2⟩
end Go.Proofs.YtfcicopgdahmcaaGreatDoor
end

section
namespace Go.Proofs.YtfcicopgdahmcaaGreatDoor
set_option linter.unusedVariables false
theorem Xir {p : Int} {w : Nat} : ∀ {R : List (List Int)}, Rw p w R → X51 p (w : Int) R = some 0
  | [], _ => rfl
  | r :: R, h => by
    obtain ⟨⟨h1, h2⟩, h3⟩ := Rw.cons.1 h
    rw [X51]
    unfold X8o
    rw [if_neg (by rw [h1]; simp), all_eq]
    simp only [Option.bind_some]
    rw [if_neg (by simp [h2]), Xir h3]
theorem Xhd {p : Int} (hf : Fd p) {w : Nat} (hw : 1 ≤ w ∧ w ≤ 64) {R : List (List Int)} (hR : Rw p w R) (hn : R.length ≤ 1024) : X8e (7, p, (w : Int), R) = some 0 := by
  unfold X8e
  dsimp only
  rw [of_eq hf]
  simp only [Option.bind_some]
  rw [if_neg (by omega), if_neg (by simp), if_neg (by omega), if_neg (by omega), Xir hR]
theorem Xn9 {l : List Int} (h : l.length ≤ 16777216) : X8 l = some l := by
  unfold X8
  by_cases h0 : l = []
  · subst h0; rfl
  · simp [Xk, h]
theorem Xo4 {p : Int} (w : Nat) : ∀ (R acc : List (List Int)), (∀ r ∈ R, r.length ≤ 1000) → acc.length + R.length ≤ 100000 → X5f X5e 7 p (w : Int) R acc = some ((7, p, (w : Int), acc ++ R), 0)
  | [], acc, _, _ => by rw [X5f]; unfold X5e; rw [List.append_nil]
  | r :: R, acc, h, h2 => by
    simp only [List.length_cons] at h2
    rw [X5f]
    unfold Xa7
    rw [Xn9 (by have := h r List.mem_cons_self; omega)]
    simp only [Option.bind_some]
    rw [Xk (by simp; omega)]
    simp only [Option.bind_some]
    rw [Xo4 w R _ (fun r hr => h r (List.mem_cons_of_mem _ hr)) (by simp; omega), List.append_assoc]
    rfl
theorem Xqc {p : Int} (hf : Fd p) {w : Nat} (hw : 1 ≤ w ∧ w ≤ 64) {R : List (List Int)} (hR : Rw p w R) (hn : R.length ≤ 1024) : Xbg 7 p (w : Int) R = some ((7, p, (w : Int), R), 0) := by
  unfold Xbg
  rw [Xhd hf hw hR hn]
  simp only [Option.bind_some]
  rw [if_neg (by simp), Xo4 w R [] (fun r hr => by have := (hR r hr).1; omega) (by simp; omega), List.nil_append]
def Dg (x : Int) : Prop := 0 ≤ x ∧ x < 2147483647
theorem Xhw {x : Int} (h : 0 ≤ x) : X8f x = some (x % 2147483647) := by
  unfold X8f
  have e := Int.tmod_eq_emod_of_nonneg (b := 2147483647) h
  rw [e, if_neg (by have := Int.emod_nonneg x (b := 2147483647) (by omega); omega)]
theorem Xis (x : Int) : Dg (x % 2147483647) := ⟨Int.emod_nonneg _ (by omega), Int.emod_lt_of_pos _ (by omega)⟩
theorem Xld {x : Int} (h : 0 ≤ x) : Dg (Int.tmod x 2147483647) := by rw [Int.tmod_eq_emod_of_nonneg h]; exact Xis x
theorem Xo5 : ∀ (l : List Int) (d : Int), (∀ x ∈ l, 0 ≤ x) → Dg d → ∃ r, X5p l d = some r ∧ Dg r
  | [], d, _, h => ⟨d, rfl, h⟩
  | x :: l, d, hl, h => by
    rw [X5p]
    unfold X9h
    rw [Xhw (hl x List.mem_cons_self)]
    simp only [Option.bind_some]
    obtain ⟨h1, h2⟩ := h
    obtain ⟨h3, h4⟩ := Xis x
    rw [w64_id (x := d * 1000003) (by omega) (by omega), w64_id (x := d * 1000003 + x % 2147483647) (by omega) (by omega), w64_id (by omega) (by omega)]
    exact Xo5 l _ (fun y hy => hl y (List.mem_cons_of_mem _ hy)) (Xld (by omega))
theorem Xqd {p : Int} {l : List Int} (h : El p l) : ∃ r, X9q l = some r ∧ Dg r := Xo5 l 2 (fun x hx => (h x hx).1) ⟨by omega, by omega⟩
theorem Xo6 {p : Int} {w : Nat} : ∀ (R : List (List Int)) (acc : List Int), Rw p w R → acc.length + R.length ≤ 100000 →
    ∃ D, X2p R acc = some (acc ++ D, 0) ∧ D.length = R.length ∧ (∀ x ∈ D, Dg x) ∧ ∀ i, i < R.length → X9q (gr R i) = some (Alg.gd D i)
  | [], acc, _, _ => ⟨[], by rw [X2p, List.append_nil], rfl, (fun x hx => by cases hx), fun i hi => absurd hi (by simp)⟩
  | r :: R, acc, h, h2 => by
    simp only [List.length_cons] at h2
    obtain ⟨⟨h3, h4⟩, h5⟩ := Rw.cons.1 h
    obtain ⟨d, d1, d2⟩ := Xqd h4
    rw [X2p]
    unfold X6w
    rw [d1]
    simp only [Option.bind_some]
    rw [Xk (by simp; omega)]
    simp only [Option.bind_some]
    obtain ⟨D, e1, e2, e3, e4⟩ := Xo6 R (acc ++ [d]) h5 (by simp; omega)
    refine ⟨d :: D, by rw [e1]; simp, by simp [e2], fun x hx => ?_, fun i hi => ?_⟩
    · rcases List.mem_cons.1 hx with rfl | hx
      · exact d2
      · exact e3 x hx
    · cases i with
      | zero => exact d1
      | succ i => exact e4 i (by simpa using hi)
theorem Xit : ∀ (l : List Int), (∀ x ∈ l, Dg x) → X46 l = some 0
  | [], _ => rfl
  | x :: l, h => by
    have := h x List.mem_cons_self
    rw [X46]
    unfold X83 X9i
    simp only [Option.bind_some]
    rw [if_neg (by simpa [Dg] using this), Xit l fun y hy => h y (List.mem_cons_of_mem _ hy)]
theorem Xqe {a b : Int} (ha : Dg a) (hb : Dg b) : ∃ r, X9w a b = some r ∧ Dg r := by
  unfold X9w
  rw [Xhw ha.1, Xhw hb.1]
  simp only [Option.bind_some]
  obtain ⟨h1, h2⟩ := Xis a
  obtain ⟨h3, h4⟩ := Xis b
  rw [w64_id (x := a % 2147483647 * 1000003) (by omega) (by omega), w64_id (x := a % 2147483647 * 1000003 + b % 2147483647) (by omega) (by omega), w64_id (by omega) (by omega)]
  exact ⟨_, rfl, Xld (by omega)⟩
theorem Xqf {l : List Int} (h : ∀ x ∈ l, Dg x) {i : Nat} (hi : i < l.length) : Dg (Alg.gd l i) := by
  refine h _ ?_
  unfold Alg.gd
  rw [List.getD_eq_getElem?_getD, List.getElem?_eq_getElem hi]
  exact List.getElem_mem hi
theorem Xhx {l : List Int} (h : ∀ x ∈ l, Dg x) (hl : l.length ≤ 1024) : ∀ (f k : Nat) (acc : List Int), l.length + 1 - k < f → k ≤ l.length + 1 → k % 2 = 0 → acc.length = (if k ≤ l.length then k / 2 else (l.length + 1) / 2) → (∀ x ∈ acc, Dg x) →
    ∃ m, X5b l f acc (k : Int) = some m ∧ m.length = (l.length + 1) / 2 ∧ ∀ x ∈ m, Dg x
  | 0, k, acc, hf, _, _, _, _ => by omega
  | f + 1, k, acc, hf, hk, he, ha, hd => by
    rw [X5b]
    unfold X84
    by_cases c : (k : Int) < (l.length : Int)
    · rw [if_pos c, w64_id (x := (k : Int) + 1) (by omega) (by omega), w64_id (x := (k : Int) + 2) (by omega) (by omega)]
      have ha2 : acc.length = k / 2 := by rw [ha, if_pos (by omega)]
      by_cases c2 : (k : Int) + 1 = (l.length : Int)
      · rw [if_pos c2, X53 (by omega)]
        simp only [Option.bind_some]
        rw [Xk (by simp; omega)]
        simp only [Option.bind_some]
        have := Xhx h hl f (k + 2) (acc ++ [Alg.gd l k]) (by omega) (by omega) (by omega) (by simp; rw [if_neg (by omega)]; omega) (fun x hx => by
          rcases List.mem_append.1 hx with hx | hx
          · exact hd x hx
          · rw [List.mem_singleton.1 hx]; exact Xqf h (by omega))
        exact_mod_cast this
      · rw [if_neg c2, X53 (by omega), show (k : Int) + 1 = ((k + 1 : Nat) : Int) by omega, X53 (by omega)]
        simp only [Option.bind_some]
        obtain ⟨r, r1, r2⟩ := Xqe (Xqf h (i := k) (by omega)) (Xqf h (i := k + 1) (by omega))
        rw [r1]
        simp only [Option.bind_some]
        rw [Xk (by simp; omega)]
        simp only [Option.bind_some]
        have := Xhx h hl f (k + 2) (acc ++ [r]) (by omega) (by omega) (by omega) (by simp; rw [if_pos (by omega)]; omega) (fun x hx => by
          rcases List.mem_append.1 hx with hx | hx
          · exact hd x hx
          · rw [List.mem_singleton.1 hx]; exact r2)
        exact_mod_cast this
    · rw [if_neg c]
      refine ⟨acc, rfl, ?_, hd⟩
      rw [ha]
      split <;> omega
theorem Xo7 : ∀ (n f : Nat) (l : List Int), l.length ≤ n → n < f → n ≤ 1024 → (∀ x ∈ l, Dg x) → ∃ r, X3k f l = some r
  | n, 0, l, _, hf, _, _ => by omega
  | n, f + 1, l, hl, hf, hn, h => by
    rw [X3k]
    unfold X8g
    by_cases c : (l.length : Int) = 0
    · rw [if_pos c]; exact ⟨0, rfl⟩
    · rw [if_neg c]
      by_cases c1 : (l.length : Int) = 1
      · rw [if_pos c1]
        have := X53 (l := l) (i := 0) (by omega)
        rw [show ((0 : Nat) : Int) = 0 from rfl] at this
        rw [this]; exact ⟨_, rfl⟩
      · rw [if_neg c1]
        unfold Xa9
        obtain ⟨m, m1, m2, m3⟩ := Xhx h (by omega) big 0 [] (by simp only [big]; omega) (by omega) rfl (by simp) (by simp)
        rw [show ((0 : Nat) : Int) = 0 from rfl] at m1
        rw [m1]
        simp only [Option.bind_some]
        obtain ⟨r, hr⟩ := Xo7 ((l.length + 1) / 2) f m (by omega) (by omega) (by omega) m3
        rw [hr]; exact ⟨r, rfl⟩
theorem Xqg {l : List Int} (h : ∀ x ∈ l, Dg x) (hl : l.length ≤ 1024) : ∃ r, X8h l = some (r, 0) := by
  unfold X8h Xa8
  rw [if_neg (by omega), Xit l h]
  simp only [Option.bind_some]
  rw [if_neg (by simp)]
  unfold X8p
  obtain ⟨r, hr⟩ := Xo7 l.length big l (Nat.le_refl _) (by simp only [big]; omega) hl h
  rw [hr]; exact ⟨r, rfl⟩
theorem Xna {p : Int} (hf : Fd p) {w : Nat} (hw : 1 ≤ w ∧ w ≤ 64) {R : List (List Int)} (hR : Rw p w R) (hn : R.length ≤ 1024) : ∃ D z, X5q (7, p, (w : Int), R) = some (D, 0) ∧ D.length = R.length ∧
    Xak (7, p, (w : Int), R) = some ((7, p, (R.length : Int), (w : Int), z), 0) ∧ X71 (7, p, (R.length : Int), (w : Int), z) D = some 0 ∧
    ∀ i, i < R.length → X78 (7, p, (R.length : Int), (w : Int), z) D (i : Int) (gr R i) = some 0 := by
  obtain ⟨D, d1, d2, d3, d4⟩ := Xo6 R [] hR (by simp; omega)
  rw [List.nil_append] at d1
  have hD : X5q (7, p, (w : Int), R) = some (D, 0) := by
    unfold X5q
    rw [Xhd hf hw hR hn]
    simp only [Option.bind_some]
    rw [if_neg (by simp), d1]
  obtain ⟨z, hz⟩ := Xqg d3 (by omega)
  have hH : X71 (7, p, (R.length : Int), (w : Int), z) D = some 0 := by
    unfold X71
    dsimp only
    rw [if_neg (by rw [d2]; simp), hz]
    simp only [Option.bind_some]
    rw [if_neg (by simp)]
  refine ⟨D, z, hD, d2, ?_, hH, fun i hi => ?_⟩
  · unfold Xak
    rw [hD]
    simp only [Option.bind_some]
    rw [if_neg (by simp), hz]
    simp only [Option.bind_some]
    rw [if_neg (by simp)]
  · unfold X78
    have hg := hR.gr hi
    rw [hH]
    simp only [Option.bind_some]
    rw [if_neg (by simp), of_eq hf]
    simp only [Option.bind_some]
    rw [if_neg (by omega), if_neg (by simp), if_neg (by rw [hg.1]; simp), all_eq]
    simp only [Option.bind_some]
    rw [if_neg (by simp [hg.2]), X53 (by omega), d4 i hi]
    simp only [Option.bind_some]
    rw [if_neg (by simp)]
end Go.Proofs.YtfcicopgdahmcaaGreatDoor
end

section
namespace Go.Proofs.YtfcicopgdahmcaaGreatDoor.Lay
set_option linter.unusedVariables false
theorem bt {p : Prop} [Decidable p] (h : p) : decide p = true := decide_eq_true h
theorem nb_t {p : Prop} [Decidable p] (h : p) : ¬ ((!decide p) = true) := by simp [h]
theorem nb_f {p : Prop} [Decidable p] (h : ¬ p) : (!decide p) = true := by simp [h]
theorem bf {p : Prop} [Decidable p] (h : ¬ p) : ¬ (decide p = true) := by simp [h]
def vL (p : Int) : Nat → Int → Bool
  | 0, _ => true
  | n + 1, d => if d * d ≤ p then (if Int.tmod p d = 0 then false else vL p n (d + 1)) else true
def vF (p : Int) : Bool := decide (2 ≤ p ∧ p ≤ 65521) && vL p 300 2
theorem vF_b {p : Int} (h : vF p = true) : 2 ≤ p ∧ p ≤ 65521 := by
  unfold vF at h; simp only [Bool.and_eq_true, decide_eq_true_eq] at h; exact h.1
theorem Xsa {d : Int} (h0 : 0 ≤ d) (h : d * d ≤ 65521) : d ≤ 255 := by
  rcases Int.lt_or_le 255 d with h1 | h1
  · have := Int.mul_le_mul (show (256 : Int) ≤ d by omega) (show (256 : Int) ≤ d by omega) (by omega) h0
    omega
  · exact h1
theorem sq_b {d : Int} (h0 : 0 ≤ d) (h : d ≤ 256) : 0 ≤ d * d ∧ d * d ≤ 65536 := by
  have := Int.mul_le_mul h h h0 (by omega)
  exact ⟨Int.mul_nonneg h0 h0, by omega⟩
theorem of_L {p : Int} (hp : p ≤ 65521) : ∀ (f g : Nat) (d : Int), 2 ≤ d → d ≤ 256 → 257 - d ≤ f → 257 - d ≤ g → 1 ≤ f → 1 ≤ g → X6e X3l p f d = some (if vL p g d then (p, true) else (0, false))
  | 0, _, d, h2, h3, hf, hg, h1, _ => by omega
  | _ + 1, 0, d, h2, h3, hf, hg, h1, h4 => by omega
  | f + 1, g + 1, d, h2, h3, hf, hg, _, _ => by
    show X7f X3l p (X6e X3l p f) d = _
    unfold X7f
    have hb := sq_b (by omega : 0 ≤ d) h3
    rw [w64_id (by omega) (by omega)]
    by_cases hd : d * d ≤ p
    · rw [if_pos hd, Xgx (by omega)]
      simp only [Option.bind_some]
      by_cases hm : Int.tmod p d = 0
      · have e : vL p (g + 1) d = false := by unfold vL; rw [if_pos hd, if_pos hm]
        rw [if_pos hm, e]; rfl
      · have := Xsa (by omega : 0 ≤ d) (by omega)
        have e : vL p (g + 1) d = vL p g (d + 1) := by rw [vL, if_pos hd, if_neg hm]
        rw [if_neg hm, e, w64_id (by omega) (by omega), of_L hp f g (d + 1) (by omega) (by omega) (by omega) (by omega) (by omega) (by omega)]
    · have e : vL p (g + 1) d = true := by unfold vL; rw [if_neg hd]
      rw [if_neg hd, e]; rfl
theorem of_eq (p : Int) : X2w p = some (if vF p then (p, true) else (0, false)) := by
  unfold X2w vF
  by_cases h : p < 2 ∨ 65521 < p
  · rw [if_pos h, decide_eq_false (by omega : ¬ (2 ≤ p ∧ p ≤ 65521))]; rfl
  · rw [if_neg h, decide_eq_true (by omega : 2 ≤ p ∧ p ≤ 65521), of_L (by omega) big 300 2 (by omega) (by omega) (by simp only [big]; omega) (by omega) (by simp only [big]; omega) (by omega)]
    rfl
def dgo (p : Nat) : Nat → Nat → Nat
  | 0, d => d
  | f + 1, d => if p ^ d < 256 then dgo p f (d + 1) else d
def dg (p : Nat) : Nat := dgo p 8 1
theorem Xle {p : Nat} (hp : 2 ≤ p) (d : Nat) : 2 ^ d ≤ p ^ d := Nat.pow_le_pow_left hp d
theorem Xiu {p : Nat} (hp : 2 ≤ p) : ∀ (f d : Nat), d + f = 9 → 1 ≤ d → p ^ (d - 1) < 256 → d ≤ dgo p f d ∧ dgo p f d ≤ 8 + 1 ∧ p ^ (dgo p f d - 1) < 256 ∧ (256 ≤ p ^ (dgo p f d) ∨ dgo p f d = 9)
  | 0, d, h, h1, h2 => by simp only [dgo]; exact ⟨Nat.le_refl _, by omega, h2, .inr (by omega)⟩
  | f + 1, d, h, h1, h2 => by
    simp only [dgo]
    split
    · rename_i hh
      obtain ⟨a, b, c, e⟩ := Xiu hp f (d + 1) (by omega) (by omega) (by simpa using hh)
      exact ⟨by omega, b, c, e⟩
    · exact ⟨Nat.le_refl _, by omega, h2, .inl (by omega)⟩
theorem Xb4 {p : Nat} (hp : 2 ≤ p) : 1 ≤ dg p ∧ dg p ≤ 8 ∧ p ^ (dg p - 1) < 256 ∧ 256 ≤ p ^ dg p := by
  obtain ⟨a, b, c, e⟩ := Xiu hp 8 1 (by omega) (by omega) (by simp)
  have h9 : dgo p 8 1 ≠ 9 := fun h => by
    rw [h] at c
    have := Xle hp 8
    simp at c
    omega
  exact ⟨a, by unfold dg; omega, c, by rcases e with e | e; exact e; exact absurd e h9⟩
theorem Xiv {p : Nat} (hp : 2 ≤ p) (hp2 : p ≤ 65521) : ∀ (f g d : Nat), d + g = 9 → 1 ≤ d → p ^ (d - 1) < 256 → 10 ≤ f + d → X4f (p : Int) f (d : Int) ((p ^ d : Nat) : Int) = some ((dgo p g d : Nat) : Int)
  | 0, g, d, h, h1, h2, h3 => by omega
  | f + 1, g, d, h, h1, h2, h3 => by
    show X5v (p : Int) (X4f (p : Int) f) _ _ = _
    unfold X5v
    by_cases hlt : p ^ d < 256
    · rw [if_pos (by omega)]
      have hb : p ^ d * p ≤ 256 * 65521 := Nat.mul_le_mul (by omega) hp2
      have e1 : ((p ^ d : Nat) : Int) * (p : Int) = ((p ^ (d + 1) : Nat) : Int) := by rw [Nat.pow_succ]; omega
      have hb2 : p ^ (d + 1) ≤ 256 * 65521 := by rw [Nat.pow_succ]; exact hb
      rw [w64_id (x := (d : Int) + 1) (by omega) (by omega), e1, w64_id (by omega) (by omega)]
      cases g with
      | zero =>
        have := Xle hp d
        have e9 : d = 9 := by omega
        subst e9
        have : 2 ^ 9 ≤ p ^ 9 := Xle hp 9
        omega
      | succ g =>
        have := Xiv hp hp2 f g (d + 1) (by omega) (by omega) (by simpa using hlt) (by omega)
        rw [show ((d : Int) + 1) = ((d + 1 : Nat) : Int) by omega, this]
        simp only [dgo]; rw [if_pos hlt]
    · rw [if_neg (by omega)]
      cases g with
      | zero => rfl
      | succ g => simp only [dgo]; rw [if_neg hlt]
theorem Xem {p : Int} (hp : vF p = true) : X6l p = some ((dg p.toNat : Nat) : Int) := by
  obtain ⟨h1, h2⟩ := vF_b hp
  have := Xiv (p := p.toNat) (by omega) (by omega) big 8 1 (by omega) (by omega) (by simp) (by simp only [big]; omega)
  simp only [Nat.pow_one, Int.toNat_of_nonneg (by omega : 0 ≤ p)] at this
  exact this
def nd (p w n : Nat) : Nat := max 1 ((n * dg p + w - 1) / w)
theorem Xo8 (p w n : Nat) : 1 ≤ nd p w n := by unfold nd; omega
theorem Xqh {d w n : Nat} (hd : d ≤ 8) (hw : 1 ≤ w ∧ w ≤ 64) (hn : n ≤ 2000) :
    max 1 (w64 (Int.tdiv (w64 ((w64 ((w64 ((n : Int) * (d : Int))) + (w : Int))) - 1)) (w : Int))) = ((max 1 ((n * d + w - 1) / w) : Nat) : Int) := by
  have h1 : n * d ≤ 2000 * 8 := Nat.mul_le_mul hn hd
  have e1 : (n : Int) * (d : Int) = ((n * d : Nat) : Int) := by omega
  rw [e1, w64_id (x := ((n * d : Nat) : Int)) (by omega) (by omega), w64_id (x := ((n * d : Nat) : Int) + w) (by omega) (by omega), w64_id (x := ((n * d : Nat) : Int) + w - 1) (by omega) (by omega)]
  have e2 : ((n * d : Nat) : Int) + w - 1 = ((n * d + w - 1 : Nat) : Int) := by omega
  rw [e2, Int.tdiv_eq_ediv_of_nonneg (by omega)]
  have h2 : (n * d + w - 1) / w ≤ n * d + w - 1 := Nat.div_le_self _ _
  have e3 : ((n * d + w - 1 : Nat) : Int) / (w : Int) = (((n * d + w - 1) / w : Nat) : Int) := (Int.natCast_ediv _ _).symm
  rw [e3]
  generalize (n * d + w - 1) / w = q at h2 ⊢
  rw [w64_id (by omega) (by omega)]
  omega
theorem Xen {p : Int} (hp : vF p = true) {w n : Nat} (hw : 1 ≤ w ∧ w ≤ 64) (hn : n ≤ 2000) : X5o p (w : Int) (n : Int) = some ((nd p.toNat w n : Nat) : Int) := by
  unfold X5o
  rw [Xem hp]
  simp only [Option.bind_some]
  rw [Xgx (by omega)]
  simp only [Option.bind_some]
  rw [Xqh (Xb4 (by have := vF_b hp; omega)).2.1 hw hn]; rfl
theorem Xlf {p w n : Nat} (hw : 1 ≤ w) : n * dg p ≤ nd p w n * w := by
  unfold nd
  have h1 := Nat.div_add_mod (n * dg p + w - 1) w
  have h2 := Nat.mod_lt (n * dg p + w - 1) (by omega : 0 < w)
  have h3 : (n * dg p + w - 1) / w * w ≤ max 1 ((n * dg p + w - 1) / w) * w := Nat.mul_le_mul_right w (Nat.le_max_right _ _)
  rw [Nat.mul_comm] at h1
  omega
theorem Xqi {p w n : Nat} (hw : 1 ≤ w ∧ w ≤ 64) (hn : n ≤ 2000) (hd : dg p ≤ 8) : nd p w n * w ≤ 16128 := by
  unfold nd
  have h0 : n * dg p ≤ 2000 * 8 := Nat.mul_le_mul hn hd
  have h1 := Nat.div_add_mod (n * dg p + w - 1) w
  rw [Nat.mul_comm] at h1
  rcases Nat.le_total 1 ((n * dg p + w - 1) / w) with h | h
  · rw [Nat.max_eq_right h]; omega
  · rw [Nat.max_eq_left h]; omega
def digs (p : Int) : Nat → Int → List Int
  | 0, _ => []
  | k + 1, x => x % p :: digs p k (x / p)
theorem Xdm (p : Int) : ∀ (k : Nat) (x : Int), (digs p k x).length = k
  | 0, _ => rfl
  | k + 1, x => by simp [digs, Xdm p k]
def Byt (l : List Int) : Prop := ∀ b ∈ l, 0 ≤ b ∧ b ≤ 255
theorem Xhy (s : ByteArray) : Byt (toB s) := fun b hb => by
  obtain ⟨c, _, rfl⟩ := List.mem_map.1 hb
  have := c.toNat_lt
  omega
theorem Xd0 (s : ByteArray) : (toB s).length = s.size := by unfold toB; rw [List.length_map, Array.length_toList]; rfl
def els (p : Int) (bs : List Int) : List Int := bs.flatMap (digs p (dg p.toNat))
theorem Xeo (p : Int) : ∀ bs : List Int, (els p bs).length = bs.length * dg p.toNat
  | [] => by simp [els]
  | b :: bs => by
    have := Xeo p bs
    unfold els at this ⊢
    rw [List.flatMap_cons, List.length_append, Xdm, this, List.length_cons, Nat.add_mul]; omega
def chk (w n : Nat) (l : List Int) : List (List Int) := (List.range n).map fun i => (l.drop (i * w)).take w
theorem Xhz (w n : Nat) (l : List Int) : (chk w n l).length = n := by simp [chk]
theorem Xep {α : Type} (f : Nat → α) (k m : Nat) : (List.range (m + 1)).map (fun t => f (k + t)) = f k :: (List.range m).map fun t => f (k + 1 + t) := by
  rw [List.range_succ_eq_map, List.map_cons, List.map_map]
  congr 1
  apply List.map_congr_left
  intro t _
  show f (k + (t + 1)) = f (k + 1 + t)
  congr 1; omega
theorem Xnb {α : Type} {l : List α} {i j : Int} (h0 : 0 ≤ i) (h1 : i ≤ j) (h2 : j ≤ l.length) : lsub3 l i j j = some ((l.drop i.toNat).take (j - i).toNat) := by
  unfold lsub3; rw [if_pos ⟨by omega, h2⟩, X5c h0 h1 h2]
theorem Xlg {w n : Nat} {l : List Int} (hw : 1 ≤ w) (hw2 : w ≤ 100000) (hl : l.length = n * w) (hb : l.length ≤ 10000000) : ∀ (m k f : Nat), k + m = n → m < f →
    Xv l (w : Int) f ((k * w : Nat) : Int) = some ((List.range m).map fun t => (l.drop ((k + t) * w)).take w)
  | _, _, 0, _, h => by omega
  | 0, k, f + 1, h, _ => by
    show Xu l (w : Int) (Xv l (w : Int) f) _ = _
    unfold Xu
    have : k = n := by omega
    subst this
    rw [if_neg (by omega)]; rfl
  | m + 1, k, f + 1, h, hf => by
    show Xu l (w : Int) (Xv l (w : Int) f) _ = _
    unfold Xu
    have h1 : (k + 1) * w ≤ n * w := Nat.mul_le_mul_right w (by omega)
    have h2 : (k + 1) * w = k * w + w := by rw [Nat.add_mul]; omega
    rw [if_pos (by omega), X5c (by omega) (by omega) (by omega)]
    simp only [Option.bind_some]
    have hm : min (w : Int) (((l.drop ((k * w : Nat) : Int).toNat).take (((l.length : Int)) - ((k * w : Nat) : Int)).toNat).length : Int) = w := by
      simp only [List.length_take, List.length_drop]; omega
    rw [hm, w64_id (by omega) (by omega), Xnb (by omega) (by omega) (by omega)]
    simp only [Option.bind_some]
    have e1 : ((k * w : Nat) : Int) + (w : Int) = (((k + 1) * w : Nat) : Int) := by omega
    rw [e1, Xlg hw hw2 hl hb m (k + 1) f (by omega) (by omega)]
    have e2 : ((((k + 1) * w : Nat) : Int) - ((k * w : Nat) : Int)).toNat = w := by omega
    rw [e2, Int.toNat_natCast]
    show some (_ :: _) = _
    rw [Xep (fun t => (l.drop (t * w)).take w)]
theorem Xiw {w n : Nat} {l : List Int} (hw : 1 ≤ w) (hw2 : w ≤ 100000) (hl : l.length = n * w) (hb : l.length ≤ 10000000) : X2j l (w : Int) = some (chk w n l) := by
  unfold X2j X3o X3n
  have hn : n ≤ n * w := Nat.le_mul_of_pos_right n hw
  rw [if_neg (by omega)]
  have := Xlg hw hw2 hl hb n 0 big (by omega) (by simp only [big]; omega)
  simp only [Nat.zero_mul, Nat.zero_add] at this
  rw [show (0 : Int) = ((0 : Nat) : Int) from rfl, this]; rfl
theorem Xnc {l : List Int} (h : l.length ≤ 16777216) : X8 l = some l := by
  unfold X8; rw [Xk (by simpa using h)]; rfl
theorem Xlh {x p : Int} (hx : 0 ≤ x) : Int.tmod x p = x % p := Int.tmod_eq_emod_of_nonneg hx
theorem Xnd {x p : Int} (hx : 0 ≤ x ∧ x ≤ 255) (hp : 2 ≤ p) : w64 (Int.tdiv x p) = x / p ∧ 0 ≤ x / p ∧ x / p ≤ 255 := by
  have h1 : 0 ≤ x / p := Int.ediv_nonneg hx.1 (by omega)
  have h2 : x / p ≤ x := Int.ediv_le_self p hx.1
  rw [Int.tdiv_eq_ediv_of_nonneg hx.1, w64_id (by omega) (by omega)]
  omega
theorem Xli {p : Int} (hp : 2 ≤ p) (rc : List Int → Option (List (List Int))) {D N : Nat} (hD : D ≤ 8) : ∀ (k i f : Nat) (l : List Int) (x : Int), i + k = D → k < f → l.length + k ≤ N → 0 ≤ x ∧ x ≤ 255 →
    X3i rc p (D : Int) (N : Int) f l x (i : Int) = rc (l ++ digs p k x)
  | _, _, 0, _, _, _, h, _, _ => by omega
  | 0, i, f + 1, l, x, h, hf, hl, hx => by
    show X3h rc p (D : Int) (N : Int) (X3i rc p (D : Int) (N : Int) f) l x _ = _
    unfold X3h
    rw [if_neg (by omega)]; simp [digs]
  | k + 1, i, f + 1, l, x, h, hf, hl, hx => by
    show X3h rc p (D : Int) (N : Int) (X3i rc p (D : Int) (N : Int) f) l x _ = _
    unfold X3h
    obtain ⟨d1, d2, d3⟩ := Xnd hx hp
    rw [if_pos (by omega), Xgx (by omega)]
    simp only [Option.bind_some]
    have : lapz (N : Int).toNat l [Int.tmod x p] = some (l ++ [Int.tmod x p]) := by unfold lapz; rw [if_pos (by rw [Int.toNat_natCast]; simp; omega)]
    rw [this]
    simp only [Option.bind_some]
    rw [d1, w64_id (by omega) (by omega), show (i : Int) + 1 = ((i + 1 : Nat) : Int) by omega, Xli hp rc hD k (i + 1) f _ _ (by omega) (by omega) (by simp; omega) ⟨d2, d3⟩, Xlh hx.1]
    simp [digs]
theorem Xlj {p : Int} (hp : vF p = true) (kx : List Int → Option (List (List Int))) (z : Int) {N : Nat} (hz : z = (N : Int)) : ∀ (bs l : List Int), Byt bs → l.length + bs.length * dg p.toNat ≤ N →
    X1h kx p z bs l = kx (l ++ els p bs)
  | [], l, _, _ => by simp [X1h, els]
  | b :: bs, l, hb, hl => by
    show X5x kx p z (X1h kx p z bs) b l = _
    unfold X5x
    have h2 := vF_b hp
    have hd := (Xb4 (p := p.toNat) (by omega)).2.1
    rw [Xem hp]
    simp only [Option.bind_some]
    have hbb := hb b List.mem_cons_self
    simp only [List.length_cons, Nat.add_mul, Nat.one_mul] at hl
    rw [w64_id (by omega) (by omega), show (0 : Int) = ((0 : Nat) : Int) from rfl, hz, Xli (by omega) _ hd (dg p.toNat) 0 big l b (by omega) (by simp only [big]; omega) (by omega) hbb, ← hz, Xlj hp kx z hz bs _ (fun x hx => hb x (List.mem_cons_of_mem _ hx)) (by simp [Xdm]; omega)]
    simp [els]
theorem Xlk : ∀ (l acc : List (List Int)), (∀ r ∈ l, r.length ≤ 1000) → acc.length + l.length ≤ 1000000 → X2o X1y l acc = some (acc ++ l)
  | [], acc, _, _ => by simp [X2o, X1y]
  | r :: l, acc, h, hl => by
    show X5w X1y (X2o X1y l) r acc = _
    unfold X5w
    simp only [List.length_cons] at hl
    rw [Xnc (by have := h r List.mem_cons_self; omega)]
    simp only [Option.bind_some]
    rw [Xk (by simp; omega)]
    simp only [Option.bind_some]
    rw [Xlk l _ (fun x hx => h x (List.mem_cons_of_mem _ hx)) (by simp; omega)]; simp
def rowsN (p : Int) (w : Nat) (s : ByteArray) : List (List Int) := chk w (nd p.toNat w s.size) (padz (nd p.toNat w s.size * w) 0 (els p (toB s)))
theorem Xap (p : Int) (w : Nat) (s : ByteArray) : (rowsN p w s).length = nd p.toNat w s.size := Xhz _ _ _
theorem Xhe {α : Type} {N : Nat} {z : α} {l : List α} (h : l.length ≤ N) : (padz N z l).length = N := by simp [padz]; omega
theorem Xll {p : Int} (hp : vF p = true) {w : Nat} (hw : 1 ≤ w ∧ w ≤ 64) {s : ByteArray} (hs : s.size ≤ 2000) : X81 p (w : Int) s = some (rowsN p w s) := by
  have h2 := vF_b hp
  have hd := (Xb4 (p := p.toNat) (by omega)).2.1
  have hm := Xqi (p := p.toNat) hw hs hd
  have hm2 := Xlf (p := p.toNat) (n := s.size) hw.1
  unfold X81
  rw [Xen hp hw hs]
  simp only [Option.bind_some]
  have e1 : ((nd p.toNat w s.size : Nat) : Int) * (w : Int) = ((nd p.toNat w s.size * w : Nat) : Int) := by omega
  rw [e1, w64_id (by omega) (by omega)]
  have e2 : lcap ((nd p.toNat w s.size * w : Nat) : Int) = some () := by unfold lcap; rw [if_pos (by omega)]
  rw [e2]
  simp only [Option.bind_some]
  have e3 : tobs s = some (toB s) := by unfold tobs; rw [if_pos (by omega)]
  rw [e3]
  simp only [Option.bind_some]
  rw [Xlj hp _ _ rfl (toB s) [] (Xhy s) (by rw [Xd0]; simpa using hm2)]
  unfold X1z
  have e4 : lfull ((nd p.toNat w s.size * w : Nat) : Int).toNat 0 ([] ++ els p (toB s)) = some (padz (nd p.toNat w s.size * w) 0 (els p (toB s))) := by
    rw [Int.toNat_natCast, List.nil_append]; unfold lfull; rw [if_pos (by rw [Xeo, Xd0]; exact hm2)]
  rw [e4]
  simp only [Option.bind_some]
  have hpl : (padz (nd p.toNat w s.size * w) (0 : Int) (els p (toB s))).length = nd p.toNat w s.size * w := Xhe (by rw [Xeo, Xd0]; exact hm2)
  rw [Xiw (n := nd p.toNat w s.size) hw.1 (by omega) hpl (by omega)]
  simp only [Option.bind_some]
  have hq : nd p.toNat w s.size ≤ nd p.toNat w s.size * w := Nat.le_mul_of_pos_right _ hw.1
  rw [Xlk _ [] (fun r hr => by obtain ⟨i, _, rfl⟩ := List.mem_map.1 hr; simp only [List.length_take]; omega) (by rw [Xhz]; simp; omega)]
  rfl
def sumN (p : Int) (w : Nat) : List ByteArray → Nat
  | [] => 0
  | s :: r => nd p.toNat w s.size + sumN p w r
def plc (p : Int) (w : Nat) : Nat → List ByteArray → List (Int × Int × Int)
  | _, [] => []
  | k, s :: r => ((k : Int), ((nd p.toNat w s.size : Nat) : Int), (s.size : Int)) :: plc p w (k + nd p.toNat w s.size) r
theorem Xeq (p : Int) (w : Nat) : ∀ (k : Nat) (r : List ByteArray), (plc p w k r).length = r.length
  | _, [] => rfl
  | k, s :: r => by simp [plc, Xeq p w _ r]
def fitR (p : Int) (w n : Nat) (r : List ByteArray) : Prop := (∀ s ∈ r, s.size ≤ 1024) ∧ n + sumN p w r ≤ 1024
instance (p : Int) (w n : Nat) (r : List ByteArray) : Decidable (fitR p w n r) := by unfold fitR; infer_instance
abbrev Lay := Int × List (Int × Int × Int)
abbrev noR : List (List Int) × Lay × Int := (([] : List (List Int)), ((0 : Int), ([] : List (Int × Int × Int))), 4)
theorem Xrq {p : Int} (hp : vF p = true) {w : Nat} (hw : 1 ≤ w ∧ w ≤ 64) (z : Int) : ∀ (r : List ByteArray) (acc : List (List Int)) (pl : List (Int × Int × Int)), acc.length ≤ 1024 → pl.length + r.length ≤ 1000 →
    X3j X27 (w : Int) p z r acc pl = some (if fitR p w acc.length r then (acc ++ r.flatMap (rowsN p w), ((w : Int), pl ++ plc p w acc.length r), 0) else noR)
  | [], acc, pl, h1, h2 => by
    show some _ = _
    rw [if_pos (by unfold fitR; simp [sumN]; exact h1)]; simp [plc]
  | s :: r, acc, pl, h1, h2 => by
    show X5y X27 (w : Int) p z (X3j X27 (w : Int) p z r) s acc pl = _
    unfold X5y
    simp only [List.length_cons] at h2
    by_cases hs : 1024 < (s.size : Int)
    · rw [if_pos hs]
      simp only [Option.bind_some, if_true]
      rw [if_neg (by unfold fitR; rintro ⟨h, _⟩; have := h s List.mem_cons_self; omega)]
    · rw [if_neg hs, Xen hp hw (by omega)]
      simp only [Option.bind_some]
      have hd := (Xb4 (p := p.toNat) (by have := vF_b hp; omega)).2.1
      have hm := Xqi (p := p.toNat) (n := s.size) hw (by omega) hd
      have hq : nd p.toNat w s.size ≤ nd p.toNat w s.size * w := Nat.le_mul_of_pos_right _ hw.1
      rw [w64_id (by omega) (by omega)]
      by_cases hn : 1024 < ((acc.length : Int) + ((nd p.toNat w s.size : Nat) : Int))
      · rw [if_pos (bt hn), if_neg (by unfold fitR; rintro ⟨_, h⟩; simp only [sumN] at h; omega)]
      · rw [if_neg (bf hn), Xll hp hw (by omega)]
        simp only [Option.bind_some]
        rw [Xk (by rw [Xap]; omega)]
        simp only [Option.bind_some]
        rw [Xk (by simp; omega)]
        simp only [Option.bind_some]
        have hal : (acc ++ rowsN p w s).length = acc.length + nd p.toNat w s.size := by rw [List.length_append, Xap]
        rw [Xrq hp hw z r _ _ (by rw [hal]; omega) (by simp; omega)]
        have hfit : fitR p w (acc ++ rowsN p w s).length r ↔ fitR p w acc.length (s :: r) := by
          rw [hal]; unfold fitR
          simp only [sumN, List.mem_cons, forall_eq_or_imp]
          constructor
          · rintro ⟨a, b⟩; exact ⟨⟨by omega, a⟩, by omega⟩
          · rintro ⟨⟨_, a⟩, b⟩; exact ⟨a, by omega⟩
        have hv : w64 (((acc ++ rowsN p w s).length : Int) - (acc.length : Int)) = ((nd p.toNat w s.size : Nat) : Int) := by
          rw [hal, w64_id (by omega) (by omega)]; omega
        rw [hv]
        by_cases hf : fitR p w acc.length (s :: r)
        · rw [if_pos (hfit.2 hf), if_pos hf, hal]; simp [plc]
        · rw [if_neg (fun h => hf (hfit.1 h)), if_neg hf]
def encI (p w : Int) (r : List ByteArray) : List (List Int) × Lay × Int :=
  if vF p = false then ([], (0, []), 9) else if ¬ (1 ≤ w ∧ w ≤ 64) then ([], (0, []), 1) else if 256 < (r.length : Int) then noR
  else if fitR p w.toNat 0 r then (r.flatMap (rowsN p w.toNat), (w, plc p w.toNat 0 r), 0) else noR
theorem Xsb {p w : Int} {r : List ByteArray} (h : vF p = false) : encI p w r = ([], (0, []), 9) := by unfold encI; rw [if_pos h]
theorem Xsc {p w : Int} {r : List ByteArray} (h : vF p = true) (hw : ¬ (1 ≤ w ∧ w ≤ 64)) : encI p w r = ([], (0, []), 1) := by unfold encI; rw [if_neg (by simp [h]), if_pos hw]
theorem Xsd {p w : Int} {r : List ByteArray} (h : vF p = true) (hw : 1 ≤ w ∧ w ≤ 64) (hr : 256 < (r.length : Int)) : encI p w r = noR := by unfold encI; rw [if_neg (by simp [h]), if_neg (not_not_intro hw), if_pos hr]
theorem Xrr {p w : Int} {r : List ByteArray} (h : vF p = true) (hw : 1 ≤ w ∧ w ≤ 64) (hr : ¬ 256 < (r.length : Int)) : encI p w r = if fitR p w.toNat 0 r then (r.flatMap (rowsN p w.toNat), (w, plc p w.toNat 0 r), 0) else noR := by
  unfold encI; rw [if_neg (by simp [h]), if_neg (not_not_intro hw), if_neg hr]
theorem Xlm (p w : Int) (r : List ByteArray) : X82 p w r = some (encI p w r) := by
  unfold X82
  rw [of_eq]
  simp only [Option.bind_some]
  by_cases hp : vF p = true
  · rw [if_pos hp]
    dsimp only
    rw [if_neg (by simp)]
    unfold X6c
    simp only [Option.bind_some]
    by_cases hw : 1 ≤ w ∧ w ≤ 64
    · rw [if_neg (nb_t hw)]
      by_cases hr : 256 < (r.length : Int)
      · rw [if_pos hr, Xsd hp hw hr]
      · rw [if_neg hr, Xrr hp hw hr]
        have := Xrq hp (w := w.toNat) (by omega) p r [] [] (by simp) (by simp; omega)
        rw [Int.toNat_of_nonneg (by omega)] at this
        rw [this]; simp
    · rw [if_pos (nb_f hw), Xsc hp hw]
  · have hp : vF p = false := by simpa using hp
    rw [Xsb hp, hp]; rfl
def val (p : Int) : List Int → Int
  | [] => 0
  | x :: l => x + p * val p l
def elm (p : Int) (l : List Int) : Prop := ∀ x ∈ l, 0 ≤ x ∧ x < p
instance (p : Int) (l : List Int) : Decidable (elm p l) := by unfold elm; infer_instance
theorem Xrs {p : Int} (hp : 2 ≤ p) : ∀ l : List Int, elm p l → 0 ≤ val p l ∧ val p l < p ^ l.length
  | [], _ => by simp [val]
  | x :: l, h => by
    obtain ⟨a, b⟩ := Xrs hp l (fun y hy => h y (List.mem_cons_of_mem _ hy))
    obtain ⟨c, d⟩ := h x List.mem_cons_self
    simp only [val, List.length_cons]
    have h1 : 0 ≤ p * val p l := Int.mul_nonneg (by omega) a
    have h2 : p * val p l ≤ p * (p ^ l.length - 1) := Int.mul_le_mul_of_nonneg_left (by omega) (by omega)
    rw [Int.mul_sub, Int.mul_one] at h2
    rw [Int.pow_succ, Int.mul_comm (p ^ l.length) p]
    omega
theorem Xse {p : Int} (hp : vF p = true) {k : Nat} (hk : k ≤ dg p.toNat) : 0 ≤ p ^ k ∧ p ^ k ≤ 256 * 65521 := by
  have h2 := vF_b hp
  obtain ⟨h3, h4, h5, h6⟩ := Xb4 (p := p.toNat) (by omega)
  have e1 : p ^ k = ((p.toNat ^ k : Nat) : Int) := by
    rw [Int.natCast_pow, Int.toNat_of_nonneg (by omega)]
  have e2 : p.toNat ^ k ≤ p.toNat ^ dg p.toNat := Nat.pow_le_pow_right (by omega) hk
  have e3 : p.toNat ^ dg p.toNat = p.toNat ^ (dg p.toNat - 1) * p.toNat := by
    rw [← Nat.pow_succ]; congr 1; omega
  have e4 : p.toNat ^ (dg p.toNat - 1) * p.toNat ≤ 256 * 65521 := Nat.mul_le_mul (by omega) (by omega)
  omega
theorem Xln {p : Int} (hp : vF p = true) {l : List Int} (hl : elm p l) (hk : l.length ≤ dg p.toNat) : 0 ≤ val p l ∧ val p l ≤ 256 * 65521 := by
  have := Xrs (by have := vF_b hp; omega) l hl
  have := Xse hp hk
  omega
theorem Xfo {l : List Int} (hl : l.length ≤ 1000000) : ∀ (k f : Nat), k ≤ l.length → k < f → Xa l f ((k : Int) - 1) = some (((l.take k).zipIdx.map fun z => ((z.2 : Int), z.1)).reverse)
  | _, 0, _, h => by omega
  | 0, f + 1, h, hf => by
    show X9 l (Xa l f) _ = _
    unfold X9
    rw [if_neg (by omega)]; simp
  | k + 1, f + 1, h, hf => by
    show X9 l (Xa l f) _ = _
    unfold X9
    have e0 : ((k + 1 : Nat) : Int) - 1 = (k : Int) := by omega
    rw [if_pos (by omega), e0, X4d 0 (by omega)]
    simp only [Option.bind_some]
    rw [w64_id (by omega) (by omega), Xfo hl k f (by omega) (by omega)]
    have e1 : l.getD k 0 = l[k] := by rw [List.getD_eq_getElem?_getD, List.getElem?_eq_getElem (by omega)]; rfl
    rw [List.take_add_one, List.getElem?_eq_getElem (by omega), e1]
    simp only [yc, Option.map_some, Option.toList_some, List.zipIdx_append, List.map_append, List.reverse_append]
    congr 1
    simp [List.zipIdx]
    omega
theorem Xi0 {l : List Int} (hl : l.length ≤ 1000000) : X11 l = some ((l.zipIdx.map fun z => ((z.2 : Int), z.1)).reverse) := by
  unfold X11 X22
  rw [w64_id (by omega) (by omega)]
  have := Xfo hl l.length big (Nat.le_refl _) (by simp only [big]; omega)
  rw [List.take_length] at this
  rw [this]; rfl
theorem Xo9 {p : Int} (hp : vF p = true) (kx : Int → Option (ByteArray × Int)) : ∀ (l : List (Int × Int)) (t : List Int), elm p t → elm p (l.map (·.2)) → t.length + l.length ≤ dg p.toNat →
    X2r kx p l (val p t) = kx (val p ((l.map (·.2)).reverse ++ t))
  | [], t, _, _, _ => by simp [X2r]
  | x :: l, t, h1, h2, h3 => by
    show X5z kx p (X2r kx p l) x (val p t) = _
    unfold X5z
    simp only [List.length_cons] at h3
    have hx := h2 x.2 (by simp)
    have ht : elm p (x.2 :: t) := fun y hy => by rcases List.mem_cons.1 hy with rfl | hy; exact hx; exact h1 y hy
    have hb := Xln hp ht (by simp; omega)
    simp only [val] at hb
    have hbt := Xln hp h1 (by omega)
    have h2' := vF_b hp
    have hm : val p t * p ≤ 256 * 65521 := by rw [Int.mul_comm]; omega
    have hm0 : 0 ≤ val p t * p := Int.mul_nonneg hbt.1 (by omega)
    rw [w64_id (x := val p t * p) (by omega) (by omega), w64_id (by omega) (by omega)]
    have e : val p t * p + x.2 = val p (x.2 :: t) := by simp only [val]; rw [Int.mul_comm]; omega
    rw [e, Xo9 hp kx l (x.2 :: t) ht (fun y hy => h2 y (by simp only [List.map_cons]; exact List.mem_cons_of_mem _ hy)) (by simp; omega)]
    simp
abbrev noD : ByteArray × Int := (ByteArray.empty, 2)
theorem Xoa {p : Int} (hp : vF p = true) (kx : List Int → Option (ByteArray × Int)) : ∀ (l : List (List Int)) (acc : List Int), (∀ c ∈ l, elm p c ∧ c.length ≤ dg p.toNat) → acc.length + l.length ≤ 100000 →
    Xz kx p l acc = if (∀ c ∈ l, val p c ≤ 255) then kx (acc ++ l.map (val p)) else some noD
  | [], acc, _, _ => by simp [Xz]
  | c :: l, acc, h, hl => by
    show X60 kx p (Xz kx p l) c acc = _
    unfold X60
    simp only [List.length_cons] at hl
    obtain ⟨hc, hcl⟩ := h c List.mem_cons_self
    have hd := (Xb4 (p := p.toNat) (by have := vF_b hp; omega)).2.1
    rw [Xi0 (by omega)]
    simp only [Option.bind_some]
    have em : ((c.zipIdx.map fun z => ((z.2 : Int), z.1)).reverse.map (·.2)) = c.reverse := by
      rw [List.map_reverse, List.map_map]
      congr 1
      have : ((fun z : Int × Int => z.2) ∘ fun z : Int × Nat => ((z.2 : Int), z.1)) = fun z : Int × Nat => z.1 := rfl
      rw [this, List.zipIdx_map_fst]
    have := Xo9 hp (X2q (Xz kx p l) acc) ((c.zipIdx.map fun z => ((z.2 : Int), z.1)).reverse) [] (fun x hx => by cases hx) (by rw [em]; exact fun x hx => hc x (by simpa using hx)) (by simp; omega)
    rw [em, List.reverse_reverse, List.append_nil] at this
    rw [show val p [] = 0 from rfl] at this
    rw [this]
    unfold X2q
    have hv := Xln hp hc hcl
    by_cases h255 : 255 < val p c
    · rw [if_pos h255, if_neg (fun hh => by have := hh c List.mem_cons_self; omega)]
    · rw [if_neg h255, Xk (by simp; omega)]
      simp only [Option.bind_some]
      rw [Xqy (by omega) (by omega), Xoa hp kx l _ (fun x hx => h x (List.mem_cons_of_mem _ hx)) (by simp; omega)]
      by_cases ha : ∀ c ∈ l, val p c ≤ 255
      · rw [if_pos ha, if_pos (fun x hx => by rcases List.mem_cons.1 hx with rfl | hx; omega; exact ha x hx)]; simp
      · rw [if_neg ha, if_neg (fun hh => ha fun x hx => hh x (List.mem_cons_of_mem _ hx))]
theorem Xrt (f : Int → Option Bool) (g : Int → Bool) (hf : ∀ x, f x = some (g x)) : ∀ (l : List Int) (i : Nat), ∃ n : Int, Xc f l i = some n ∧ (0 ≤ n ↔ l.any g = true)
  | [], i => ⟨-1, rfl, by simp⟩
  | x :: l, i => by
    obtain ⟨n, h1, h2⟩ := Xrt f g hf l (i + 1)
    show ∃ n, X16 f (Xc f l (i + 1)) x i = _ ∧ _
    unfold X16
    rw [hf, h1]
    simp only [Option.bind_some]
    cases hg : g x with
    | true => exact ⟨i, by rw [if_pos rfl], by simp [hg]⟩
    | false => exact ⟨n, by rw [if_neg (by simp)], by simp [hg, h2]⟩
theorem Xlo (f : Int → Option Bool) (g : Int → Bool) (hf : ∀ x, f x = some (g x)) (l : List Int) : Xq l f = some (l.any g) := by
  unfold Xq X2a
  obtain ⟨n, h1, h2⟩ := Xrt f g hf l 0
  rw [h1]
  simp only [Option.bind_some]
  congr 1
  rw [Bool.eq_iff_iff, decide_eq_true_eq]; exact h2
theorem all_eq (p : Int) (l : List Int) : Xg p l = some (decide (elm p l)) := by
  unfold Xg
  rw [Xlo (fun y0 => X2h y0 p) (fun x => !decide (0 ≤ x ∧ x < p)) (fun x => rfl)]
  simp only [Option.bind_some]
  congr 1
  rw [Bool.eq_iff_iff, decide_eq_true_eq]
  unfold elm
  simp
def rOk (p : Int) (w : Nat) (rows : List (List Int)) : Prop := ∀ r ∈ rows, r.length = w ∧ elm p r
instance (p : Int) (w : Nat) (rows : List (List Int)) : Decidable (rOk p w rows) := by unfold rOk; infer_instance
theorem Xlp {p : Int} {w : Nat} : ∀ {rows : List (List Int)}, rOk p w rows → rows.flatten.length = rows.length * w
  | [], _ => by simp
  | r :: rows, h => by
    have := Xlp (rows := rows) (fun x hx => h x (List.mem_cons_of_mem _ hx))
    simp only [List.flatten_cons, List.length_append, List.length_cons, this, (h r List.mem_cons_self).1, Nat.add_mul]; omega
theorem Xqj {p : Int} {w : Nat} {rows : List (List Int)} (h : rOk p w rows) : elm p rows.flatten := fun x hx => by
  obtain ⟨r, hr, hxr⟩ := List.mem_flatten.1 hx
  exact (h r hr).2 x hxr
theorem Xob {p : Int} {w : Nat} (z : Int) (kx : List Int → Int → Int → ByteArray → Int → Option (ByteArray × Int)) : ∀ (rows : List (List Int)) (acc : List Int), acc.length + rows.length * w ≤ 1000000 →
    X2t kx (w : Int) p z rows acc = if rOk p w rows then kx (acc ++ rows.flatten) p 0 ByteArray.empty z else some noD
  | [], acc, _ => by rw [if_pos (show rOk p w [] from fun _ h => by cases h)]; simp [X2t]
  | r :: rows, acc, h => by
    show X61 kx (w : Int) p z (X2t kx (w : Int) p z rows) r acc = _
    unfold X61
    simp only [List.length_cons, Nat.add_mul, Nat.one_mul] at h
    by_cases hr : (r.length : Int) ≠ (w : Int)
    · rw [if_pos hr]
      simp only [Option.bind_some, if_true]
      rw [if_neg (show ¬ rOk p w (r :: rows) from fun hh => by have := (hh r List.mem_cons_self).1; omega)]
    · rw [if_neg hr, all_eq]
      simp only [Option.bind_some]
      by_cases he : elm p r
      · rw [if_neg (nb_t he), Xk (by omega)]
        simp only [Option.bind_some]
        rw [Xob z kx rows _ (by simp; omega)]
        by_cases hh : rOk p w rows
        · rw [if_pos hh, if_pos (show rOk p w (r :: rows) from fun x hx => by rcases List.mem_cons.1 hx with rfl | hx; exact ⟨by omega, he⟩; exact hh x hx)]; simp
        · rw [if_neg hh, if_neg (show ¬ rOk p w (r :: rows) from fun h2 => hh fun x hx => h2 x (List.mem_cons_of_mem _ hx))]
      · rw [if_pos (nb_f he), if_neg (show ¬ rOk p w (r :: rows) from fun hh => he (hh r List.mem_cons_self).2)]
def vals (p : Int) (n : Nat) (l : List Int) : List Int := (chk (dg p.toNat) n l).map (val p)
def good (p : Int) (n : Nat) (l : List Int) : Prop := (∀ v ∈ vals p n l, v ≤ 255) ∧ ∀ x ∈ l.drop (n * dg p.toNat), x = 0
instance (p : Int) (n : Nat) (l : List Int) : Decidable (good p n l) := by unfold good; infer_instance
def decI (p w n : Int) (rows : List (List Int)) : ByteArray × Int :=
  if vF p = false then (ByteArray.empty, 9) else if ¬ ((1 ≤ w ∧ w ≤ 64) ∧ 0 ≤ n ∧ n ≤ 1024) then (ByteArray.empty, 1) else if rows.length ≠ nd p.toNat w.toNat n.toNat then noD
  else if rOk p w.toNat rows ∧ good p n.toNat rows.flatten then (ofB (vals p n.toNat rows.flatten), 0) else noD
theorem Xsf {p w n : Int} {rows : List (List Int)} (h : vF p = false) : decI p w n rows = (ByteArray.empty, 9) := by unfold decI; rw [if_pos h]
theorem Xsg {p w n : Int} {rows : List (List Int)} (h : vF p = true) (h2 : ¬ ((1 ≤ w ∧ w ≤ 64) ∧ 0 ≤ n ∧ n ≤ 1024)) : decI p w n rows = (ByteArray.empty, 1) := by unfold decI; rw [if_neg (by simp [h]), if_pos h2]
theorem Xsh {p w n : Int} {rows : List (List Int)} (h : vF p = true) (h2 : (1 ≤ w ∧ w ≤ 64) ∧ 0 ≤ n ∧ n ≤ 1024) (h3 : rows.length ≠ nd p.toNat w.toNat n.toNat) : decI p w n rows = noD := by
  unfold decI; rw [if_neg (by simp [h]), if_neg (not_not_intro h2), if_pos h3]
theorem Xru {p w n : Int} {rows : List (List Int)} (h : vF p = true) (h2 : (1 ≤ w ∧ w ≤ 64) ∧ 0 ≤ n ∧ n ≤ 1024) (h3 : rows.length = nd p.toNat w.toNat n.toNat) :
    decI p w n rows = if rOk p w.toNat rows ∧ good p n.toNat rows.flatten then (ofB (vals p n.toNat rows.flatten), 0) else noD := by
  unfold decI; rw [if_neg (by simp [h]), if_neg (not_not_intro h2), if_neg (not_not_intro h3)]
theorem Xne {w n : Nat} (l : List Int) : chk w n (l.take (n * w)) = chk w n l := by
  unfold chk
  apply List.map_congr_left
  intro i hi
  have hi := List.mem_range.1 hi
  have h1 : (i + 1) * w ≤ n * w := Nat.mul_le_mul_right w (by omega)
  rw [Nat.add_mul, Nat.one_mul] at h1
  rw [List.drop_take, List.take_take, Nat.min_eq_left (by omega)]
theorem Xlq {w n : Nat} {l c : List Int} (hc : c ∈ chk w n l) : c.length ≤ w ∧ ∀ x ∈ c, x ∈ l := by
  obtain ⟨i, _, rfl⟩ := List.mem_map.1 hc
  exact ⟨by simp only [List.length_take]; omega, fun x hx => List.mem_of_mem_drop (List.mem_of_mem_take hx)⟩
theorem Xlr (p w n : Int) (rows : List (List Int)) : X85 p w n rows = some (decI p w n rows) := by
  unfold X85
  rw [of_eq]
  simp only [Option.bind_some]
  by_cases hp : vF p = true
  · rw [if_pos hp]
    dsimp only
    rw [if_neg (by simp)]
    unfold X6c
    simp only [Option.bind_some]
    by_cases h2 : (1 ≤ w ∧ w ≤ 64) ∧ 0 ≤ n ∧ n ≤ 1024
    · rw [if_neg (show ¬ (((!decide (1 ≤ w ∧ w ≤ 64)) = true ∨ n < 0) ∨ 1024 < n) from fun h => by rcases h with (h | h) | h; exact nb_t h2.1 h; omega; omega)]
      have hd := Xb4 (p := p.toNat) (by have := vF_b hp; omega)
      have hneed := Xen hp (w := w.toNat) (n := n.toNat) (by omega) (by omega)
      rw [Int.toNat_of_nonneg (by omega), Int.toNat_of_nonneg (by omega)] at hneed
      rw [hneed]
      simp only [Option.bind_some]
      by_cases h3 : rows.length = nd p.toNat w.toNat n.toNat
      · rw [if_neg (by omega), Xru hp h2 h3]
        have hm := Xqi (p := p.toNat) (w := w.toNat) (n := n.toNat) (by omega) (by omega) hd.2.1
        have hm2 := Xlf (p := p.toNat) (w := w.toNat) (n := n.toNat) (by omega)
        have h6 := Xob (p := p) (w := w.toNat) p (X2s n) rows [] (by rw [h3]; simp; omega)
        rw [Int.toNat_of_nonneg (by omega)] at h6
        rw [h6]
        by_cases hr : rOk p w.toNat rows
        · rw [if_pos hr, List.nil_append]
          unfold X2s
          have hfl := Xlp hr
          rw [h3] at hfl
          rw [Xem hp]
          simp only [Option.bind_some]
          have hnd : n.toNat * dg p.toNat ≤ 1024 * 8 := Nat.mul_le_mul (by omega) hd.2.1
          have e1 : n * ((dg p.toNat : Nat) : Int) = ((n.toNat * dg p.toNat : Nat) : Int) := by rw [Int.natCast_mul, Int.toNat_of_nonneg (by omega)]
          rw [e1, w64_id (by omega) (by omega), X5c (by omega) (by omega) (by omega)]
          simp only [Option.bind_some]
          have e2 : ((rows.flatten.drop (0 : Int).toNat).take (((n.toNat * dg p.toNat : Nat) : Int) - 0).toNat) = rows.flatten.take (n.toNat * dg p.toNat) := by
            rw [show (0 : Int).toNat = 0 from rfl, List.drop_zero, Int.sub_zero, Int.toNat_natCast]
          rw [e2, Xiw (n := n.toNat) hd.1 (by omega) (by rw [List.length_take]; omega) (by rw [List.length_take]; omega), Xne]
          simp only [Option.bind_some]
          rw [Xoa hp _ _ [] (fun c hc => ⟨fun x hx => Xqj hr x ((Xlq hc).2 x hx), (Xlq hc).1⟩) (by rw [Xhz]; simp; omega)]
          have hv : (∀ c ∈ chk (dg p.toNat) n.toNat rows.flatten, val p c ≤ 255) ↔ ∀ v ∈ vals p n.toNat rows.flatten, v ≤ 255 := by unfold vals; simp
          by_cases hc : ∀ c ∈ chk (dg p.toNat) n.toNat rows.flatten, val p c ≤ 255
          · rw [if_pos hc]
            unfold X1i
            rw [e1, w64_id (by omega) (by omega), X5c (by omega) (by omega) (by omega)]
            simp only [Option.bind_some]
            rw [Xlo X6x (fun x => decide (x ≠ 0)) (fun x => rfl)]
            simp only [Option.bind_some]
            have e3 : ((rows.flatten.drop ((n.toNat * dg p.toNat : Nat) : Int).toNat).take ((rows.flatten.length : Int) - ((n.toNat * dg p.toNat : Nat) : Int)).toNat) = rows.flatten.drop (n.toNat * dg p.toNat) := by
              rw [Int.toNat_natCast]; apply List.take_of_length_le; rw [List.length_drop]; omega
            rw [e3]
            by_cases hz : ∀ x ∈ rows.flatten.drop (n.toNat * dg p.toNat), x = 0
            · rw [if_neg (by simp only [List.any_eq_true, decide_eq_true_eq]; rintro ⟨x, hx, hn⟩; exact hn (hz x hx)), if_pos ⟨hr, hv.1 hc, hz⟩]; simp [vals]
            · rw [if_pos (by simp only [List.any_eq_true, decide_eq_true_eq]; simpa using hz), if_neg (fun h => hz h.2.2)]
          · rw [if_neg hc, if_neg (fun h => hc (hv.2 h.2.1))]
        · rw [if_neg hr, if_neg (fun h => hr h.1)]
      · rw [if_pos (by omega), Xsh hp h2 h3]
    · rw [Xsg hp h2]
      by_cases hw : 1 ≤ w ∧ w ≤ 64
      · rw [if_pos (show ((!decide (1 ≤ w ∧ w ≤ 64)) = true ∨ n < 0) ∨ 1024 < n by rcases Int.lt_or_le n 0 with h | h; exact .inl (.inr h); exact .inr (by omega))]
      · rw [if_pos (.inl (.inl (nb_f hw)))]
  · have hp : vF p = false := by simpa using hp
    rw [Xsf hp, hp]; rfl
def chN : List (Int × Int × Int) → Int → Int → Bool
  | [], at_, n => decide (at_ = n)
  | x :: l, at_, n => decide (x.1 = at_ ∧ 1 ≤ x.2.1 ∧ x.2.1 ≤ 1024 ∧ 0 ≤ x.2.2 ∧ x.2.2 ≤ 1024) && chN l (at_ + x.2.1) n
def chkI (l : Lay) (n : Int) : Int := if ((1 ≤ l.1 ∧ l.1 ≤ 64) ∧ l.2.length ≤ 256) ∧ chN l.2 0 n = true then 0 else 2
theorem Xnf : ∀ (l : List (Int × Int × Int)) (a n : Int), chN l a n = true → a + l.length ≤ n ∧ n ≤ a + 1024 * l.length
  | [], a, n, h => by simp [chN] at h; simp; omega
  | x :: l, a, n, h => by
    simp only [chN, Bool.and_eq_true, decide_eq_true_eq] at h
    obtain ⟨h1, h2⟩ := h
    have := Xnf l _ _ h2
    simp only [List.length_cons]; omega
theorem Xls (z n : Int) (hn : -9223372036854775808 ≤ n ∧ n ≤ 9223372036854775807) : ∀ (l : List (Int × Int × Int)) (a : Int), 0 ≤ a → a + 1024 * l.length ≤ 1000000 →
    X47 (X1x n) n z l a = some (if chN l a n then 0 else 2)
  | [], a, _, _ => by
    show X1x n a z = _
    unfold X1x chN
    by_cases h : a = n
    · rw [if_neg (not_not_intro h), if_pos (bt h)]
    · rw [if_pos h, if_neg (bf h)]
  | x :: l, a, h1, h2 => by
    show X6d (X1x n) n z (X47 (X1x n) n z l) x a = _
    unfold X6d
    simp only [List.length_cons] at h2
    by_cases hx : x.1 = a ∧ 1 ≤ x.2.1 ∧ x.2.1 ≤ 1024 ∧ 0 ≤ x.2.2 ∧ x.2.2 ≤ 1024
    · by_cases hw : w64 (n - a) < x.2.1
      · rw [if_pos (.inr hw), if_neg]
        intro hc
        simp only [chN, Bool.and_eq_true] at hc
        have := Xnf _ _ _ hc.2
        rw [w64_id (by omega) (by omega)] at hw
        omega
      · have e : chN (x :: l) a n = chN l (a + x.2.1) n := by simp only [chN]; rw [decide_eq_true hx, Bool.true_and]
        rw [if_neg (by omega), w64_id (by omega) (by omega), Xls z n hn l _ (by omega) (by omega), e]
    · rw [if_pos (by omega), if_neg]
      intro hc
      simp only [chN, Bool.and_eq_true, decide_eq_true_eq] at hc
      exact hx hc.1
theorem Xng (l : Lay) {n : Int} (hn : -9223372036854775808 ≤ n ∧ n ≤ 9223372036854775807) : X8y l n = some (chkI l n) := by
  unfold X8y X6c
  simp only [Option.bind_some]
  by_cases h : (1 ≤ l.1 ∧ l.1 ≤ 64) ∧ l.2.length ≤ 256
  · rw [if_neg (show ¬ ((!decide (1 ≤ l.1 ∧ l.1 ≤ 64)) = true ∨ 256 < (l.2.length : Int)) from fun hh => by rcases hh with hh | hh; exact nb_t h.1 hh; omega), Xls _ n hn l.2 0 (by omega) (by omega)]
    unfold chkI
    by_cases hc : chN l.2 0 n = true
    · rw [if_pos hc, if_pos ⟨h, hc⟩]
    · rw [if_neg hc, if_neg (fun hh => hc hh.2)]
  · have e : chkI l n = 2 := by unfold chkI; rw [if_neg (fun hh => h hh.1)]
    rw [e]
    by_cases hw : 1 ≤ l.1 ∧ l.1 ≤ 64
    · rw [if_pos (.inr (by omega))]
    · rw [if_pos (.inl (nb_f hw))]
theorem Xlt {l : Lay} {n : Int} (h : chkI l n = 0) : ((1 ≤ l.1 ∧ l.1 ≤ 64) ∧ l.2.length ≤ 256) ∧ chN l.2 0 n = true := by
  unfold chkI at h
  split at h
  · assumption
  · omega
theorem Xqk {l : Lay} {n : Int} (h : ¬ chkI l n = 0) : chkI l n = 2 := by
  unfold chkI at h ⊢
  split
  · rename_i hh; rw [if_pos hh] at h; exact absurd rfl h
  · rfl
theorem Xlu : ∀ (l : List (Int × Int × Int)) (a n : Int) (i : Nat) (x : Int × Int × Int), chN l a n = true → l[i]? = some x → a ≤ x.1 ∧ x.1 + x.2.1 ≤ n ∧ 1 ≤ x.2.1 ∧ x.2.1 ≤ 1024 ∧ 0 ≤ x.2.2 ∧ x.2.2 ≤ 1024
  | [], _, _, i, x, _, h => by simp at h
  | y :: l, a, n, 0, x, h, hx => by
    simp only [List.getElem?_cons_zero, Option.some.injEq] at hx
    subst hx
    simp only [chN, Bool.and_eq_true, decide_eq_true_eq] at h
    have := Xnf _ _ _ h.2
    omega
  | y :: l, a, n, i + 1, x, h, hx => by
    simp only [List.getElem?_cons_succ] at hx
    simp only [chN, Bool.and_eq_true, decide_eq_true_eq] at h
    have := Xlu l _ _ i x h.2 hx
    omega
def recI (p : Int) (l : Lay) (rows : List (List Int)) (i : Int) : ByteArray × Int :=
  if chkI l (rows.length : Int) ≠ 0 then (ByteArray.empty, 2) else if i < 0 ∨ (l.2.length : Int) ≤ i then (ByteArray.empty, 6)
  else decI p l.1 (l.2.getD i.toNat (0, 0, 0)).2.2 ((rows.drop (l.2.getD i.toNat (0, 0, 0)).1.toNat).take (l.2.getD i.toNat (0, 0, 0)).2.1.toNat)
def mst : List (Int × Int × Int) → Int
  | [] => 0
  | x :: l => l.foldl (fun m y => max m y.2.1) x.2.1
theorem Xql {l : List (Int × Int × Int)} (hl : l.length ≤ 9223372036854775000) : ∀ (k f : Nat) (m : Int × Int × Int), k ≤ l.length → l.length - k < f →
    ∃ r, Xh X6 l X52 f (k : Int) m.1 m.2.1 m.2.2 = some r ∧ r.2.1 = (l.drop k).foldl (fun m y => max m y.2.1) m.2.1
  | _, 0, _, _, h => by omega
  | k, f + 1, m, h1, h2 => by
    show ∃ r, Xr _ l X52 (Xh X6 l X52 f) (k : Int) m.1 m.2.1 m.2.2 = _ ∧ _
    unfold Xr
    by_cases hk : k < l.length
    · rw [if_pos (by omega), X4d (0, 0, 0) hk]
      simp only [Option.bind_some]
      have hg : l.getD k (0, 0, 0) = l[k] := by rw [List.getD_eq_getElem?_getD, List.getElem?_eq_getElem hk]; rfl
      rw [hg, List.drop_eq_getElem_cons hk, List.foldl_cons]
      have e1 : w64 ((k : Int) + 1) = ((k + 1 : Nat) : Int) := by rw [w64_id (by omega) (by omega)]; omega
      rw [e1]
      unfold X52
      by_cases hc : (l[k]).2.1 < m.2.1
      · rw [if_pos hc]
        simp only [Option.bind_some]
        rw [if_neg (by omega)]
        obtain ⟨r, h3, h4⟩ := Xql hl (k + 1) f m (by omega) (by omega)
        exact ⟨r, h3, by rw [h4, Int.max_eq_left (by omega)]⟩
      · rw [if_neg hc]
        simp only [Option.bind_some]
        rw [if_pos (by omega)]
        obtain ⟨r, h3, h4⟩ := Xql hl (k + 1) f l[k] (by omega) (by omega)
        exact ⟨r, h3, by rw [h4, Int.max_eq_right (by omega)]⟩
    · rw [if_neg (by omega), List.drop_of_length_le (by omega)]
      exact ⟨_, rfl, rfl⟩
theorem Xlv (l : Lay) (hl : l.2.length ≤ 900000000) : X8i l = some (mst l.2) := by
  unfold X8i
  obtain ⟨w, l⟩ := l
  dsimp only at hl ⊢
  cases l with
  | nil => rfl
  | cons x l =>
    simp only [List.length_cons] at hl
    rw [if_neg (by simp only [List.length_cons]; omega)]
    unfold X1q X1f
    rw [if_neg (by simp only [List.length_cons]; omega)]
    rw [show lidx (x :: l) 0 = some x from rfl]
    simp only [Option.bind_some]
    obtain ⟨r, h1, h2⟩ := Xql (l := x :: l) (by simp only [List.length_cons]; omega) 1 big x (by simp) (by simp only [List.length_cons, big]; omega)
    rw [show ((1 : Nat) : Int) = (1 : Int) from rfl] at h1
    rw [h1]
    simp only [Option.bind_some]
    rw [h2]; rfl
theorem Xoc {P : Int → Prop} (hm : ∀ a b, P a → P b → P (max a b)) : ∀ (l : List (Int × Int × Int)) (m : Int), P m → (∀ x ∈ l, P x.2.1) → P (l.foldl (fun m y => max m y.2.1) m)
  | [], m, h, _ => h
  | x :: l, m, h, hl => Xoc hm l _ (hm _ _ h (hl x List.mem_cons_self)) (fun y hy => hl y (List.mem_cons_of_mem _ hy))
theorem Xi1 : ∀ (l : List (Int × Int × Int)) (m : Int), m ≤ l.foldl (fun m y => max m y.2.1) m
  | [], m => Int.le_refl _
  | x :: l, m => Int.le_trans (Int.le_max_left _ _) (Xi1 l _)
theorem Xix : ∀ (l : List (Int × Int × Int)) (m : Int), ∀ x ∈ l, x.2.1 ≤ l.foldl (fun m y => max m y.2.1) m
  | y :: l, m, x, h => by
    rcases List.mem_cons.1 h with rfl | h
    · exact Int.le_trans (Int.le_max_right _ _) (Xi1 l _)
    · exact Xix l _ x h
theorem Xqm {l : List (Int × Int × Int)} {x : Int × Int × Int} (h : x ∈ l) : x.2.1 ≤ mst l := by
  cases l with
  | nil => cases h
  | cons y l =>
    rcases List.mem_cons.1 h with rfl | h
    · exact Xi1 l _
    · exact Xix l _ x h
theorem Xrv {l : List (Int × Int × Int)} (h : ∀ x ∈ l, 1 ≤ x.2.1 ∧ x.2.1 ≤ 1024) : 0 ≤ mst l ∧ mst l ≤ 1024 := by
  cases l with
  | nil => simp [mst]
  | cons y l => exact Xoc (P := fun m => 0 ≤ m ∧ m ≤ 1024) (fun a b ha hb => by omega) l _ (by have := h y List.mem_cons_self; omega) (fun x hx => by have := h x (List.mem_cons_of_mem _ hx); omega)
theorem Xi2 : ∀ (l : List (Int × Int × Int)) (a n : Int), chN l a n = true → ∀ x ∈ l, 1 ≤ x.2.1 ∧ x.2.1 ≤ 1024
  | y :: l, a, n, h, x, hx => by
    simp only [chN, Bool.and_eq_true, decide_eq_true_eq] at h
    rcases List.mem_cons.1 hx with rfl | hx
    · omega
    · exact Xi2 l _ _ h.2 x hx
def askI (l : Lay) (n i : Int) : List Int × Int :=
  if chkI l n ≠ 0 then ([], 2) else if i < 0 ∨ (l.2.length : Int) ≤ i then ([], 6)
  else ((List.range (mst l.2).toNat).map fun k : Nat => (l.2.getD i.toNat (0, 0, 0)).1 + min (k : Int) ((l.2.getD i.toNat (0, 0, 0)).2.1 - 1), 0)
theorem Xlw {a b : Int} {M : Nat} (hM : M ≤ 1024) (ha : 0 ≤ a ∧ a ≤ 1000000) (hb : 1 ≤ b ∧ b ≤ 1024) : ∀ (m k f : Nat) (acc : List Int), k + m = M → m < f → acc.length + m ≤ 2000 →
    X49 (M : Int) a b f acc (k : Int) = some (acc ++ (List.range m).map (fun t => a + min ((k + t : Nat) : Int) (b - 1)), 0)
  | _, _, 0, _, _, h, _ => by omega
  | 0, k, f + 1, acc, h, hf, _ => by
    show X48 (M : Int) a b (X49 (M : Int) a b f) acc _ = _
    unfold X48
    rw [if_neg (by omega)]; simp
  | m + 1, k, f + 1, acc, h, hf, hl => by
    show X48 (M : Int) a b (X49 (M : Int) a b f) acc _ = _
    unfold X48
    rw [if_pos (by omega), w64_id (x := b - 1) (by omega) (by omega), w64_id (x := a + _) (by omega) (by omega), Xk (by simp; omega)]
    simp only [Option.bind_some]
    rw [w64_id (by omega) (by omega), show (k : Int) + 1 = ((k + 1 : Nat) : Int) by omega, Xlw hM ha hb m (k + 1) f _ (by omega) (by omega) (by simp; omega), Xep (fun t => a + min ((t : Nat) : Int) (b - 1))]
    simp
theorem Xnh (l : Lay) {n : Int} (hn : -9223372036854775808 ≤ n ∧ n ≤ 9223372036854775807) (i : Int) : X8z l n i = some (askI l n i) := by
  unfold X8z askI
  rw [Xng l hn]
  simp only [Option.bind_some]
  by_cases h1 : chkI l n ≠ 0
  · rw [if_pos h1, if_pos h1, Xqk h1]
  · rw [if_neg h1, if_neg h1]
    by_cases h2 : i < 0 ∨ (l.2.length : Int) ≤ i
    · rw [if_pos h2, if_pos h2]
    · rw [if_neg h2, if_neg h2]
      have hg : l.2[i.toNat]? = some (l.2.getD i.toNat (0, 0, 0)) := by
        rw [List.getD_eq_getElem?_getD, List.getElem?_eq_getElem (by omega)]; rfl
      have hc := Xlt (Decidable.not_not.1 h1)
      have hb := Xnf _ _ _ hc.2
      have hx := Xlu l.2 0 _ _ _ hc.2 hg
      have hm := Xrv (Xi2 _ _ _ hc.2)
      rw [Xc5 (by omega) hg]
      simp only [Option.bind_some]
      rw [Xlv l (by omega)]
      simp only [Option.bind_some]
      have e := Int.toNat_of_nonneg hm.1
      have k1 := Xlw (a := (l.2.getD i.toNat (0, 0, 0)).1) (b := (l.2.getD i.toNat (0, 0, 0)).2.1) (M := (mst l.2).toNat) (by omega) (by omega) (by omega) (mst l.2).toNat 0 big [] (by omega) (by simp only [big]; omega) (by simp; omega)
      rw [e, show ((0 : Nat) : Int) = (0 : Int) from rfl] at k1
      rw [k1]
      simp
theorem Xlx {p : Int} (hp : 2 ≤ p) : ∀ (k : Nat) (x : Int), elm p (digs p k x)
  | 0, _ => fun y hy => by cases hy
  | k + 1, x => fun y hy => by
    simp only [digs, List.mem_cons] at hy
    rcases hy with rfl | hy
    · exact ⟨Int.emod_nonneg _ (by omega), Int.emod_lt_of_pos _ (by omega)⟩
    · exact Xlx hp k _ y hy
theorem Xiy {p : Int} (hp : 2 ≤ p) : ∀ (k : Nat) (x : Int), 0 ≤ x → x < p ^ k → val p (digs p k x) = x
  | 0, x, h, h2 => by simp at h2; simp [digs, val]; omega
  | k + 1, x, h, h2 => by
    simp only [digs, val]
    have h3 : x / p < p ^ k := Int.ediv_lt_of_lt_mul (by omega) (by rw [← Int.pow_succ]; exact h2)
    rw [Xiy hp k (x / p) (Int.ediv_nonneg h (by omega)) h3]
    have := Int.mul_ediv_add_emod x p
    omega
theorem pow256 {p : Int} (hp : vF p = true) : 256 ≤ p ^ dg p.toNat := by
  have h2 := vF_b hp
  obtain ⟨h3, h4, h5, h6⟩ := Xb4 (p := p.toNat) (by omega)
  have e1 : p ^ dg p.toNat = ((p.toNat ^ dg p.toNat : Nat) : Int) := by rw [Int.natCast_pow, Int.toNat_of_nonneg (by omega)]
  omega
theorem Xiz {w m : Nat} {c l : List Int} (hc : c.length = w) : chk w (m + 1) (c ++ l) = c :: chk w m l := by
  unfold chk
  rw [List.range_succ_eq_map, List.map_cons, List.map_map]
  congr 1
  · rw [Nat.zero_mul, List.drop_zero, List.take_left' hc]
  · apply List.map_congr_left
    intro i _
    show ((c ++ l).drop ((i + 1) * w)).take w = _
    rw [show (i + 1) * w = c.length + i * w by rw [hc, Nat.add_mul]; omega, List.drop_append, List.drop_of_length_le (Nat.le_add_right _ _), Nat.add_sub_cancel_left, List.nil_append]
theorem Xj0 {w : Nat} : ∀ (n : Nat) (l : List Int), l.length = n * w → (chk w n l).flatten = l
  | 0, l, h => by simp at h; subst h; simp [chk]
  | n + 1, l, h => by
    rw [Nat.add_mul, Nat.one_mul] at h
    have e : l = l.take w ++ l.drop w := (List.take_append_drop w l).symm
    rw [e, Xiz (by rw [List.length_take]; omega), List.flatten_cons, Xj0 n _ (by rw [List.length_drop]; omega)]
theorem Xly {p : Int} : ∀ (bs z : List Int), chk (dg p.toNat) bs.length (els p bs ++ z) = bs.map (digs p (dg p.toNat))
  | [], z => by simp [chk]
  | b :: bs, z => by
    have e : els p (b :: bs) ++ z = digs p (dg p.toNat) b ++ (els p bs ++ z) := by simp [els]
    rw [e, List.length_cons, Xiz (Xdm _ _ _), Xly bs z]; rfl
theorem Xqn (s : ByteArray) : ofB (toB s) = s := by
  unfold ofB toB
  have : (s.data.toList.map fun c => (c.toNat : Int)).map (fun n => UInt8.ofNat n.toNat) = s.data.toList := by
    rw [List.map_map]
    conv => rhs; rw [← List.map_id s.data.toList]
    apply List.map_congr_left
    intro c _
    simp
  rw [this]
theorem Xni {p : Int} (hp : 2 ≤ p) (n : Nat) (bs : List Int) : elm p (padz n 0 (els p bs)) := fun x hx => by
  unfold padz at hx
  rcases List.mem_append.1 hx with h | h
  · obtain ⟨b, _, h2⟩ := List.mem_flatMap.1 h
    exact Xlx hp _ _ x h2
  · have := (List.mem_replicate.1 h).2; omega
theorem Xj1 {p : Int} (hp : vF p = true) {w : Nat} (hw : 1 ≤ w ∧ w ≤ 64) (s : ByteArray) : rOk p w (rowsN p w s) ∧ (rowsN p w s).flatten = padz (nd p.toNat w s.size * w) 0 (els p (toB s)) := by
  have h2 := vF_b hp
  have hel : (els p (toB s)).length ≤ nd p.toNat w s.size * w := by rw [Xeo, Xd0]; exact Xlf hw.1
  have hpl := Xhe (z := (0 : Int)) hel
  refine ⟨fun r hr => ?_, Xj0 _ _ hpl⟩
  obtain ⟨i, hi, rfl⟩ := List.mem_map.1 hr
  have hi := List.mem_range.1 hi
  have h1 : (i + 1) * w ≤ nd p.toNat w s.size * w := Nat.mul_le_mul_right w (by omega)
  rw [Nat.add_mul, Nat.one_mul] at h1
  exact ⟨by rw [List.length_take, List.length_drop, hpl]; omega, fun x hx => Xni (by omega) _ _ x (List.mem_of_mem_drop (List.mem_of_mem_take hx))⟩
theorem Xj2 {p : Int} (hp : vF p = true) {w : Nat} (hw : 1 ≤ w ∧ w ≤ 64) {s : ByteArray} (hs : s.size ≤ 1024) : decI p (w : Int) (s.size : Int) (rowsN p w s) = (s, 0) := by
  have h2 := vF_b hp
  obtain ⟨hr, hfl⟩ := Xj1 hp hw s
  rw [Xru hp (by omega) (by rw [Xap, Int.toNat_natCast, Int.toNat_natCast]), Int.toNat_natCast, Int.toNat_natCast, hfl]
  have hv : vals p s.size (padz (nd p.toNat w s.size * w) 0 (els p (toB s))) = toB s := by
    unfold vals padz
    have := Xly (p := p) (toB s) (List.replicate (nd p.toNat w s.size * w - (els p (toB s)).length) 0)
    rw [Xd0] at this
    rw [this, List.map_map]
    conv => rhs; rw [← List.map_id (toB s)]
    apply List.map_congr_left
    intro b hb
    have := Xhy s b hb
    have := pow256 hp
    exact Xiy (by omega) _ b (by omega) (by omega)
  have hg : good p s.size (padz (nd p.toNat w s.size * w) 0 (els p (toB s))) := by
    refine ⟨fun v hv2 => ?_, fun x hx => ?_⟩
    · rw [hv] at hv2; exact (Xhy s v hv2).2
    · unfold padz at hx
      rw [← Xd0, ← Xeo, List.drop_left] at hx
      exact (List.mem_replicate.1 hx).2
  rw [if_pos ⟨hr, hg⟩, hv, Xqn]
theorem Xrw {p w n : Nat} (hw : 1 ≤ w) (hd : dg p ≤ 8) : nd p w n ≤ 8 * n + 1 := by
  unfold nd
  have h1 : n * dg p ≤ n * 8 := Nat.mul_le_mul_left n hd
  have h2 : (n * dg p + w - 1) / w < 8 * n + 1 + 1 := by
    apply Nat.div_lt_of_lt_mul
    have h3 : 8 * n + 1 + 1 ≤ w * (8 * n + 1 + 1) := Nat.le_mul_of_pos_left _ hw
    have h4 : w * (8 * n + 1 + 1) = w * (8 * n) + w + w := by rw [Nat.mul_add, Nat.mul_add, Nat.mul_one]
    have h5 : 8 * n ≤ w * (8 * n) := Nat.le_mul_of_pos_left _ hw
    omega
  omega
theorem Xlz {p : Int} {w : Nat} (hw : 1 ≤ w) (hd : dg p.toNat ≤ 8) {b : Nat} : ∀ r : List ByteArray, (∀ s ∈ r, s.size ≤ b) → sumN p w r ≤ r.length * (8 * b + 1)
  | [], _ => by simp [sumN]
  | s :: r, h => by
    have h1 := Xlz hw hd r (fun x hx => h x (List.mem_cons_of_mem _ hx))
    have h2 := Xrw (n := s.size) hw hd
    have h3 := h s List.mem_cons_self
    simp only [sumN, List.length_cons, Nat.add_mul, Nat.one_mul]
    omega
theorem Xm0 {p : Int} {w : Nat} : ∀ (r : List ByteArray) (k : Nat), (∀ s ∈ r, s.size ≤ 1024 ∧ nd p.toNat w s.size ≤ 1024) → chN (plc p w k r) (k : Int) ((k + sumN p w r : Nat) : Int) = true
  | [], k, _ => by simp [plc, chN, sumN]
  | s :: r, k, h => by
    obtain ⟨h1, h2⟩ := h s List.mem_cons_self
    have h3 := Xo8 p.toNat w s.size
    have ih := Xm0 r (k + nd p.toNat w s.size) (fun x hx => h x (List.mem_cons_of_mem _ hx))
    simp only [plc, chN, sumN, Bool.and_eq_true, decide_eq_true_eq]
    refine ⟨by refine ⟨by trivial, ?_⟩; omega, ?_⟩
    rw [show (k : Int) + ((nd p.toNat w s.size : Nat) : Int) = ((k + nd p.toNat w s.size : Nat) : Int) by omega, show k + (nd p.toNat w s.size + sumN p w r) = k + nd p.toNat w s.size + sumN p w r by omega]
    exact ih
theorem Xm1 {p : Int} {w : Nat} : ∀ (r : List ByteArray) (k i : Nat) (s : ByteArray), r[i]? = some s → ∃ f : Nat, (plc p w k r)[i]? = some (((k + f : Nat) : Int), ((nd p.toNat w s.size : Nat) : Int), (s.size : Int)) ∧ f + nd p.toNat w s.size ≤ sumN p w r ∧ ((r.flatMap (rowsN p w)).drop f).take (nd p.toNat w s.size) = rowsN p w s
  | [], _, _, _, h => by simp at h
  | s :: r, k, 0, t, h => by
    simp only [List.getElem?_cons_zero, Option.some.injEq] at h
    subst h
    exact ⟨0, by simp [plc], by simp only [sumN]; omega, by rw [List.drop_zero, List.flatMap_cons, List.take_left' (Xap _ _ _)]⟩
  | s :: r, k, i + 1, t, h => by
    simp only [List.getElem?_cons_succ] at h
    obtain ⟨f, h1, h2, h3⟩ := Xm1 (p := p) (w := w) r (k + nd p.toNat w s.size) i t h
    refine ⟨nd p.toNat w s.size + f, ?_, by simp only [sumN]; omega, ?_⟩
    · simp only [plc, List.getElem?_cons_succ]
      rw [h1]; congr 3; omega
    · rw [List.flatMap_cons, ← Xap p w s, List.drop_append]
      simp only [Nat.add_sub_cancel_left, List.drop_of_length_le (Nat.le_add_right _ _), List.nil_append]
      exact h3
theorem Xdn {p : Int} {w : Nat} : ∀ r : List ByteArray, (r.flatMap (rowsN p w)).length = sumN p w r
  | [] => rfl
  | s :: r => by rw [List.flatMap_cons, List.length_append, Xap, Xdn r]; rfl
structure LaidP (p : Int) (w : Nat) (r : List ByteArray) : Prop where
  f : vF p = true
  w1 : 1 ≤ w ∧ w ≤ 64
  n : r.length ≤ 256
  s : ∀ s ∈ r, s.size ≤ 1024
  k : sumN p w r ≤ 1024
abbrev rws (p : Int) (w : Nat) (r : List ByteArray) : List (List Int) := r.flatMap (rowsN p w)
abbrev lay (p : Int) (w : Nat) (r : List ByteArray) : Lay := ((w : Int), plc p w 0 r)
theorem Xod {p : Int} {w : Nat} : ∀ {r : List ByteArray} {b : Nat}, sumN p w r ≤ b → ∀ s ∈ r, nd p.toNat w s.size ≤ b
  | t :: r, b, h, s, hs => by
    simp only [sumN] at h
    rcases List.mem_cons.1 hs with rfl | hs
    · omega
    · exact Xod (b := b) (by omega) s hs
theorem LaidP.enc {p : Int} {w : Nat} {r : List ByteArray} (h : LaidP p w r) : encI p (w : Int) r = (rws p w r, lay p w r, 0) := by
  rw [Xrr h.f (by have := h.w1; omega) (by have := h.n; omega), Int.toNat_natCast, if_pos ⟨h.s, by have := h.k; omega⟩]
theorem LaidP.chk {p : Int} {w : Nat} {r : List ByteArray} (h : LaidP p w r) : chkI (lay p w r) ((rws p w r).length : Int) = 0 := by
  unfold chkI
  have := Xm0 (p := p) (w := w) r 0 (fun s hs => ⟨h.s s hs, Xod h.k s hs⟩)
  rw [Nat.zero_add] at this
  rw [if_pos ⟨⟨by have := h.w1; show (1 : Int) ≤ (w : Int) ∧ (w : Int) ≤ 64; omega, by rw [Xeq]; exact h.n⟩, by rw [Xdn]; exact this⟩]
theorem LaidP.get {p : Int} {w : Nat} {r : List ByteArray} (h : LaidP p w r) {i : Nat} {s : ByteArray} (hs : r[i]? = some s) :
    ∃ f : Nat, (plc p w 0 r)[i]? = some ((f : Int), ((nd p.toNat w s.size : Nat) : Int), (s.size : Int)) ∧ f + nd p.toNat w s.size ≤ (rws p w r).length ∧ ((rws p w r).drop f).take (nd p.toNat w s.size) = rowsN p w s ∧ recI p (lay p w r) (rws p w r) (i : Int) = (s, 0) := by
  obtain ⟨f, h1, h2, h3⟩ := Xm1 (p := p) (w := w) r 0 i s hs
  rw [Nat.zero_add] at h1
  refine ⟨f, h1, by rw [Xdn]; exact h2, h3, ?_⟩
  have hi : i < r.length := (List.getElem?_eq_some_iff.1 hs).1
  have hg : (plc p w 0 r).getD (i : Int).toNat (0, 0, 0) = ((f : Int), ((nd p.toNat w s.size : Nat) : Int), (s.size : Int)) := by
    rw [Int.toNat_natCast, List.getD_eq_getElem?_getD, h1]; rfl
  unfold recI
  rw [if_neg (by rw [h.chk]; decide), if_neg (by rw [Xeq]; omega), hg]
  dsimp only
  rw [Int.toNat_natCast, Int.toNat_natCast, h3]
  exact Xj2 h.f h.w1 (h.s s (List.mem_of_getElem? hs))
theorem Xoe {l : List Int} (hl : l.length ≤ 1000) : ∀ (f : Nat) (acc : List Int) (c p : Int), 0 ≤ c → c ≤ 100 → c < f → acc.length + c ≤ 1000 → Dk l (l, p) →
    ∃ s e, X77 X4v f acc c l p = some (s, e) ∧ (s.size : Int) = acc.length + c ∧ Dk l e
  | 0, _, _, _, h1, _, h2, _, _ => by omega
  | f + 1, acc, c, p, h1, h2, h3, h4, h5 => by
    show ∃ s e, X8w X4v (X77 X4v f) acc c l p = _ ∧ _
    unfold X8w
    by_cases hc : 0 < c
    · rw [if_pos hc]
      obtain ⟨v, ⟨e1, e2⟩, he, _, _, h6⟩ := X91 hl h5 (n := 256) (by omega)
      rw [he]
      simp only [Option.bind_some]
      rw [Xk (by simp; omega)]
      simp only [Option.bind_some]
      obtain ⟨hq, h7⟩ := id h6
      dsimp only at hq h7
      subst hq
      rw [w64_id (x := c - 1) (by omega) (by omega)]
      obtain ⟨s, e, h8, h9, h10⟩ := Xoe hl f (acc ++ [wu8 v]) (c - 1) e2 (by omega) (by omega) (by omega) (by simp; omega) ⟨rfl, h7⟩
      exact ⟨s, e, h8, by rw [h9]; simp; omega, h10⟩
    · rw [if_neg hc]
      exact ⟨_, _, rfl, by rw [Xml]; omega, h5⟩
theorem Xqo {l : List Int} (hl : l.length ≤ 1000) {d : List Int × Int} (hd : Dk l d) {n : Int} (hn : 0 ≤ n ∧ n ≤ 100) : ∃ s e, Xbf d n = some (s, e) ∧ (s.size : Int) ≤ n ∧ Dk l e := by
  unfold Xbf
  rw [w64_id (by omega) (by omega)]
  obtain ⟨v, ⟨e1, e2⟩, he, h1, h2, h3⟩ := X91 hl hd (n := n + 1) (by omega)
  rw [he]
  simp only [Option.bind_some]
  obtain ⟨hq, h4⟩ := id h3
  dsimp only at hq h4
  subst hq
  obtain ⟨s, e, h5, h6, h7⟩ := Xoe hl big [] v e2 (by omega) (by omega) (by simp only [big]; omega) (by simp; omega) ⟨rfl, h4⟩
  exact ⟨s, e, h5, by simp at h6; omega, h7⟩
theorem Xhf {l : List Int} (hl : l.length ≤ 1000) : ∀ (f : Nat) (acc : List ByteArray) (c p : Int), 0 ≤ c → c ≤ 100 → c < f → acc.length + c ≤ 1000 → Dk l (l, p) → (∀ s ∈ acc, s.size ≤ 9) →
    ∃ r e, X5a f acc c l p = some (r, e) ∧ (r.length : Int) = acc.length + c ∧ (∀ s ∈ r, s.size ≤ 9) ∧ Dk l e
  | 0, _, _, _, h1, _, h2, _, _, _ => by omega
  | f + 1, acc, c, p, h1, h2, h3, h4, h5, ha => by
    show ∃ r e, X6b (X5a f) acc c l p = _ ∧ _
    unfold X6b
    by_cases hc : 0 < c
    · rw [if_pos hc]
      obtain ⟨s, ⟨e1, e2⟩, he, hs, h6⟩ := Xqo hl h5 (n := 9) (by omega)
      rw [he]
      simp only [Option.bind_some]
      rw [Xk (by simp; omega)]
      simp only [Option.bind_some]
      obtain ⟨hq, h7⟩ := id h6
      dsimp only at hq h7
      subst hq
      rw [w64_id (x := c - 1) (by omega) (by omega)]
      obtain ⟨r, e, h8, h9, h10, h11⟩ := Xhf hl f (acc ++ [s]) (c - 1) e2 (by omega) (by omega) (by omega) (by simp; omega) ⟨rfl, h7⟩ (fun x hx => by
        rcases List.mem_append.1 hx with hx | hx
        · exact ha x hx
        · simp at hx; subst hx; omega)
      exact ⟨r, e, h8, by rw [h9]; simp; omega, h10, h11⟩
    · rw [if_neg hc]
      exact ⟨_, _, rfl, by omega, ha, h5⟩
theorem Xjg {l : List Int} (hl : l.length ≤ 1000) {d : List Int × Int} (hd : Dk l d) : ∃ r e, X8x d = some (r, e) ∧ r.length ≤ 5 ∧ (∀ s ∈ r, s.size ≤ 9) ∧ Dk l e := by
  unfold X8x
  obtain ⟨v, ⟨e1, e2⟩, he, h1, h2, h3⟩ := X91 hl hd (n := 6) (by omega)
  rw [he]
  simp only [Option.bind_some]
  obtain ⟨hq, h4⟩ := id h3
  dsimp only at hq h4
  subst hq
  obtain ⟨r, e, h5, h6, h7, h8⟩ := Xhf hl big [] v e2 (by omega) (by omega) (by simp only [big]; omega) (by simp; omega) ⟨rfl, h4⟩ (by simp)
  exact ⟨r, e, h5, by simp at h6; omega, h7, h8⟩
theorem Xnj {p : Int} (hp : vF p = true) {w : Nat} (hw : 1 ≤ w ∧ w ≤ 64) {r : List ByteArray} (hr : r.length ≤ 6) (hs : ∀ s ∈ r, s.size ≤ 9) : LaidP p w r := by
  have hd := (Xb4 (p := p.toNat) (by have := vF_b hp; omega)).2.1
  have := Xlz (w := w) hw.1 hd r hs
  have h3 : r.length * (8 * 9 + 1) ≤ 6 * (8 * 9 + 1) := Nat.mul_le_mul_right _ hr
  exact ⟨hp, hw, by omega, fun s h => by have := hs s h; omega, by omega⟩
theorem Xrx {p : Int} {w : Nat} {r : List ByteArray} (h : LaidP p w r) : rOk p w (rws p w r) := fun x hx => by
  obtain ⟨s, _, hs⟩ := List.mem_flatMap.1 hx
  exact (Xj1 h.f h.w1 s).1 x hs
theorem Xqp {p : Int} {w : Nat} {r : List ByteArray} (h : LaidP p w r) {i : Nat} {s : ByteArray} (hs : r[i]? = some s) {f : Nat} (hf : (plc p w 0 r)[i]? = some ((f : Int), ((nd p.toNat w s.size : Nat) : Int), (s.size : Int))) :
    askI (lay p w r) ((rws p w r).length : Int) (i : Int) = ((List.range (mst (plc p w 0 r)).toNat).map fun k : Nat => (f : Int) + min (k : Int) (((nd p.toNat w s.size : Nat) : Int) - 1), 0) := by
  have hi : i < r.length := (List.getElem?_eq_some_iff.1 hs).1
  unfold askI
  rw [if_neg (by rw [h.chk]; decide), if_neg (by rw [Xeq]; omega)]
  have hg : (plc p w 0 r).getD (i : Int).toNat (0, 0, 0) = ((f : Int), ((nd p.toNat w s.size : Nat) : Int), (s.size : Int)) := by
    rw [Int.toNat_natCast, List.getD_eq_getElem?_getD, hf]; rfl
  rw [hg]
end Go.Proofs.YtfcicopgdahmcaaGreatDoor.Lay
end

section
namespace Go.Proofs.YtfcicopgdahmcaaGreatDoor
open Alg (Cg Pr)
set_option linter.unusedVariables false
theorem trawake : Xc9 = some true := by kernel_rfl
theorem Xof (kx : (List Int) → Int → Int → Option (Int × ((List Int) × Int))) {n : Int} (hn : n < 65521) (z : Int) : ∀ (f : Nat) (v : List Int), v.length < f → (∀ x ∈ v, Fd x) → v.Pairwise (· < ·) → 65521 ∈ v → v.length ≤ 100 →
    ∃ v', X8d kx n z f v = kx v' 0 z ∧ (∀ x ∈ v', Fd x ∧ n < x) ∧ 1 ≤ v'.length ∧ v'.length ≤ 100
  | 0, v, h, _, _, _, _ => by omega
  | f + 1, [], _, _, _, h, _ => by cases h
  | f + 1, x :: v, h1, h2, h3, h4, h5 => by
    rw [X8d]
    unfold Xaz
    have e : lidx (x :: v) 0 = some x := rfl
    rw [e, Option.bind_some]
    obtain ⟨h6, h7⟩ := List.pairwise_cons.1 h3
    by_cases hx : x ≤ n
    · rw [if_pos hx, X5c (by omega) (by simp; omega) (by omega)]
      simp only [Option.bind_some]
      have e2 : (((x :: v).drop (1 : Int).toNat).take (((x :: v).length : Int) - 1).toNat) = v := by
        rw [List.take_of_length_le (by simp)]; rfl
      rw [e2]
      refine Xof kx hn z f v (by simpa using h1) (fun y hy => h2 y (List.mem_cons_of_mem _ hy)) h7 ?_ (by simp at h5; omega)
      rcases List.mem_cons.1 h4 with h8 | h8
      · omega
      · exact h8
    · rw [if_neg hx]
      refine ⟨x :: v, rfl, fun y hy => ⟨h2 y hy, ?_⟩, by simp, h5⟩
      rcases List.mem_cons.1 hy with rfl | hy
      · omega
      · have := h6 y hy; omega
theorem Xry {l : List Int} (hl : l.length ≤ 1000) {d : List Int × Int} (hd : Dk l d) {n : Int} (hn : n < 65521) : ∃ p e, Xcb d n = some (p, e) ∧ Fd p ∧ n < p ∧ Dk l e := by
  unfold Xcb
  obtain ⟨v, h1, h2, h3, h4⟩ := Xof (X6a d.1) hn d.2 big [2, 3, 5, 7, 11, 13, 17, 257, 65521] (by simp [big]) (fun x hx => by
    simp only [List.mem_cons, List.not_mem_nil, or_false] at hx
    exact hx) (by decide) (by simp) (by simp)
  rw [h1]
  unfold X6a
  obtain ⟨q, e, q1, q2, q3, q4⟩ := X91 hl (d := (d.1, d.2)) hd (n := (v.length : Int)) (by omega)
  rw [q1, Option.bind_some, Xed 0 q2 q3]
  have hm : v.getD q.toNat 0 ∈ v := by
    rw [List.getD_eq_getElem?_getD, List.getElem?_eq_getElem (by omega), Option.getD_some]
    exact List.getElem_mem _
  exact ⟨_, e, rfl, (h2 _ hm).1, (h2 _ hm).2, q4⟩
theorem Xqq {l : List Int} (hl : l.length ≤ 1000) {dk : List Int × Int} (hd : Dk l dk) : ∃ (p : Int) (s d : Nat) (e : List Int × Int), Xbe dk = some (p, ((s : Int), (d : Int)), e) ∧ Fd p ∧ PlanOK p s d ∧ Dk l e := by
  unfold Xbe
  obtain ⟨v1, e1, k1, a1, b1, d1⟩ := X91 hl hd (n := 6) (by omega)
  rw [k1, Option.bind_some]
  dsimp only
  rw [w64_id (x := 2 + v1) (by omega) (by omega), w64_id (x := 2 + v1 - 1) (by omega) (by omega)]
  obtain ⟨v2, e2, k2, a2, b2, d2⟩ := X91 hl d1 (n := 2 + v1 - 1) (by omega)
  rw [k2, Option.bind_some]
  dsimp only
  obtain ⟨p, e3, k3, hf, hp, d3⟩ := Xry hl d2 (n := 2 + v1) (by omega)
  rw [k3, Option.bind_some, w64_id (x := 1 + v2) (by omega) (by omega)]
  refine ⟨p, (2 + v1).toNat, (1 + v2).toNat, e3, ?_, hf, ⟨by omega, by omega, by omega, by omega, by omega⟩, d3⟩
  rw [show (((2 + v1).toNat : Nat) : Int) = 2 + v1 by omega, show (((1 + v2).toNat : Nat) : Int) = 1 + v2 by omega]
theorem Xm2 {l : List Int} (hl : l.length ≤ 1000) {dk : List Int × Int} (hd : Dk l dk) {p : Int} {s d : Nat} (h : PlanOK p s d) : ∃ (si wr : Nat) (e : List Int × Int), Xal dk ((s : Int), (d : Int)) = some ((si : Int), (wr : Int), e) ∧ 2 * wr + si + d + 1 ≤ s ∧ Dk l e := by
  obtain ⟨p1, p2, p3, p4, p5⟩ := h
  unfold Xal
  dsimp only
  rw [w64_id (x := (s : Int) - d) (by omega) (by omega), w64_id (x := (s : Int) - d - 1) (by omega) (by omega)]
  have h1 : Int.tdiv ((s : Int) - d - 1) 2 = ((s : Int) - d - 1) / 2 := Int.tdiv_eq_ediv_of_nonneg (by omega)
  rw [h1, w64_id (x := ((s : Int) - d - 1) / 2) (by omega) (by omega), w64_id (x := ((s : Int) - d - 1) / 2 + 1) (by omega) (by omega)]
  obtain ⟨v1, e1, k1, a1, b1, d1⟩ := X91 hl hd (n := ((s : Int) - d - 1) / 2 + 1) (by omega)
  rw [k1, Option.bind_some]
  dsimp only
  rw [w64_id (x := 2 * v1) (by omega) (by omega), w64_id (x := (s : Int) - d - 1 - 2 * v1) (by omega) (by omega), w64_id (x := (s : Int) - d - 1 - 2 * v1 + 1) (by omega) (by omega)]
  obtain ⟨v2, e2, k2, a2, b2, d2⟩ := X91 hl d1 (n := (s : Int) - d - 1 - 2 * v1 + 1) (by omega)
  rw [k2, Option.bind_some]
  refine ⟨v2.toNat, v1.toNat, e2, ?_, by omega, d2⟩
  rw [show ((v2.toNat : Nat) : Int) = v2 by omega, show ((v1.toNat : Nat) : Int) = v1 by omega]
theorem Xsi {p : Int} (hf : Fd p) : Lay.vF p = true := by
  have h1 := of_eq hf
  rw [Lay.of_eq] at h1
  cases h : Lay.vF p with
  | true => rfl
  | false =>
    rw [h] at h1
    simp at h1
theorem Xm3 {α : Type} {R : List (List α)} {f i : Nat} (h : f + i < R.length) : (R.drop f).take (i + 1) = (R.drop f).take i ++ [R.getD (f + i) []] := by
  rw [List.take_succ_eq_append_getElem (by simp; omega), List.getElem_drop, List.getD_eq_getElem?_getD, List.getElem?_eq_getElem h]
  rfl
theorem Xqr {l : List Int} (hl : l.length ≤ 1000) {p : Int} (hf : Fd p) {s d : Nat} (h : PlanOK p s d) {w : Nat} (hw : 1 ≤ w ∧ w ≤ 64) {R : List (List Int)} (hR : Rw p w R) (hRn : R.length ≤ 1024) {D : List Int} {z : Int}
    (hv : ∀ i, i < R.length → X78 (7, p, (R.length : Int), (w : Int), z) D (i : Int) (gr R i) = some 0) {pl : List (Int × Int × Int)} {idx : Nat} {f nn : Nat} {sz : Int} (hpl : pl[idx]? = some ((f : Int), (nn : Int), sz)) (hn : 1 ≤ nn) (hfn : f + nn ≤ R.length)
    (kx : List (List Int) → List Int → Int → Option Bool) {M : Nat} (hM : M ≤ 1024) : ∀ (m i : Nat) (dk : List Int × Int), i + m = M → i ≤ 12 → Dk l dk →
    ∃ (k : Nat) (e : List Int × Int), X31 kx (w : Int) R D (idx : Int) 7 p (R.length : Int) (w : Int) z pl (s : Int) (d : Int) p ((List.range' i m).map fun k : Nat => (f : Int) + min (k : Int) ((nn : Int) - 1)) i ((R.drop f).take (min i nn)) dk.1 dk.2
      = kx ((R.drop f).take (min k nn)) e.1 e.2 ∧ (12 ≤ k ∨ k = M)
  | 0, i, dk, h1, _, hd => ⟨i, dk, rfl, .inr (by omega)⟩
  | m + 1, i, dk, h1, h2, hd => by
    rw [List.range'_succ, List.map_cons, X31]
    unfold X6m
    by_cases c : 12 ≤ (i : Int)
    · rw [if_pos c]; exact ⟨i, dk, rfl, .inl (by omega)⟩
    · rw [if_neg c]
      obtain ⟨si, wr0, e1, k1, hws, d1⟩ := Xm2 hl (dk := (dk.1, dk.2)) hd h
      rw [k1, Option.bind_some]
      dsimp only
      obtain ⟨x, hx⟩ : ∃ x : Nat, (f : Int) + min (i : Int) ((nn : Int) - 1) = x := ⟨f + min i (nn - 1), by omega⟩
      have hxl : x < R.length := by omega
      rw [hx]
      obtain ⟨e2, W, r1, d2⟩ := Xqb hf h (n := R.length) (idx := x) (by omega) hxl hw hR rfl hl d1 hws
      rw [r1, Option.bind_some]
      dsimp only
      rw [if_neg (by simp), Xkk, Option.bind_some, Option.bind_some, if_neg (by simp), hv x hxl]
      simp only [Option.bind_some]
      rw [if_neg (by simp), Xc5 (by omega) (by rw [Int.toNat_natCast]; exact hpl)]
      simp only [Option.bind_some]
      by_cases c2 : (i : Int) < (nn : Int)
      · rw [if_pos c2, Xk (by simp; omega)]
        simp only [Option.bind_some]
        have e : (R.drop f).take (min i nn) ++ [gr R x] = (R.drop f).take (min (i + 1) nn) := by
          rw [show min i nn = i by omega, show min (i + 1) nn = i + 1 by omega, Xm3 (by omega), show x = f + i by omega]
          rfl
        rw [e]
        exact Xqr hl hf h hw hR hRn hv hpl hn hfn kx hM m (i + 1) e2 (by omega) (by omega) d2
      · rw [if_neg c2]
        have := Xqr hl hf h hw hR hRn hv hpl hn hfn kx hM m (i + 1) e2 (by omega) (by omega) d2
        rw [show min (i + 1) nn = min i nn by omega] at this
        exact this
theorem Xhg {x0 : List Int} {x1 : Int} (h1 : 0 ≤ x1 ∧ x1 ≤ 255) : X8q x0 x1 = some true := by
  unfold X8q Xdg Xdh
  rw [trawake, Option.bind_some, if_neg (by simp), Option.bind_some]
  by_cases hfw : (x0.length : Int) ≤ 500
  · rw [if_neg (by simp [hfw]), Option.bind_some]
    have ht : x0.length ≤ 1000 := by omega
    obtain ⟨p, s, d, e1, k1, hf, hP, d1⟩ := Xqq ht (dk := (x0, 0)) ⟨rfl, by omega, by omega⟩
    rw [k1, Option.bind_some]
    dsimp only
    obtain ⟨r0, e2, k2, hr0, hs0, d2⟩ := Lay.Xjg ht d1
    rw [k2, Option.bind_some]
    dsimp only
    rw [Xk (by simp; omega), Option.bind_some]
    obtain ⟨r, hr⟩ : ∃ r, r0 ++ ([⟨#[108, 97, 115, 116]⟩] : List ByteArray) = r := ⟨_, rfl⟩
    have hrl : 1 ≤ r.length ∧ r.length ≤ 6 := by rw [← hr]; simp; omega
    have hrs : ∀ s ∈ r, s.size ≤ 9 := fun s hs => by
      rw [← hr] at hs
      rcases List.mem_append.1 hs with hs | hs
      · exact hs0 s hs
      · rw [List.mem_singleton.1 hs]; decide
    rw [hr]
    obtain ⟨v3, e3, k3, a3, b3, d3⟩ := X91 ht d2 (n := 6) (by omega)
    rw [k3, Option.bind_some]
    dsimp only
    rw [w64_id (x := 1 + v3) (by omega) (by omega)]
    obtain ⟨w, hw⟩ : ∃ w : Nat, 1 + v3 = w := ⟨(1 + v3).toNat, by omega⟩
    rw [hw]
    have hw2 : 1 ≤ w ∧ w ≤ 64 := by omega
    have hlay := Lay.Xnj (Xsi hf) hw2 hrl.2 hrs
    rw [Lay.Xlm, hlay.enc, Option.bind_some]
    dsimp only
    have hR : Rw p w (Lay.rws p w r) := fun x hx => Lay.Xrx hlay x hx
    have hRn : (Lay.rws p w r).length ≤ 1024 := by rw [Lay.Xdn]; exact hlay.k
    rw [Xqc hf hw2 hR hRn, Option.bind_some]
    obtain ⟨D, z, t1, t2, t3, t4, t5⟩ := Xna hf hw2 hR hRn
    dsimp only
    rw [t3, Option.bind_some, t1, Option.bind_some]
    dsimp only
    rw [if_neg (by decide), t4, Option.bind_some, Option.bind_some]
    by_cases c60 : 60 < ((Lay.rws p w r).length : Int)
    · rw [if_pos (.inr c60), decide_eq_true c60]
    · rw [if_neg (fun h => h.elim (fun h => absurd h (by decide)) c60), Xgx (by omega), Option.bind_some, w64_id (x := x1) (by omega) (by omega), Int.tmod_eq_emod_of_nonneg h1.1]
      obtain ⟨idx, hidx⟩ : ∃ i : Nat, x1 % (r.length : Int) = i := ⟨(x1 % (r.length : Int)).toNat, by have := Int.emod_nonneg x1 (show (r.length : Int) ≠ 0 by omega); omega⟩
      have hi : idx < r.length := by have := Int.emod_lt_of_pos x1 (show (0 : Int) < r.length by omega); omega
      rw [hidx]
      obtain ⟨sb, hsb⟩ : ∃ sb, r[idx]? = some sb := ⟨r[idx], List.getElem?_eq_getElem hi⟩
      obtain ⟨f, g1, g2, g3, _⟩ := hlay.get hsb
      have hsz := hrs sb (List.mem_of_getElem? hsb)
      rw [Lay.Xnh _ (by omega), Lay.Xqp hlay hsb g1, Option.bind_some]
      dsimp only
      have hmb : 0 ≤ Lay.mst (Lay.plc p w 0 r) ∧ Lay.mst (Lay.plc p w 0 r) ≤ 1024 := Lay.Xrv (Lay.Xi2 _ _ _ (Lay.Xlt hlay.chk).2)
      rw [if_neg (by simp), Lay.Xlv _ (by rw [Lay.Xeq]; omega), Option.bind_some, Option.bind_some, if_neg (by simp only [List.length_map, List.length_range, decide_eq_true_eq, ne_eq, Decidable.not_not]; omega)]
      have hnn := Lay.Xo8 p.toNat w sb.size
      have hmm := Lay.Xqm (List.mem_of_getElem? g1)
      dsimp only at hmm
      have key := Xqr ht hf hP hw2 hR hRn t5 g1 hnn g2 (X2e r (w : Int) (idx : Int) (Lay.plc p w 0 r) p) (M := (Lay.mst (Lay.plc p w 0 r)).toNat) (by omega) (Lay.mst (Lay.plc p w 0 r)).toNat 0 e3 (by omega) (by omega) d3
      rw [← List.range_eq_range'] at key
      obtain ⟨k, e4, q1, q2⟩ := key
      rw [show min 0 (Lay.nd p.toNat w sb.size) = 0 by omega, List.take_zero] at q1
      rw [q1]
      unfold X2e
      rw [Xc5 (by omega) (by rw [Int.toNat_natCast]; exact g1), Option.bind_some]
      by_cases c12 : 12 < (((f : Int), ((Lay.nd p.toNat w sb.size : Nat) : Int), (sb.size : Int)) : Int × Int × Int).2.1
      · rw [if_pos c12]
      · rw [if_neg c12]
        dsimp only at c12
        rw [Xc5 (by omega) (by rw [Int.toNat_natCast]; exact hsb), Option.bind_some, show min k (Lay.nd p.toNat w sb.size) = Lay.nd p.toNat w sb.size by omega, g3, Lay.Xlr, Lay.Xj2 hlay.f hw2 (by omega), Option.bind_some]
        simp
  · rw [if_pos (by simp [hfw])]
end Go.Proofs.YtfcicopgdahmcaaGreatDoor
end
