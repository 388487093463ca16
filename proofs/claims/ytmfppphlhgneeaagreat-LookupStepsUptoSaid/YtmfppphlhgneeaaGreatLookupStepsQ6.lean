/- What the proof needs, gathered by wip/gen/shake.py. -/
import Derived.Calls
import Derived.Deep.Quiet
import Derived.Below
import Derived.Laws.AppendOwn
import Derived.WalkKit
import Derived.Laws.OwnMore
import Derived.Deep.Slices
import Derived.ChangeOld
import Derived.ArgAppend
import Derived.RangeFuncIn
import Derived.RangeFuncRecord
import Derived.RangeFuncLeaves
import Derived.Laws.MakeOwn
import Derived.IntWalk
import Derived.Laws.IdiomStrings
import Derived.Laws.Cover3
import Derived.Laws.CopyOwn
import Derived.Test.YtmfppphlhgneeaaGreatRows
import Derived.MapKept
import Derived.RangeFuncNested
import Derived.ProofKit
import Derived.OpenShut
import Derived.ShutString
import Derived.JoinedCond
import Derived.Test.YtmfppphlhgneeaaGreatLookupStepsQ5
set_option linter.unusedVariables false
set_option linter.unusedSimpArgs false
section
namespace Go.Proofs.YtmfppphlhgneeaaGreat
set_option linter.unusedVariables false
set_option maxRecDepth 100000
theorem Xfv (a b : Ent) : ∃ o, X7t a b = some o ∧ (0 ≤ o ↔ ¬ sLt a.1 b.1) := by
  unfold X7t X2p X2b X5p X61 X5q
  simp only [Option.bind_some, ne_eq, not_true_eq_false, decide_false, Bool.false_eq_true, if_false]
  by_cases h : sLt a.1 b.1
  · rw [if_pos h]; exact ⟨-1, rfl, by simp [h]⟩
  · rw [if_neg h]
    by_cases h2 : sLt b.1 a.1
    · rw [if_pos h2]; exact ⟨1, rfl, by simp [h]⟩
    · rw [if_neg h2]; exact ⟨0, rfl, by simp [h]⟩
theorem Xfw {l xs : List Ent} {x : Ent} {i : Nat} (h : l.drop i = x :: xs) : i < l.length ∧ l.drop (i + 1) = xs := by
  refine ⟨?_, by rw [← List.drop_drop, h]; rfl⟩
  rcases Nat.lt_or_ge i l.length with h2 | h2
  · exact h2
  · rw [List.drop_eq_nil_of_le h2] at h; cases h
theorem Xev (z : List Ent) (hz : z.length ≤ 100000) : ∀ (xs : List Ent) (i : Nat), z.drop i = xs → ∃ b, Xi z xs i = some b ∧ X40 z xs i = some b ∧ (b = true → ∀ x ∈ xs, EntOK x)
  | [], i, _ => ⟨true, rfl, rfl, fun _ x hx => by cases hx⟩
  | x :: xs, i, h => by
    obtain ⟨hi, h'⟩ := Xfw h
    rw [Xi, X40]
    unfold X2e X7x
    rw [Xci, Xbk, Option.bind_some, Option.bind_some]
    obtain ⟨b, k1, k2, k3⟩ := Xev z hz xs (i + 1) h'
    by_cases hv : EntOK x
    · rw [if_neg (nb_t hv), if_neg (nb_t hv)]
      have hgood : ∀ q : Bool, q = true → b = true → ∀ y ∈ x :: xs, EntOK y := fun q _ hb y hy => by
        rcases List.mem_cons.1 hy with rfl | hy
        · exact hv
        · exact k3 hb y hy
      by_cases h0 : 0 < (i : Int)
      · rw [if_pos h0, if_pos h0, w64_id (by omega) (by omega), X60 (ByteArray.empty, 0) (by omega) (by omega), Option.bind_some, Option.bind_some]
        obtain ⟨o, o1, o2⟩ := Xfv (z.getD ((i : Int) - 1).toNat (ByteArray.empty, 0)) x
        rw [o1, Option.bind_some, Option.bind_some, Option.bind_some, Option.bind_some, Option.bind_some]
        by_cases hs : sLt (z.getD ((i : Int) - 1).toNat (ByteArray.empty, 0)).1 x.1
        · rw [if_neg (by rw [decide_eq_true_eq, o2]; exact fun h => h hs), if_neg (by rw [decide_eq_true_eq]; exact fun h => h hs)]
          exact ⟨b, k1, k2, hgood true rfl⟩
        · rw [if_pos (by rw [decide_eq_true_eq, o2]; exact hs), if_pos (by rw [decide_eq_true_eq]; exact hs)]
          exact ⟨false, rfl, rfl, fun h => by cases h⟩
      · rw [if_neg h0, if_neg h0]
        exact ⟨b, k1, k2, hgood true rfl⟩
    · rw [if_pos (nb_f hv), if_pos (nb_f hv), Option.bind_some, Option.bind_some, if_pos rfl, if_pos rfl]
      exact ⟨false, rfl, rfl, fun h => by cases h⟩
theorem Xd6 {l : List Ent} (hl : l.length ≤ 100000) : ∃ b, X18 l = some b ∧ X9z l = some b ∧ (b = true → ∀ x ∈ l, EntOK x) := Xev l hl l 0 rfl
def encI (e : Ent) : List Int := [wu8 (e.1.size : Int)] ++ toB e.1 ++ List.replicate (32 - e.1.size) 0 ++ [wu8 e.2, wu8 (shrI .i64 e.2 8), wu8 (shrI .i64 e.2 16), wu8 (shrI .i64 e.2 24)]
theorem Xb1 {e : Ent} (h : KeyP e.1) : (encI e).length = 37 := by
  have := Xc8 e.1
  have := h.2
  simp [encI]
  omega
theorem Xkd (kx : List Int → Option (ByteArray × Int)) : ∀ (xs : List Ent) (v : List Int), (∀ x ∈ xs, EntOK x) → v.length + 37 * xs.length ≤ 1000 → X1i kx xs v = kx (v ++ (xs.map encI).flatten)
  | [], v, _, _ => by simp [X1i]
  | x :: xs, v, h, hl => by
    rw [X1i]
    unfold X6k
    simp only [List.length_cons] at hl
    have hx := (h x List.mem_cons_self).1
    have hx1 := hx.1
    have hx2 := hx.2
    have ht := Xc8 x.1
    rw [Xs (by simp; omega), Option.bind_some]
    unfold tobs
    rw [if_pos (by omega), Option.bind_some, Xs (by simp; omega), Option.bind_some, w64_id (by omega) (by omega), Xbi (by omega) (by omega), Option.bind_some, Xs (by simp; omega), Option.bind_some, Xs (by simp; omega), Option.bind_some, show (32 - (x.1.size : Int)).toNat = 32 - x.1.size by omega]
    have e : v ++ [wu8 (x.1.size : Int)] ++ toB x.1 ++ List.replicate (32 - x.1.size) 0 ++ [wu8 x.2, wu8 (shrI .i64 x.2 8), wu8 (shrI .i64 x.2 16), wu8 (shrI .i64 x.2 24)] = v ++ encI x := by simp [encI]
    rw [e, Xkd kx xs (v ++ encI x) (fun y hy => h y (List.mem_cons_of_mem _ hy)) (by rw [List.length_append, Xb1 hx]; omega)]
    simp
theorem Xke {P M Z : List Int} {t : Nat} {y : Int} (h : t < M.length) : (P ++ M ++ Z).set (P.length + t) y = P ++ M.set t y ++ Z := by
  rw [List.append_assoc, List.set_append_right _ _ (by omega), Nat.add_sub_cancel_left, List.set_append_left _ _ h, List.append_assoc]
theorem Xll {P M Z s : List Int} (h : s.length + 1 ≤ M.length) (h2 : s.length ≤ 36) : lcpy (P ++ M ++ Z) ((P.length : Int) + 1) 36 s = P ++ (M.take 1 ++ s ++ M.drop (1 + s.length)) ++ Z := by
  have e1 : (P ++ M ++ Z).take (P.length + 1) = P ++ M.take 1 := by
    rw [List.append_assoc, List.take_append, List.take_of_length_le (by omega), Nat.add_sub_cancel_left, List.take_append, show 1 - M.length = 0 by omega, List.take_zero, List.append_nil]
  have e2 : (P ++ M ++ Z).drop (P.length + 1 + s.length) = M.drop (1 + s.length) ++ Z := by
    rw [List.append_assoc, List.drop_append, List.drop_of_length_le (by omega), List.nil_append, show P.length + 1 + s.length - P.length = 1 + s.length by omega, List.drop_append, show 1 + s.length - M.length = 0 by omega, List.drop_zero]
  unfold lcpy
  rw [show ((P.length : Int) + 1).toNat = P.length + 1 by omega, List.take_of_length_le h2, Nat.min_eq_left h2, e1, e2]
  simp
theorem Xoh {P M Z : List Int} {t : Nat} (h : t < M.length) : P.length + t < (P ++ M ++ Z).length := by simp; omega
theorem fours (rec : List Int → Option (ByteArray × Int)) (val : Int) {P M Z : List Int} (hM : M.length = 37) (hP : P.length ≤ 1000) :
    X1p rec (P.length : Int) ((P.length : Int) + 37) val big 0 (P ++ M ++ Z) = rec (P ++ ((((M.set 33 (wu8 (shrI .i64 val 0))).set 34 (wu8 (shrI .i64 val 8))).set 35 (wu8 (shrI .i64 val 16))).set 36 (wu8 (shrI .i64 val 24))) ++ Z) := by
  have step : ∀ (f : Nat) (k : Nat) (M : List Int), M.length = 37 → k < 4 → X1p rec (P.length : Int) ((P.length : Int) + 37) val (f + 1) (k : Int) (P ++ M ++ Z) = X1p rec (P.length : Int) ((P.length : Int) + 37) val f ((k + 1 : Nat) : Int) (P ++ M.set (33 + k) (wu8 (shrI .i64 val (8 * (k : Int)))) ++ Z) := fun f k M hM hk => by
    rw [X1p]
    unfold X4t
    have hat := Xoh (P := P) (M := M) (Z := Z) (t := 33 + k) (by omega)
    rw [if_pos (by omega), w64_id (x := 8 * (k : Int)) (by omega) (by omega)]
    unfold nneg
    rw [if_neg (by omega), Option.bind_some, w64_id (x := 33 + (k : Int)) (by omega) (by omega)]
    unfold pidx
    rw [if_pos (by omega), Option.bind_some, show (P.length : Int) + (33 + (k : Int)) = ((P.length + (33 + k) : Nat) : Int) by omega, X26 0 hat, Option.bind_some, X1s (by omega) (by omega), Option.bind_some, Int.toNat_natCast, Xke (by omega), w64_id (by omega) (by omega)]
    rfl
  rw [show big = (big - 5) + 1 + 1 + 1 + 1 + 1 from by simp only [big], show (0 : Int) = ((0 : Nat) : Int) from rfl]
  rw [step _ 0 M hM (by omega), step _ 1 _ (by simpa using hM) (by omega), step _ 2 _ (by simpa using hM) (by omega), step _ 3 _ (by simpa using hM) (by omega), X1p]
  unfold X4t
  rw [if_neg (by omega)]
  rfl
theorem shr0 (v : Int) : shrI .i64 v 0 = v := by
  unfold shrI
  simp
theorem Xkf {A : List Int} (h : A.length = 33) (a b c d : Int) : ((((A ++ [0, 0, 0, 0]).set 33 a).set 34 b).set 35 c).set 36 d = A ++ [a, b, c, d] := by
  have e : ∀ (l : List Int) (t : Nat) (y : Int), (A ++ l).set (33 + t) y = A ++ l.set t y := fun l t y => by rw [← h, List.set_append_right _ _ (by omega), Nat.add_sub_cancel_left]
  rw [show (33 : Nat) = 33 + 0 from rfl, show (34 : Nat) = 33 + 1 from rfl, show (35 : Nat) = 33 + 2 from rfl, show (36 : Nat) = 33 + 3 from rfl, e, e, e, e]
  rfl
theorem Xm9 (kx : List Int → Option (ByteArray × Int)) (n : Nat) (hn : n ≤ 8) : ∀ (xs : List Ent) (i : Nat) (P : List Int), (∀ x ∈ xs, EntOK x) → P.length = 37 * i → i + xs.length ≤ n →
    X11 kx xs i (P ++ List.replicate (37 * (n - i)) 0) = kx (P ++ (xs.map encI).flatten ++ List.replicate (37 * (n - i - xs.length)) 0)
  | [], i, P, _, _, _ => by simp [X11]
  | x :: xs, i, P, h, hP, hl => by
    simp only [List.length_cons] at hl
    have hx := (h x List.mem_cons_self).1
    have hx1 := hx.1
    have hx2 := hx.2
    have ht := Xc8 x.1
    show X4u kx (X11 kx xs (i + 1)) x i _ = _
    unfold X4u
    have eZ : List.replicate (37 * (n - i)) (0 : Int) = List.replicate 37 0 ++ List.replicate (37 * (n - (i + 1))) 0 := by
      rw [List.replicate_append_replicate]
      congr 1
      omega
    rw [eZ, ← List.append_assoc]
    generalize hZ : List.replicate (37 * (n - (i + 1))) (0 : Int) = Z
    have hZl : Z.length = 37 * (n - (i + 1)) := by rw [← hZ]; simp
    have hlen : (P ++ List.replicate 37 (0 : Int) ++ Z).length = 37 * n := by simp; omega
    rw [w64_id (x := (i : Int) * 37) (by omega) (by omega), w64_id (x := (i : Int) + 1) (by omega) (by omega), w64_id (x := ((i : Int) + 1) * 37) (by omega) (by omega)]
    unfold psub
    rw [if_pos (by omega), Option.bind_some]
    dsimp only
    rw [show pidx (0 + (i : Int) * 37) (0 + ((i : Int) + 1) * 37) 0 = some ((P.length + 0 : Nat) : Int) by unfold pidx; rw [if_pos (by omega)]; exact congrArg some (by omega), Option.bind_some, X26 0 (by omega), Option.bind_some, X1s (by omega) (by omega), Option.bind_some, Int.toNat_natCast, Xke (by simp), if_pos (by omega), Option.bind_some]
    dsimp only
    have hlen2 : (P ++ (List.replicate 37 (0 : Int)).set 0 (wu8 (x.1.size : Int)) ++ Z).length = 37 * n := by simp; omega
    rw [Xa9 (by omega) (by omega) (by omega), Option.bind_some]
    unfold tobs
    rw [if_pos (by omega), Option.bind_some]
    have e36 : (((P ++ (List.replicate 37 (0 : Int)).set 0 (wu8 (x.1.size : Int)) ++ Z).drop (0 + (i : Int) * 37 + 1).toNat).take (0 + (i : Int) * 37 + (0 + ((i : Int) + 1) * 37 - (0 + (i : Int) * 37)) - (0 + (i : Int) * 37 + 1)).toNat).length = 36 := by
      rw [List.length_take, List.length_drop, hlen2]; omega
    rw [e36, show (0 + (i : Int) * 37 + 1) = (P.length : Int) + 1 by omega, Xll (by simp; omega) (by omega), show (0 + (i : Int) * 37) = (P.length : Int) by omega, show (0 + ((i : Int) + 1) * 37) = (P.length : Int) + 37 by omega, fours _ _ (by simp; omega) (by omega)]
    have eM : ((((((List.replicate 37 (0 : Int)).set 0 (wu8 (x.1.size : Int))).take 1 ++ toB x.1 ++ ((List.replicate 37 (0 : Int)).set 0 (wu8 (x.1.size : Int))).drop (1 + (toB x.1).length)).set 33 (wu8 (shrI .i64 x.2 0))).set 34 (wu8 (shrI .i64 x.2 8))).set 35 (wu8 (shrI .i64 x.2 16))).set 36 (wu8 (shrI .i64 x.2 24)) = encI x := by
      have e1 : ((List.replicate 37 (0 : Int)).set 0 (wu8 (x.1.size : Int))).take 1 = [wu8 (x.1.size : Int)] := rfl
      have e2 : ((List.replicate 37 (0 : Int)).set 0 (wu8 (x.1.size : Int))).drop (1 + (toB x.1).length) = List.replicate (32 - x.1.size) 0 ++ [0, 0, 0, 0] := by
        rw [show (List.replicate 37 (0 : Int)).set 0 (wu8 (x.1.size : Int)) = [wu8 (x.1.size : Int)] ++ List.replicate 36 0 from rfl, List.drop_append, List.drop_of_length_le (by simp), List.nil_append, show 1 + (toB x.1).length - [wu8 (x.1.size : Int)].length = x.1.size by simp; omega, List.drop_replicate, show ([0, 0, 0, 0] : List Int) = List.replicate 4 0 from rfl, List.replicate_append_replicate]
        congr 1
        omega
      rw [e1, e2, ← List.append_assoc, Xkf (by simp; omega), shr0]
      rfl
    rw [eM]
    have ih := Xm9 kx n hn xs (i + 1) (P ++ encI x) (fun y hy => h y (List.mem_cons_of_mem _ hy)) (by rw [List.length_append, Xb1 hx]; omega) (by omega)
    rw [hZ] at ih
    rw [ih, show n - (i + 1) - xs.length = n - i - (x :: xs).length by rw [List.length_cons]; omega]
    simp only [List.map_cons, List.flatten_cons, List.append_assoc]
theorem Xi5 {n : Int} {l : List Ent} (hl : l.length ≤ 100000) : ∃ r, X2q n l = some r ∧ X2l n l = some r := by
  unfold X2q X2l X1y
  rw [Option.bind_some]
  by_cases h1 : 1 ≤ n ∧ n ≤ 8
  · rw [if_neg (nb_t h1), if_neg (show ¬ (n < 1 ∨ 8 < n) by omega)]
    by_cases h2 : n < (l.length : Int)
    · rw [if_pos h2, if_pos h2]; exact ⟨_, rfl, rfl⟩
    · rw [if_neg h2, if_neg h2]
      obtain ⟨b, k1, k2, k3⟩ := Xd6 hl
      rw [k1, k2, Option.bind_some, Option.bind_some]
      cases b with
      | false => exact ⟨(ByteArray.empty, 2), rfl, rfl⟩
      | true =>
        rw [if_neg (by decide), if_neg (by decide), w64_id (x := n * 37) (by omega) (by omega), Xbi (by omega) (by omega), Option.bind_some]
        have hk := k3 rfl
        have e := Xm9 X10 n.toNat (by omega) l 0 [] hk rfl (by omega)
        rw [List.nil_append, List.nil_append, Nat.sub_zero, show 37 * n.toNat = (n * 37).toNat by omega] at e
        rw [e, Xkd _ l [] hk (by simp; omega), List.nil_append]
        unfold X10 X21
        have hfl : ((l.map encI).flatten).length = 37 * l.length := by
          clear e k1 k2 k3 h2 hl
          induction l with
          | nil => rfl
          | cons x l ih =>
            rw [List.map_cons, List.flatten_cons, List.length_append, ih (fun y hy => hk y (List.mem_cons_of_mem _ hy)), Xb1 (hk x List.mem_cons_self).1, List.length_cons]
            omega
        rw [w64_id (x := n - (l.length : Int)) (by omega) (by omega), w64_id (by omega) (by omega), Xbi (by omega) (by omega), Option.bind_some, Xs (by simp [hfl]; omega), Option.bind_some, show 37 * (n.toNat - l.length) = ((n - (l.length : Int)) * 37).toNat by omega]
        exact ⟨_, rfl, rfl⟩
  · rw [if_pos (nb_f h1), if_pos (show n < 1 ∨ 8 < n by omega)]; exact ⟨_, rfl, rfl⟩
end Go.Proofs.YtmfppphlhgneeaaGreat
end

section
namespace Go.Proofs.YtmfppphlhgneeaaGreat
set_option linter.unusedVariables false
set_option maxRecDepth 100000
theorem i64_nat {x : Nat} (h : x < 9223372036854775808) : IntKind.i64.wrap ((x : Nat) : Int) = x := by
  have := w64_id (x := (x : Int)) (by omega) (by omega)
  exact this
theorem Xc9 {x y : Nat} (hx : x < 2 ^ 62) (hy : y < 2 ^ 62) : orI .i64 (x : Int) (y : Int) = ((x ||| y : Nat) : Int) := by
  unfold orI
  rw [show IntKind.i64.bits = 64 from rfl, BitVec.toNat_or, BitVec.toNat_ofInt, BitVec.toNat_ofInt]
  have e1 : (((x : Int)) % (2 ^ 64 : Nat)).toNat = x := by
    rw [Int.emod_eq_of_lt (by omega) (by omega)]; rfl
  have e2 : (((y : Int)) % (2 ^ 64 : Nat)).toNat = y := by
    rw [Int.emod_eq_of_lt (by omega) (by omega)]; rfl
  rw [e1, e2]
  have h3 : x ||| y < 2 ^ 62 := Nat.or_lt_two_pow hx hy
  exact i64_nat (by omega)
theorem Xfx {x k : Nat} (hk : k ≤ 24) (hx : x < 2 ^ 32) : shlI .i64 (x : Int) (k : Int) = ((x * 2 ^ k : Nat) : Int) := by
  unfold shlI
  rw [show min (k : Int).toNat IntKind.i64.bits = k by rw [Int.toNat_natCast]; exact Nat.min_eq_left (by show k ≤ 64; omega)]
  have h2 : x * 2 ^ k < 2 ^ 32 * 2 ^ 24 := by
    have h3 : 2 ^ k ≤ 2 ^ 24 := Nat.pow_le_pow_right (by omega) hk
    have h4 := Nat.mul_le_mul (Nat.le_of_lt_succ (show x < (2 ^ 32 - 1) + 1 by omega)) h3
    omega
  have e : ((x : Int) * 2 ^ k) = ((x * 2 ^ k : Nat) : Int) := by push_cast; rfl
  rw [e]
  exact i64_nat (by omega)
theorem Xi6 {a b k : Nat} (h : b < 2 ^ k) : a * 2 ^ k ||| b = a * 2 ^ k + b := by
  rw [← Nat.shiftLeft_eq, Nat.shiftLeft_add_eq_or_of_lt h]
theorem Xhg {a b k : Nat} (h : b < 2 ^ k) : b ||| a * 2 ^ k = a * 2 ^ k + b := by
  rw [Nat.or_comm, Xi6 h]
theorem Xox {b0 b1 b2 b3 : Nat} (h0 : b0 < 256) (h1 : b1 < 256) (h2 : b2 < 256) (h3 : b3 < 256) :
    orI .i64 (shlI .i64 (orI .i64 (shlI .i64 (orI .i64 (shlI .i64 (orI .i64 (shlI .i64 0 8) (b3 : Int)) 8) (b2 : Int)) 8) (b1 : Int)) 8) (b0 : Int) = ((b3 * 16777216 + b2 * 65536 + b1 * 256 + b0 : Nat) : Int) := by
  have z : shlI .i64 0 8 = ((0 : Nat) : Int) := rfl
  have e3 : orI .i64 (shlI .i64 0 8) (b3 : Int) = ((b3 : Nat) : Int) := by rw [z, Xc9 (by omega) (by omega), Nat.zero_or]
  have s : ∀ x : Nat, x < 2 ^ 32 → shlI .i64 (x : Int) 8 = ((x * 2 ^ 8 : Nat) : Int) := fun x hx => Xfx (k := 8) (by omega) hx
  rw [e3, s b3 (by omega), Xc9 (by omega) (by omega), Xi6 (k := 8) (by omega), s _ (by omega), Xc9 (by omega) (by omega), Xi6 (k := 8) (by omega), s _ (by omega), Xc9 (by omega) (by omega), Xi6 (k := 8) (by omega)]
  omega
theorem Xoy {b0 b1 b2 b3 : Nat} (h0 : b0 < 256) (h1 : b1 < 256) (h2 : b2 < 256) (h3 : b3 < 256) :
    orI .i64 (orI .i64 (orI .i64 (b0 : Int) (shlI .i64 (b1 : Int) 8)) (shlI .i64 (b2 : Int) 16)) (shlI .i64 (b3 : Int) 24) = ((b3 * 16777216 + b2 * 65536 + b1 * 256 + b0 : Nat) : Int) := by
  have s1 : shlI .i64 (b1 : Int) 8 = ((b1 * 2 ^ 8 : Nat) : Int) := Xfx (k := 8) (by omega) (by omega)
  have s2 : shlI .i64 (b2 : Int) 16 = ((b2 * 2 ^ 16 : Nat) : Int) := Xfx (k := 16) (by omega) (by omega)
  have s3 : shlI .i64 (b3 : Int) 24 = ((b3 * 2 ^ 24 : Nat) : Int) := Xfx (k := 24) (by omega) (by omega)
  rw [s1, s2, s3, Xc9 (by omega) (by omega), Xhg (k := 8) (by omega), Xc9 (by omega) (by omega), Xhg (k := 16) (by omega), Xc9 (by omega) (by omega), Xhg (k := 24) (by omega)]
  omega
end Go.Proofs.YtmfppphlhgneeaaGreat
end

section
namespace Go.Proofs.YtmfppphlhgneeaaGreat
set_option linter.unusedVariables false
set_option maxRecDepth 100000
theorem Xlm (s : ByteArray) (i j : Nat) : (s.extract i j).data.toList = (s.data.toList.drop i).take (j - i) := by
  rw [ByteArray.data_extract, Array.toList_extract]
theorem Xln (s : ByteArray) (i j : Nat) (h : j ≤ s.size) : (s.extract i j).size = j - i := by
  rw [ByteArray.size_extract]; omega
theorem Xfy {s : ByteArray} {i j : Int} (h0 : 0 ≤ i) (h1 : i ≤ j) (h2 : j ≤ s.size) : ssub s i j = some (s.extract i.toNat j.toNat) := by
  unfold ssub; rw [if_pos ⟨h0, h1, h2⟩]
def cN (t : ByteArray) (j : Nat) : Nat := (t.data.toList.getD (37 * j) 0).toNat
def blkB (t : ByteArray) (j : Nat) : ByteArray := t.extract (37 * j) (37 * (j + 1))
def bN (t : ByteArray) (j k : Nat) : Nat := ((blkB t j).data.toList.getD k 0).toNat
theorem Xfz (t : ByteArray) (j k : Nat) : bN t j k < 256 := ((blkB t j).data.toList.getD k 0).toNat_lt
theorem Xoi (t : ByteArray) (j : Nat) : cN t j < 256 := (t.data.toList.getD (37 * j) 0).toNat_lt
theorem Xkg {t : ByteArray} {n j : Nat} (ht : t.size = 37 * n) (hj : j < n) : (blkB t j).size = 37 := by
  unfold blkB
  rw [Xln _ _ _ (by omega)]
  omega
theorem Xe1 {t : ByteArray} {n j k : Nat} (ht : t.size = 37 * n) (hj : j < n) (hk : k < 37) : sidx (blkB t j) (k : Int) = some (bN t j k : Int) := by
  unfold sidx
  rw [if_pos (by rw [Xkg ht hj]; omega)]
  rfl
theorem bN_0 {t : ByteArray} {n j : Nat} (ht : t.size = 37 * n) (hj : j < n) : bN t j 0 = cN t j := by
  unfold bN cN blkB
  rw [Xlm, List.getD_eq_getElem?_getD, List.getD_eq_getElem?_getD, List.getElem?_take, if_pos (by omega), List.getElem?_drop, Nat.add_zero]
def entB (t : ByteArray) (j : Nat) : Ent := ((blkB t j).extract 1 (1 + cN t j), ((bN t j 36 * 16777216 + bN t j 35 * 65536 + bN t j 34 * 256 + bN t j 33 : Nat) : Int))
def kdI (t : ByteArray) : Nat → Nat → List Ent → Option (List Ent)
  | 0, _, l => some l
  | m + 1, j, l => if cN t j = 0 then some l else if 32 < cN t j then none else kdI t m (j + 1) (l ++ [entB t j])
def rdI (t : ByteArray) : Nat → Nat → List Ent → List Ent
  | 0, _, l => l
  | m + 1, j, l => if 0 < cN t j ∧ cN t j ≤ 32 then rdI t m (j + 1) (l ++ [entB t j]) else rdI t m (j + 1) l
theorem Xhh (t : ByteArray) : ∀ (m j : Nat) (l : List Ent), (rdI t m j l).length ≤ l.length + m
  | 0, _, l => by simp [rdI]
  | m + 1, j, l => by
    simp only [rdI]
    split
    · have := Xhh t m (j + 1) (l ++ [entB t j]); simp at this; omega
    · have := Xhh t m (j + 1) l; omega
theorem Xkh (t : ByteArray) : ∀ (m j : Nat) (l r : List Ent), kdI t m j l = some r → r.length ≤ l.length + m
  | 0, _, l, r, h => by cases h; omega
  | m + 1, j, l, r, h => by
    simp only [kdI] at h
    split at h
    · cases h; omega
    · split at h
      · cases h
      · have := Xkh t m (j + 1) (l ++ [entB t j]) r h; simp at this; omega
abbrev DR := List Ent × Int
theorem kval {t : ByteArray} {n j : Nat} (ht : t.size = 37 * n) (hj : j < n) (kx : ByteArray → Int → Option (List (ByteArray × Int) × Int)) (w : ByteArray) : X1r kx (blkB t j) w big 3 0 = kx w ((bN t j 36 * 16777216 + bN t j 35 * 65536 + bN t j 34 * 256 + bN t j 33 : Nat) : Int) := by
  have step : ∀ (f k : Nat) (v : Int), k < 4 → X1r kx (blkB t j) w (f + 1) (k : Int) v = X1r kx (blkB t j) w f ((k : Int) - 1) (orI .i64 (shlI .i64 v 8) (bN t j (33 + k) : Int)) := fun f k v hk => by
    rw [X1r]
    unfold X4z
    have hb := Xfz t j (33 + k)
    rw [if_pos (by omega), w64_id (x := 33 + (k : Int)) (by omega) (by omega), show 33 + (k : Int) = ((33 + k : Nat) : Int) by omega, Xe1 ht hj (by omega), Option.bind_some, w64_id (x := (k : Int) - 1) (by omega) (by omega), w64_id (x := ((bN t j (33 + k) : Nat) : Int)) (by omega) (by omega)]
  rw [show big = (big - 5) + 1 + 1 + 1 + 1 + 1 from by simp only [big], show (3 : Int) = ((3 : Nat) : Int) from rfl, step _ 3 0 (by omega), show ((3 : Nat) : Int) - 1 = ((2 : Nat) : Int) by omega, step _ 2 _ (by omega), show ((2 : Nat) : Int) - 1 = ((1 : Nat) : Int) by omega, step _ 1 _ (by omega), show ((1 : Nat) : Int) - 1 = ((0 : Nat) : Int) by omega, step _ 0 _ (by omega), X1r]
  unfold X4z
  rw [if_neg (by omega), show 33 + 3 = 36 from rfl, show 33 + 2 = 35 from rfl, show 33 + 1 = 34 from rfl, show 33 + 0 = 33 from rfl, Xox (Xfz ..) (Xfz ..) (Xfz ..) (Xfz ..)]
theorem Xma {t : ByteArray} {n : Nat} (ht : t.size = 37 * n) (hn : n ≤ 8) (kx : List Ent → Option DR) : ∀ (m fuel j : Nat) (l : List Ent), j + m = n → m < fuel → l.length ≤ j →
    Xu kx (n : Int) t fuel l (j : Int) = match kdI t m j l with | none => some ([], 2) | some r => kx r
  | m, 0, _, _, _, h, _ => by omega
  | 0, fuel + 1, j, l, h1, h2, h3 => by
    rw [Xu]
    unfold X50
    rw [if_neg (by omega)]
    rfl
  | m + 1, fuel + 1, j, l, h1, h2, h3 => by
    rw [Xu]
    unfold X50
    rw [if_pos (by omega), w64_id (x := (j : Int) * 37) (by omega) (by omega), w64_id (x := (j : Int) + 1) (by omega) (by omega), w64_id (x := ((j : Int) + 1) * 37) (by omega) (by omega), Xfy (by omega) (by omega) (by omega), Option.bind_some, show t.extract ((j : Int) * 37).toNat (((j : Int) + 1) * 37).toNat = blkB t j by unfold blkB; congr 1 <;> omega]
    have hj : j < n := by omega
    have h0 := Xe1 (k := 0) ht hj (by omega)
    rw [show (0 : Int) = ((0 : Nat) : Int) from rfl, h0, Option.bind_some, bN_0 ht hj]
    have hc := Xoi t j
    rw [w64_id (x := ((cN t j : Nat) : Int)) (by omega) (by omega)]
    simp only [kdI]
    by_cases c0 : cN t j = 0
    · rw [if_pos (by omega), if_pos c0]
    · rw [if_neg (by omega), if_neg c0]
      by_cases c1 : 32 < cN t j
      · rw [if_pos (by omega), if_pos c1]
      · rw [if_neg (by omega), if_neg c1, w64_id (by omega) (by omega), Xfy (by omega) (by omega) (by rw [Xkg ht hj]; omega), Option.bind_some]
        have e := kval ht hj (X2a (Xu kx (n : Int) t fuel) (j : Int) l) ((blkB t j).extract (1 : Int).toNat (1 + ((cN t j : Nat) : Int)).toNat)
        rw [show ((0 : Nat) : Int) = 0 from rfl]
        rw [e]
        unfold X2a
        rw [Xs (by simp; omega), Option.bind_some, w64_id (by omega) (by omega), show (j : Int) + 1 = ((j + 1 : Nat) : Int) by omega, show (1 + ((cN t j : Nat) : Int)).toNat = 1 + cN t j by omega]
        exact Xma ht hn kx m fuel (j + 1) (l ++ [entB t j]) (by omega) (by omega) (by simp; omega)
theorem Xki {t : ByteArray} {n : Nat} (ht : t.size = 37 * n) (hn : n ≤ 8) (kx : List Ent → Option DR) : ∀ (m fuel j : Nat) (l : List Ent), j + m = n → m < fuel → l.length ≤ j →
    X41 kx (n : Int) t fuel l (j : Int) = kx (rdI t m j l)
  | m, 0, _, _, _, h, _ => by omega
  | 0, fuel + 1, j, l, h1, h2, h3 => by
    rw [X41]
    unfold X6l
    rw [if_neg (by omega)]
    rfl
  | m + 1, fuel + 1, j, l, h1, h2, h3 => by
    rw [X41]
    unfold X6l
    rw [if_pos (by omega), w64_id (x := (j : Int) * 37) (by omega) (by omega), w64_id (x := (j : Int) + 1) (by omega) (by omega), w64_id (x := ((j : Int) + 1) * 37) (by omega) (by omega), Xfy (by omega) (by omega) (by omega), Option.bind_some, show t.extract ((j : Int) * 37).toNat (((j : Int) + 1) * 37).toNat = blkB t j by unfold blkB; congr 1 <;> omega]
    have hj : j < n := by omega
    have h0 := Xe1 (k := 0) ht hj (by omega)
    have h36 := Xe1 (k := 36) ht hj (by omega)
    have h35 := Xe1 (k := 35) ht hj (by omega)
    have h34 := Xe1 (k := 34) ht hj (by omega)
    have h33 := Xe1 (k := 33) ht hj (by omega)
    have l36 := Xfz t j 36
    have l35 := Xfz t j 35
    have l34 := Xfz t j 34
    have l33 := Xfz t j 33
    rw [show sidx (blkB t j) 0 = some (bN t j 0 : Int) from h0, Option.bind_some, bN_0 ht hj]
    have hc := Xoi t j
    rw [w64_id (x := ((cN t j : Nat) : Int)) (by omega) (by omega), show w64 (37 - 4) = 33 from rfl, show w64 (37 - 3) = 34 from rfl, show w64 (37 - 2) = 35 from rfl, show w64 (37 - 1) = 36 from rfl]
    simp only [rdI]
    rw [show (j : Int) + 1 = ((j + 1 : Nat) : Int) by omega]
    by_cases c1 : 0 < cN t j ∧ cN t j ≤ 32
    · rw [if_pos (by omega), if_pos c1]
      rw [show sidx (blkB t j) 33 = some (bN t j 33 : Int) from h33, show sidx (blkB t j) 34 = some (bN t j 34 : Int) from h34, show sidx (blkB t j) 35 = some (bN t j 35 : Int) from h35, show sidx (blkB t j) 36 = some (bN t j 36 : Int) from h36, Option.bind_some, Option.bind_some, Option.bind_some, Option.bind_some, w64_id (x := 1 + ((cN t j : Nat) : Int)) (by omega) (by omega), Xfy (by omega) (by omega) (by rw [Xkg ht hj]; omega), Option.bind_some,
        w64_id (x := ((bN t j 33 : Nat) : Int)) (by omega) (by omega), w64_id (x := ((bN t j 34 : Nat) : Int)) (by omega) (by omega), w64_id (x := ((bN t j 35 : Nat) : Int)) (by omega) (by omega), w64_id (x := ((bN t j 36 : Nat) : Int)) (by omega) (by omega), Xoy l33 l34 l35 l36, Xs (by simp; omega), Option.bind_some, show (1 + ((cN t j : Nat) : Int)).toNat = 1 + cN t j by omega]
      exact Xki ht hn kx m fuel (j + 1) (l ++ [entB t j]) (by omega) (by omega) (by simp; omega)
    · rw [if_neg (by omega), if_neg c1]
      exact Xki ht hn kx m fuel (j + 1) l (by omega) (by omega) (by omega)
def Reg (t : ByteArray) (j m : Nat) : Prop := ∃ k, k ≤ m ∧ (∀ i, i < k → 1 ≤ cN t (j + i) ∧ cN t (j + i) ≤ 32) ∧ ∀ i, k ≤ i → i < m → cN t (j + i) = 0
theorem Xkj {t : ByteArray} : ∀ (m j : Nat) (l : List Ent), (∀ i, i < m → cN t (j + i) = 0) → rdI t m j l = l
  | 0, _, _, _ => rfl
  | m + 1, j, l, h => by
    have h0 := h 0 (by omega)
    rw [Nat.add_zero] at h0
    simp only [rdI]
    rw [if_neg (by omega)]
    exact Xkj m (j + 1) l fun i hi => by have := h (i + 1) (by omega); rw [show j + 1 + i = j + (i + 1) by omega]; exact this
theorem Xi7 {t : ByteArray} : ∀ (m j : Nat) (l : List Ent), Reg t j m → kdI t m j l = some (rdI t m j l)
  | 0, _, _, _ => rfl
  | m + 1, j, l, ⟨k, h1, h2, h3⟩ => by
    cases k with
    | zero =>
      have h0 := h3 0 (by omega) (by omega)
      rw [Nat.add_zero] at h0
      rw [Xkj (m + 1) j l fun i hi => h3 i (by omega) hi]
      simp only [kdI]
      rw [if_pos h0]
    | succ k =>
      have h0 := h2 0 (by omega)
      rw [Nat.add_zero] at h0
      simp only [kdI, rdI]
      rw [if_neg (by omega), if_neg (by omega), if_pos (by omega)]
      exact Xi7 m (j + 1) _ ⟨k, by omega, fun i hi => by have := h2 (i + 1) (by omega); rw [show j + 1 + i = j + (i + 1) by omega]; exact this, fun i hi hi2 => by have := h3 (i + 1) (by omega) (by omega); rw [show j + 1 + i = j + (i + 1) by omega]; exact this⟩
end Go.Proofs.YtmfppphlhgneeaaGreat
end

section
namespace Go.Proofs.YtmfppphlhgneeaaGreat
set_option linter.unusedVariables false
set_option maxRecDepth 100000
theorem Xi8 {n : Nat} (h1 : 1 ≤ n ∧ n ≤ 8) {l : List Ent} (hl : l.length ≤ 100000) {t : ByteArray} (h : X2l (n : Int) l = some (t, 0)) : l.length ≤ n ∧ (∀ x ∈ l, EntOK x) ∧ t = ofB ((l.map encI).flatten ++ List.replicate (37 * (n - l.length)) 0) := by
  unfold X2l at h
  rw [if_neg (by omega)] at h
  by_cases h2 : (n : Int) < (l.length : Int)
  · rw [if_pos h2] at h; cases h
  · rw [if_neg h2] at h
    obtain ⟨b, k1, k2, k3⟩ := Xd6 hl
    rw [k2, Option.bind_some] at h
    cases b with
    | false => cases h
    | true =>
      rw [if_neg (by decide)] at h
      have hk := k3 rfl
      rw [Xkd _ l [] hk (by simp; omega), List.nil_append] at h
      unfold X21 at h
      have hfl : ((l.map encI).flatten).length = 37 * l.length := by
        clear h k1 k2 k3 h2 hl
        induction l with
        | nil => rfl
        | cons x l ih =>
          rw [List.map_cons, List.flatten_cons, List.length_append, ih (fun y hy => hk y (List.mem_cons_of_mem _ hy)), Xb1 (hk x List.mem_cons_self).1, List.length_cons]
          omega
      rw [w64_id (x := (n : Int) - (l.length : Int)) (by omega) (by omega), w64_id (by omega) (by omega), Xbi (by omega) (by omega), Option.bind_some, Xs (by simp [hfl]; omega), Option.bind_some] at h
      have h3 := congrArg Prod.fst (Option.some.inj h)
      refine ⟨by omega, hk, ?_⟩
      rw [show (((n : Int) - (l.length : Int)) * 37).toNat = 37 * (n - l.length) by omega] at h3
      exact h3.symm
theorem Xkk : ∀ (l : List Ent) (Z : List Int) (j : Nat), (∀ x ∈ l, EntOK x) → j < l.length → ((l.map encI).flatten ++ Z).getD (37 * j) 0 = wu8 ((l.getD j (ByteArray.empty, 0)).1.size : Int)
  | [], _, j, _, h => by simp at h
  | x :: l, Z, 0, _, _ => rfl
  | x :: l, Z, j + 1, h, hj => by
    have hx := Xb1 (h x List.mem_cons_self).1
    have ih := Xkk l Z j (fun y hy => h y (List.mem_cons_of_mem _ hy)) (by simpa using hj)
    rw [List.map_cons, List.flatten_cons, List.append_assoc, List.getD_eq_getElem?_getD, List.getElem?_append_right (by omega), hx, show 37 * (j + 1) - 37 = 37 * j by omega, ← List.getD_eq_getElem?_getD, ih]
    rfl
theorem Xmb (W : List Int) (j : Nat) : cN (ofB W) j = (UInt8.ofNat (W.getD (37 * j) 0).toNat).toNat := by
  unfold cN ofB
  rw [List.getD_eq_getElem?_getD, List.getD_eq_getElem?_getD]
  show (((W.map fun n => UInt8.ofNat n.toNat))[37 * j]?.getD 0).toNat = _
  rw [List.getElem?_map]
  cases W[37 * j]? <;> rfl
theorem Xn7 {n : Nat} (h1 : 1 ≤ n ∧ n ≤ 8) {l : List Ent} (hl : l.length ≤ 100000) {t : ByteArray} (h : X2l (n : Int) l = some (t, 0)) : Reg t 0 n := by
  obtain ⟨k1, k2, rfl⟩ := Xi8 h1 hl h
  have hfl : ((l.map encI).flatten).length = 37 * l.length := by
    clear h hl k1
    induction l with
    | nil => rfl
    | cons x l ih =>
      rw [List.map_cons, List.flatten_cons, List.length_append, ih (fun y hy => k2 y (List.mem_cons_of_mem _ hy)), Xb1 (k2 x List.mem_cons_self).1, List.length_cons]
      omega
  refine ⟨l.length, k1, fun i hi => ?_, fun i hi hi2 => ?_⟩
  · rw [Nat.zero_add, Xmb, Xkk l _ i k2 hi]
    have hm : l.getD i (ByteArray.empty, 0) ∈ l := by
      rw [List.getD_eq_getElem?_getD, List.getElem?_eq_getElem hi]; exact List.getElem_mem _
    have hk := (k2 _ hm).1
    have hk1 := hk.1
    have hk2 := hk.2
    generalize (l.getD i (ByteArray.empty, 0)).1.size = q at hk1 hk2
    rw [Xng (by omega) (by omega), Int.toNat_natCast, UInt8.toNat_ofNat_of_lt' (by show q < 256; omega)]
    exact ⟨hk1, hk2⟩
  · rw [Nat.zero_add, Xmb, List.getD_eq_getElem?_getD, List.getElem?_append_right (by omega), List.getElem?_replicate]
    split <;> rfl
theorem Xlo {n : Int} {t : ByteArray} (ht : t.size ≤ 1048576) : ∃ r, X78 n t = some r ∧ X90 n t = some r ∧ r.1.length ≤ 8 := by
  unfold X78 X90 X1y
  rw [Option.bind_some]
  by_cases h1 : 1 ≤ n ∧ n ≤ 8
  · rw [if_neg (nb_t h1), if_neg (show ¬ (n < 1 ∨ 8 < n) by omega), w64_id (x := n * 37) (by omega) (by omega)]
    by_cases h2 : (t.size : Int) ≠ n * 37
    · rw [if_pos h2, if_pos h2]; exact ⟨_, rfl, rfl, by simp⟩
    · rw [if_neg h2, if_neg h2]
      obtain ⟨m, rfl⟩ : ∃ m : Nat, n = (m : Int) := ⟨n.toNat, by omega⟩
      have hs : t.size = 37 * m := by omega
      have e1 := Xma hs (by omega) (Xq (m : Int) t) m big 0 [] (by omega) (by simp only [big]; omega) (by simp)
      have e2 := Xki hs (by omega) (X2h (m : Int) t) m big 0 [] (by omega) (by simp only [big]; omega) (by simp)
      rw [show ((0 : Nat) : Int) = 0 from rfl] at e1 e2
      rw [e1, e2]
      have hr := Xhh t m 0 []
      rw [List.length_nil, Nat.zero_add] at hr
      have hJ : ∀ l : List Ent, l.length ≤ m → ∃ r, Xq (m : Int) t l = some r ∧ X2h (m : Int) t l = some r ∧ r.1.length ≤ 8 ∧ (¬ Reg t 0 m → r = ([], 2)) := fun l hl => by
        unfold Xq X2h
        obtain ⟨r, k1, k2⟩ := Xi5 (n := (m : Int)) (l := l) (by omega)
        rw [k1, k2, Option.bind_some]
        by_cases hc : r.2 ≠ 0 ∨ r.1 ≠ t
        · rw [if_pos hc]; exact ⟨_, rfl, rfl, by simp, fun _ => rfl⟩
        · rw [if_neg hc]
          refine ⟨_, rfl, rfl, by dsimp only; omega, fun hreg => ?_⟩
          have hc1 : r.2 = 0 := Classical.not_not.1 fun h => hc (.inl h)
          have hc2 : r.1 = t := Classical.not_not.1 fun h => hc (.inr h)
          exact absurd (Xn7 (n := m) (by omega) (l := l) (by omega) (by rw [k2, ← hc1, ← hc2])) hreg
      by_cases hreg : Reg t 0 m
      · rw [Xi7 m 0 [] hreg]
        obtain ⟨r, k1, k2, k3, _⟩ := hJ _ hr
        exact ⟨r, k1, k2, k3⟩
      · obtain ⟨r, k1, k2, k3, k4⟩ := hJ _ hr
        have k5 := k4 hreg
        subst k5
        refine ⟨([], 2), ?_, k2, by simp⟩
        cases hkd : kdI t m 0 [] with
        | none => rfl
        | some q =>
          have hq := Xkh t m 0 [] q hkd
          rw [List.length_nil, Nat.zero_add] at hq
          obtain ⟨r', q1, q2, q3, q4⟩ := hJ q hq
          have q5 := q4 hreg
          subst q5
          exact q1
  · rw [if_pos (nb_f h1), if_pos (show n < 1 ∨ 8 < n by omega)]; exact ⟨_, rfl, rfl, by simp⟩
theorem Xkl (w : ByteArray) (bs : List (List Ent)) : ∃ r, X8y w bs = some r ∧ Xaf w bs = some r := by
  unfold X8y Xaf
  rw [Xco, Xds, Option.bind_some, Option.bind_some]
  by_cases hw : KeyP w
  · rw [if_neg (nb_t hw), if_neg (nb_t hw)]
    have inner : ∀ (c : List Ent) (a b : Option (Int × Bool × Int)), (∃ r, a = some r ∧ b = some r) → ∃ r, X3y a w c = some r ∧ X5f b w c = some r := fun c => by
      induction c with
      | nil => exact fun a b h => h
      | cons x c ih =>
        intro a b h
        show ∃ r, X6i a w (X3y a w c) x = _ ∧ X81 b w (X5f b w c) x = _
        unfold X6i X81
        by_cases hx : x.1 = w
        · rw [if_pos hx, if_pos hx]; exact ⟨_, rfl, rfl⟩
        · rw [if_neg hx, if_neg hx]; exact ih a b h
    induction bs with
    | nil => exact ⟨_, rfl, rfl⟩
    | cons c bs ih => exact inner c _ _ ih
  · rw [if_pos (nb_f hw), if_pos (nb_f hw)]; exact ⟨_, rfl, rfl⟩
end Go.Proofs.YtmfppphlhgneeaaGreat
end

section
namespace Go.Proofs.YtmfppphlhgneeaaGreat
set_option linter.unusedVariables false
def okr (r : List Int) : Prop := ∀ x ∈ r, 0 ≤ x ∧ x ≤ 255
instance (r : List Int) : Decidable (okr r) := inferInstanceAs (Decidable (∀ x ∈ r, 0 ≤ x ∧ x ≤ 255))
theorem Xbp {x : Int} {r : List Int} : okr (x :: r) ↔ (0 ≤ x ∧ x ≤ 255) ∧ okr r := by unfold okr; simp
def txt (r : List Int) : ByteArray := ofB (r.map wu8)
theorem Xoj : ∀ (r : List Int) (i : Nat), ∃ n : Int, Xd X4y r i = some n ∧ (0 ≤ n ↔ ¬ okr r)
  | [], i => ⟨-1, rfl, by simp [okr]⟩
  | x :: r, i => by
    obtain ⟨n, h1, h2⟩ := Xoj r (i + 1)
    rw [Xd]
    unfold X1g X4y
    simp only [Option.bind_some]
    by_cases c : x < 0 ∨ 256 ≤ x
    · rw [if_pos (by simpa using c)]
      exact ⟨_, rfl, by rw [Xbp]; constructor
                        · intro _ h; omega
                        · intro _; omega⟩
    · rw [if_neg (by simpa using c)]
      refine ⟨n, h1, ?_⟩
      rw [h2, Xbp]
      constructor
      · intro h h3; exact h h3.2
      · intro h h3; exact h ⟨by omega, h3⟩
theorem Xi9 : ∀ (r : List Int) (i : Nat) (v : List Int), v.length = i + r.length → X29 X28 r i v = some (ofB (v.take i ++ r.map wu8), true)
  | [], i, v, h => by
    rw [X29]; unfold X28
    rw [List.take_of_length_le (by simp at h; omega)]; simp
  | x :: r, i, v, h => by
    simp only [List.length_cons] at h
    rw [X29]
    unfold X6u
    rw [X26 0 (by omega), Option.bind_some, X1s (by omega) (by omega), Option.bind_some, Int.toNat_natCast, Xi9 r (i + 1) _ (by simp; omega)]
    congr 2
    rw [List.map_cons, List.take_succ_eq_append_getElem (by simp; omega), List.getElem_set_self, List.take_set_of_le (by omega)]
    simp
theorem Xlp {r : List Int} (h : r.length ≤ 1048576) : X77 r = some (if okr r then (txt r, true) else (ByteArray.empty, false)) := by
  unfold X77 X12 X27
  obtain ⟨n, h1, h2⟩ := Xoj r 0
  rw [h1]
  simp only [Option.bind_some]
  by_cases c : okr r
  · rw [if_neg (by simp only [decide_eq_true_eq]; exact fun h3 => h2.1 h3 c), if_pos c]
    have e : lmk (r.length : Int) 0 = some (List.replicate r.length (0 : Int)) := by unfold lmk; rw [if_pos (by omega)]; simp
    rw [e, Option.bind_some, Xi9 r 0 _ (by simp)]
    simp [txt]
  · rw [if_pos (by simp only [decide_eq_true_eq]; exact h2.2 c), if_neg c]
abbrev Oc := Int × List Int × List Int
def codeOf : List Oc → Int
  | [] => 0
  | o :: l => if o.1 ≠ 0 then o.1 else codeOf l
theorem Xkm (kx : Option (Int × Bool × Int)) : ∀ l : List Oc, X3n kx l = if codeOf l ≠ 0 then some (0, false, codeOf l) else kx
  | [] => by rw [X3n, codeOf, if_neg (by simp)]
  | o :: l => by
    rw [X3n, codeOf]
    unfold X8n
    by_cases c : o.1 ≠ 0
    · rw [if_pos c, if_pos c, if_pos c]
    · rw [if_neg c, if_neg c, Xkm kx l]
theorem at_d {α : Type} {l : List α} {i : Nat} {a : α} {m : List α} (h : l.drop i = a :: m) : i < l.length ∧ l[i]? = some a ∧ l.drop (i + 1) = m := by
  have hi : i < l.length := by
    rcases Nat.lt_or_ge i l.length with h2 | h2
    · exact h2
    · rw [List.drop_of_length_le h2] at h; cases h
  have h3 := List.drop_eq_getElem_cons hi
  rw [h] at h3
  exact ⟨hi, by rw [List.getElem?_eq_getElem hi, (List.cons.inj h3).1], (List.cons.inj h3).2.symm⟩
theorem Xia (kx : Option (Int × Bool × Int)) {l : List Oc} (hl : l.length ≤ 1000) : ∀ (m : List Oc) (i f : Nat), l.drop i = m → m.length < f → i ≤ l.length → X5i kx l f (i : Int) = if codeOf m ≠ 0 then some (0, false, codeOf m) else kx
  | [], i, f, hd, hf, hi => by
    obtain ⟨g, rfl⟩ : ∃ g, f = g + 1 := ⟨f - 1, by simp at hf; omega⟩
    have : l.length ≤ i := by simpa using hd
    rw [X5i]; unfold X85
    rw [if_neg (by omega), codeOf, if_neg (by simp)]
  | o :: m, i, f, hd, hf, hi => by
    obtain ⟨g, rfl⟩ : ∃ g, f = g + 1 := ⟨f - 1, by simp at hf; omega⟩
    obtain ⟨h1, h2, h3⟩ := at_d hd
    rw [X5i]; unfold X85
    rw [if_pos (by omega), Xa4 (by omega) (by rw [Int.toNat_natCast]; exact h2), Option.bind_some, codeOf]
    by_cases c : o.1 ≠ 0
    · rw [if_pos c, if_pos c, if_pos c]; rfl
    · rw [if_neg c, if_neg c, w64_id (by omega) (by omega)]
      exact_mod_cast Xia kx hl m (i + 1) g h3 (by simp at hf; omega) (by omega)
def allok (l : List Oc) : Prop := ∀ o ∈ l, okr o.2.1
instance (l : List Oc) : Decidable (allok l) := inferInstanceAs (Decidable (∀ o ∈ l, okr o.2.1))
theorem X9d {o : Oc} {l : List Oc} : allok (o :: l) ↔ okr o.2.1 ∧ allok l := by unfold allok; simp
def txts (l : List Oc) : List ByteArray := l.map fun o => txt o.2.1
theorem Xib (kx : List ByteArray → Option (Int × Bool × Int)) : ∀ (m : List Oc) (i : Nat) (v : List ByteArray), (∀ o ∈ m, o.2.1.length ≤ 1048576) → v.length = i + m.length → X3m kx m i v = if allok m then kx (v.take i ++ txts m) else some (0, false, 2)
  | [], i, v, _, h => by
    rw [X3m, if_pos (by simp [allok]), List.take_of_length_le (by simp at h; omega)]; simp [txts]
  | o :: m, i, v, hm, h => by
    simp only [List.length_cons] at h
    rw [X3m]
    unfold X8m
    rw [Xlp (hm o List.mem_cons_self), Option.bind_some]
    by_cases c : okr o.2.1
    · rw [if_pos c, if_neg (by simp), X26 ByteArray.empty (by omega), Option.bind_some, X1s (by omega) (by omega), Option.bind_some, Int.toNat_natCast, Xib kx m (i + 1) _ (fun o ho => hm o (List.mem_cons_of_mem _ ho)) (by simp; omega)]
      by_cases c2 : allok m
      · rw [if_pos c2, if_pos (X9d.2 ⟨c, c2⟩)]
        congr 1
        rw [List.take_succ_eq_append_getElem (by simp; omega), List.getElem_set_self, List.take_set_of_le (by omega)]
        simp [txts]
      · rw [if_neg c2, if_neg fun h => c2 (X9d.1 h).2]
    · rw [if_neg c, if_pos (by simp), if_neg fun h => c (X9d.1 h).1]
theorem Xic (kx : List Int → Option (Int × Bool × Int)) {l : List Oc} {i : Nat} {o : Oc} (ho : l[i]? = some o) (hr : o.2.1.length ≤ 1048576) : ∀ (m : List Int) (k f : Nat) (b : List Int), o.2.1.drop k = m → m.length < f → k ≤ o.2.1.length → b.length + m.length ≤ 1048576 →
    X5h kx (i : Int) l f b (k : Int) = if okr m then kx (b ++ m.map wu8) else some (0, false, 2)
  | [], k, f, b, hd, hf, hk, hb => by
    obtain ⟨g, rfl⟩ : ∃ g, f = g + 1 := ⟨f - 1, by simp at hf; omega⟩
    have : o.2.1.length ≤ k := by simpa using hd
    rw [X5h]; unfold X83
    rw [Xa4 (by omega) (by rw [Int.toNat_natCast]; exact ho), Option.bind_some, if_neg (by omega), if_pos (by simp [okr])]
    simp
  | x :: m, k, f, b, hd, hf, hk, hb => by
    obtain ⟨g, rfl⟩ : ∃ g, f = g + 1 := ⟨f - 1, by simp at hf; omega⟩
    obtain ⟨h1, h2, h3⟩ := at_d hd
    simp only [List.length_cons] at hb hf
    have lo : lidx l (i : Int) = some o := Xa4 (by omega) (by rw [Int.toNat_natCast]; exact ho)
    have lx : lidx o.2.1 (k : Int) = some x := Xa4 (by omega) (by rw [Int.toNat_natCast]; exact h2)
    rw [X5h]; unfold X83
    rw [lo, Option.bind_some, if_pos (by omega), Option.bind_some, lx, Option.bind_some]
    by_cases c1 : x < 0
    · rw [if_pos c1, Option.bind_some, if_pos rfl, if_neg fun h => by have := (Xbp.1 h).1; omega]
    · rw [if_neg c1, Option.bind_some, lx, Option.bind_some, Option.bind_some]
      by_cases c2 : 255 < x
      · rw [if_pos (by simpa using c2), if_neg fun h => by have := (Xbp.1 h).1; omega]
      · rw [if_neg (by simpa using c2), Option.bind_some, lx, Option.bind_some, Xs (by simp; omega), Option.bind_some, w64_id (by omega) (by omega)]
        have := Xic kx ho hr m (k + 1) g (b ++ [wu8 x]) h3 (by omega) (by omega) (by simp; omega)
        rw [show ((k + 1 : Nat) : Int) = (k : Int) + 1 by omega] at this
        rw [this]
        by_cases c3 : okr m
        · rw [if_pos c3, if_pos (Xbp.2 ⟨by omega, c3⟩)]; simp
        · rw [if_neg c3, if_neg fun h => c3 (Xbp.1 h).2]
theorem Xh3 (kx : List ByteArray → Option (Int × Bool × Int)) {l : List Oc} (hl : l.length ≤ 1000) (hr : ∀ o ∈ l, o.2.1.length ≤ 1048576) : ∀ (m : List Oc) (i f : Nat) (v : List ByteArray), l.drop i = m → m.length < f → i ≤ l.length → v.length + m.length ≤ 1000 →
    X25 kx l f v (i : Int) = if allok m then kx (v ++ txts m) else some (0, false, 2)
  | [], i, f, v, hd, hf, hi, hv => by
    obtain ⟨g, rfl⟩ : ∃ g, f = g + 1 := ⟨f - 1, by simp at hf; omega⟩
    have : l.length ≤ i := by simpa using hd
    rw [X25]; unfold X84
    rw [if_neg (by omega), if_pos (by simp [allok])]; simp [txts]
  | o :: m, i, f, v, hd, hf, hi, hv => by
    obtain ⟨g, rfl⟩ : ∃ g, f = g + 1 := ⟨f - 1, by simp at hf; omega⟩
    obtain ⟨h1, h2, h3⟩ := at_d hd
    simp only [List.length_cons] at hv hf
    rw [X25]; unfold X84
    have hro := hr o (List.mem_of_getElem? h2)
    have := Xic (X4b (X25 kx l g) (i : Int) v) h2 hro o.2.1 0 big [] rfl (by simp only [big]; omega) (by omega) (by simpa using hro)
    rw [show ((0 : Nat) : Int) = 0 from rfl] at this
    rw [if_pos (by omega), this]
    by_cases c : okr o.2.1
    · rw [if_pos c]
      unfold X4b
      rw [Xs (by simp; omega), Option.bind_some, w64_id (by omega) (by omega), List.nil_append]
      have := Xh3 kx hl hr m (i + 1) g (v ++ [ofB (o.2.1.map wu8)]) h3 (by omega) (by omega) (by simp; omega)
      rw [show ((i + 1 : Nat) : Int) = (i : Int) + 1 by omega] at this
      rw [this]
      by_cases c2 : allok m
      · rw [if_pos c2, if_pos (X9d.2 ⟨c, c2⟩)]; simp [txts, txt]
      · rw [if_neg c2, if_neg fun h => c2 (X9d.1 h).2]
    · rw [if_neg c, if_neg fun h => c (X9d.1 h).1]
theorem Xmc (n : Int) (k : ByteArray) {all : List ByteArray} (hs : ∀ t ∈ all, t.size ≤ 1048576) (ha : all.length ≤ 1000) : ∀ (T : List ByteArray) (i f : Nat) (acc : List (List Ent)), all.drop i = T → T.length < f → i ≤ all.length → acc.length + T.length ≤ 1000 →
    ∃ r, X3l (X3k k) n T acc = some r ∧ X5g (X4a k) n all f acc (i : Int) = some r
  | [], i, f, acc, hd, hf, hi, hv => by
    obtain ⟨g, rfl⟩ : ∃ g, f = g + 1 := ⟨f - 1, by simp at hf; omega⟩
    have : all.length ≤ i := by simpa using hd
    rw [X3l, X5g]; unfold X82 X3k X4a
    rw [if_neg (by omega)]
    obtain ⟨r, h1, h2⟩ := Xkl k acc
    rw [h1, h2]
    exact ⟨_, rfl, rfl⟩
  | t :: T, i, f, acc, hd, hf, hi, hv => by
    obtain ⟨g, rfl⟩ : ∃ g, f = g + 1 := ⟨f - 1, by simp at hf; omega⟩
    obtain ⟨h1, h2, h3⟩ := at_d hd
    simp only [List.length_cons] at hv hf
    rw [X3l, X5g]; unfold X82 X8l
    obtain ⟨r, e1, e2, _⟩ := Xlo (n := n) (hs t (List.mem_of_getElem? h2))
    rw [if_pos (by omega), Xa4 (by omega) (by rw [Int.toNat_natCast]; exact h2), Option.bind_some, e1, e2, Option.bind_some, Option.bind_some]
    by_cases c : r.2 ≠ 0
    · rw [if_pos c, if_pos c]; exact ⟨_, rfl, rfl⟩
    · rw [if_neg c, if_neg c, Xs (by simp; omega), Option.bind_some, Option.bind_some, w64_id (by omega) (by omega)]
      have := Xmc n k hs ha T (i + 1) g (acc ++ [r.1]) h3 (by omega) (by omega) (by simp; omega)
      exact_mod_cast this
theorem Xlq (r : List Int) : (txt r).size = r.length := by simp [txt, ofB, ByteArray.size]
theorem Xkn (n : Int) (k : ByteArray) {l : List Oc} (hl : l.length ≤ 900) (hr : ∀ o ∈ l, o.2.1.length ≤ 1048576) : ∃ r, X9o n k l = some r ∧ Xag n k l = some r := by
  unfold X9o Xag
  have h8 := Xia (X4c n k l) (by omega) l 0 big rfl (by simp only [big]; omega) (by omega)
  rw [show ((0 : Nat) : Int) = 0 from rfl] at h8
  rw [Xkm, h8]
  by_cases c : codeOf l ≠ 0
  · rw [if_pos c, if_pos c]; exact ⟨_, rfl, rfl⟩
  · rw [if_neg c, if_neg c]
    unfold X4j X4c
    have e : lmk (l.length : Int) ByteArray.empty = some (List.replicate l.length ByteArray.empty) := by unfold lmk; rw [if_pos (by omega)]; simp
    rw [e, Option.bind_some, Xib _ l 0 _ hr (by simp)]
    have h6 := Xh3 (X24 n k) (by omega) hr l 0 big [] rfl (by simp only [big]; omega) (by omega) (by simp; omega)
    rw [show ((0 : Nat) : Int) = 0 from rfl] at h6
    rw [h6]
    by_cases c2 : allok l
    · rw [if_pos c2, if_pos c2]
      unfold X4i X24
      simp only [List.take_zero, List.nil_append]
      have h7 := Xmc n k (all := txts l) (fun t ht => by
        obtain ⟨o, ho, rfl⟩ := List.mem_map.1 ht
        rw [Xlq]; exact hr o ho) (by simp [txts]; omega) (txts l) 0 big [] rfl (by simp only [big, txts, List.length_map]; omega) (by omega) (by simp [txts]; omega)
      exact_mod_cast h7
    · rw [if_neg c2, if_neg c2]; exact ⟨_, rfl, rfl⟩
end Go.Proofs.YtmfppphlhgneeaaGreat
end

section
namespace Go.Proofs.YtmfppphlhgneeaaGreat
set_option linter.unusedVariables false
theorem Xh4 (z : Int) (l : List Ent) : ∀ (xs : List Ent) (v : List Int) (r : ByteArray × Int), X1i (X21 z l) xs v = some r → r.2 = 0
  | [], v, r, h => by
    rw [X1i] at h
    unfold X21 at h
    obtain ⟨u, _, h⟩ := X0 h
    obtain ⟨w, _, h⟩ := X0 h
    cases h; rfl
  | x :: xs, v, r, h => by
    rw [X1i] at h
    unfold X6k at h
    obtain ⟨u1, _, h⟩ := X0 h
    obtain ⟨u2, _, h⟩ := X0 h
    obtain ⟨u3, _, h⟩ := X0 h
    obtain ⟨u4, _, h⟩ := X0 h
    obtain ⟨u5, _, h⟩ := X0 h
    obtain ⟨u6, _, h⟩ := X0 h
    exact Xh4 z l xs u6 r h
theorem Xid (k : List (ByteArray × Bool) → Int → Int → Option Int) (b a : Int) (h : List (Int × Int)) (s : Int) : ∀ (c : List Ent) (v : List (ByteArray × Bool)), X19 k b a h s c v = some 0 → ∃ v', k v' a s = some 0
  | [], v, e => ⟨v, by rw [X19] at e; exact e⟩
  | x :: c, v, e => by
    rw [X19] at e
    unfold X2j at e
    obtain ⟨u, _, e⟩ := X0 e
    by_cases hu : u = true
    · rw [if_pos hu] at e; cases e
    · rw [if_neg hu] at e
      exact Xid k b a h s c _ e
theorem Xie (h : List (Int × Int)) (a s : Int) : ∀ (E : List (List Ent)) (i : Nat) (v : List (ByteArray × Bool)), Xr h E i v a s = some 0 → ∀ c ∈ E, (c.length : Int) ≤ s ∧ X18 c = some true
  | [], _, _, _ => fun c hc => by cases hc
  | c :: E, i, v, e => by
    rw [Xr] at e
    unfold X2k at e
    by_cases hl : s < (c.length : Int)
    · rw [if_pos hl, Option.bind_some, if_pos rfl] at e; cases e
    · rw [if_neg hl] at e
      obtain ⟨u, hu, e⟩ := X0 e
      obtain ⟨b, hb, hu⟩ := X0 hu
      cases hu
      by_cases hu2 : (!b) = true
      · rw [if_pos hu2] at e; cases e
      · rw [if_neg hu2] at e
        obtain ⟨v', e'⟩ := Xid _ _ _ _ _ _ _ e
        have ih := Xie h a s E (i + 1) v' e'
        intro d hd
        rcases List.mem_cons.1 hd with rfl | hd
        · exact ⟨by omega, by rw [hb]; cases b <;> simp_all⟩
        · exact ih d hd
theorem Xew {x : (Int × List (Int × Int)) × Int × List (List Ent)} (e : X3e x = some 0) : (1 ≤ x.2.1 ∧ x.2.1 ≤ 8) ∧ ∀ c ∈ x.2.2, (c.length : Int) ≤ x.2.1 ∧ X18 c = some true := by
  unfold X3e X1y at e
  obtain ⟨u, hu, e⟩ := X0 e
  obtain ⟨b, hb, e⟩ := X0 e
  by_cases c : b = true ∨ (x.2.2.length : Int) ≠ x.1.1
  · rw [if_pos c] at e; cases e
  · rw [if_neg c] at e
    refine ⟨?_, Xie _ _ _ _ _ _ e⟩
    by_cases c2 : u ≠ 0
    · rw [if_pos c2] at hb; cases hb; exact absurd (.inl rfl) c
    · rw [if_neg c2, Option.bind_some] at hb
      cases hb
      by_cases c3 : 1 ≤ x.2.1 ∧ x.2.1 ≤ 8
      · exact c3
      · exact absurd (.inl (by simp [c3])) c
end Go.Proofs.YtmfppphlhgneeaaGreat
end

section
namespace Go.Proofs.YtmfppphlhgneeaaGreat
set_option linter.unusedVariables false
theorem Xok {n : Int} {l : List Ent} (hn : 1 ≤ n ∧ n ≤ 8) (hl : (l.length : Int) ≤ n) (ha : X18 l = some true) : ∃ t, X2q n l = some (t, 0) ∧ X2l n l = some (t, 0) := by
  obtain ⟨r, h1, h2⟩ := Xi5 (n := n) (l := l) (by omega)
  have h3 := h2
  unfold X2l at h3
  obtain ⟨b, a1, a2, _⟩ := Xd6 (l := l) (by omega)
  rw [ha] at a1
  cases a1
  rw [if_neg (by omega), if_neg (by omega), a2, Option.bind_some, if_neg (by simp)] at h3
  have := Xh4 _ _ _ _ _ h3
  refine ⟨r.1, ?_, ?_⟩
  · rw [h1, ← this]
  · rw [h2, ← this]
end Go.Proofs.YtmfppphlhgneeaaGreat
end

section
namespace Go.Proofs.YtmfppphlhgneeaaGreat
set_option linter.unusedVariables false
set_option maxRecDepth 100000
theorem Xko (h : Hsh) (w : ByteArray) : ∃ r, X5b h w = some r ∧ X5w h w = some r ∧ r.1.length ≤ 4 := by
  rcases Xch h with ⟨e, hk⟩ | ⟨e, _⟩
  · by_cases hw : KeyP w
    · refine ⟨_, Xn5 hk hw, ?_, ?_⟩
      · unfold X5w
        rw [r20homes_ok hk hw]
        rfl
      · dsimp only
        rw [Xh0]
        exact hk.2.2.2.1
    · refine ⟨([], 1), ?_, ?_, by simp⟩
      · unfold X5b X6t
        rw [e, Option.bind_some, if_neg (by decide), Xco, Option.bind_some, if_pos (nb_f hw)]
        rfl
      · unfold X5w X35
        rw [rcheck, e, Option.bind_some, if_neg (by decide), Xds, Option.bind_some, if_pos (nb_f hw)]
        rfl
  · refine ⟨([], 2), ?_, ?_, by simp⟩
    · unfold X5b X6t
      rw [e, Option.bind_some, if_pos (by decide)]
      rfl
    · unfold X5w X35
      rw [rcheck, e, Option.bind_some, if_pos (by decide)]
      rfl
end Go.Proofs.YtmfppphlhgneeaaGreat
end

section
namespace Go.Proofs.YtmfppphlhgneeaaGreat
set_option linter.unusedVariables false
set_option maxRecDepth 100000
theorem Xkp (n : Int) : ∀ l : List Int, X9p l n = some (decide (n ∈ l))
  | [] => rfl
  | x :: l => by
    show X8z n (X6j n l) x = _
    unfold X8z
    by_cases h : x = n
    · rw [if_pos h, decide_eq_true (by rw [h]; exact List.mem_cons_self)]
    · rw [if_neg h, show X6j n l = X9p l n from rfl, Xkp n l]
      exact congrArg some (decide_eq_decide.2 ⟨fun h2 => List.mem_cons_of_mem _ h2, fun h2 => by
        rcases List.mem_cons.1 h2 with h3 | h3
        · exact absurd h3.symm h
        · exact h3⟩)
theorem Xhi (l : List Int) (n : Int) : X17 l n = some (decide (n ∈ l)) := by
  obtain ⟨r, h1, h2⟩ := Xdy l n
  rw [h1]
  cases r with
  | true => rw [decide_eq_true (h2.1 rfl)]
  | false => rw [decide_eq_false (fun h => by have := h2.2 h; cases this)]
theorem Xmd (k1 k2 : List (ByteArray × Bool) → Int → Int → Option Int) {h : Hsh} (hk : HshOK h) (b : Int) (z : List Ent) (s : Int) (hz : z.length ≤ 100000) : ∀ (xs : List Ent) (i : Nat) (v : List (ByteArray × Bool)), z.drop i = xs → Xi z xs i = some true →
    (∀ v, (∃ e, k1 v h.1 s = some e ∧ k2 v h.1 s = some e)) → ∃ e, X19 k1 b h.1 h.2 s xs v = some e ∧ X20 k2 b z h.1 h.2 s xs i v = some e
  | [], i, v, _, _, hkk => hkk v
  | x :: xs, i, v, hd, ha, hkk => by
    obtain ⟨hi, hd'⟩ := Xfw hd
    rw [Xi] at ha
    unfold X2e at ha
    rw [Xci, Option.bind_some] at ha
    show ∃ e, X2j k1 b h.1 h.2 s (X19 k1 b h.1 h.2 s xs) x v = _ ∧ X4k k2 b z h.1 h.2 s (X20 k2 b z h.1 h.2 s xs (i + 1)) x i v = _
    unfold X2j X4k
    rw [Xbk, Option.bind_some]
    by_cases hv : EntOK x
    · rw [if_neg (nb_t hv)] at ha ⊢
      have hw := hv.1
      have hs := hw.2
      have core : ∀ ha' : Xi z xs (i + 1) = some true, ∃ e, ((if ((mget v x.1).getD false) = true then some true else (X59 (h.1, h.2) x.1).bind fun u361 => (X17 u361 b).bind fun u375 => some (!u375)).bind fun u349 => if u349 = true then some 2 else X19 k1 b h.1 h.2 s xs (mput v x.1 true)) = some e ∧
          ((some false).bind fun u410 => if (u410 = true ∨ ((mget v x.1).getD false) = true) then some 2 else (X35 (h.1, h.2) x.1).bind fun u422 => (X9p u422.1 b).bind fun u436 => if (!u436) = true then some 2 else X20 k2 b z h.1 h.2 s xs (i + 1) (mput v x.1 true)) = some e := fun ha' => by
        rw [Option.bind_some]
        by_cases hm : ((mget v x.1).getD false) = true
        · rw [if_pos hm, if_pos (.inr hm)]
          exact ⟨2, rfl, rfl⟩
        · rw [if_neg hm, if_neg (fun h => by rcases h with h | h; cases h; exact hm h), show ((h.1, h.2) : Hsh) = h from rfl, Xdz hk (by omega), r20homes_ok hk hw, Option.bind_some, Option.bind_some, Xhi, Xkp, Option.bind_some, Option.bind_some, Option.bind_some]
          by_cases hin : b ∈ homeL h (sumI x.1)
          · rw [if_neg (nb_t hin), if_neg (nb_t hin)]
            exact Xmd k1 k2 hk b z s hz xs (i + 1) _ hd' ha' hkk
          · rw [if_pos (nb_f hin), if_pos (nb_f hin)]
            exact ⟨2, rfl, rfl⟩
      by_cases h0 : 0 < (i : Int)
      · rw [if_pos h0, w64_id (by omega) (by omega), X60 (ByteArray.empty, 0) (by omega) (by omega), Option.bind_some] at ha ⊢
        obtain ⟨o, o1, o2⟩ := Xfv (z.getD ((i : Int) - 1).toNat (ByteArray.empty, 0)) x
        rw [o1, Option.bind_some, Option.bind_some, Option.bind_some] at ha
        by_cases hs2 : sLt (z.getD ((i : Int) - 1).toNat (ByteArray.empty, 0)).1 x.1
        · rw [if_neg (by rw [decide_eq_true_eq, o2]; exact fun h => h hs2)] at ha
          rw [Option.bind_some, decide_eq_false (fun h => h hs2)]
          exact core ha
        · rw [if_pos (by rw [decide_eq_true_eq, o2]; exact hs2)] at ha
          cases ha
      · rw [if_neg h0] at ha ⊢
        exact core ha
    · rw [if_pos (nb_f hv)] at ha
      cases ha
end Go.Proofs.YtmfppphlhgneeaaGreat
end

section
namespace Go.Proofs.YtmfppphlhgneeaaGreat
set_option linter.unusedVariables false
set_option maxRecDepth 100000
theorem Xkq (k2 : List (ByteArray × Bool) → Int → Int → Option Int) {h : Hsh} (hk : HshOK h) (b : Int) (z : List Ent) (s : Int) (hz : z.length ≤ 100000) : ∀ (xs : List Ent) (i : Nat) (v : List (ByteArray × Bool)), z.drop i = xs → Xi z xs i = some false →
    X20 k2 b z h.1 h.2 s xs i v = some 2
  | [], i, v, _, ha => by cases ha
  | x :: xs, i, v, hd, ha => by
    obtain ⟨hi, hd'⟩ := Xfw hd
    rw [Xi] at ha
    unfold X2e at ha
    rw [Xci, Option.bind_some] at ha
    show X4k k2 b z h.1 h.2 s (X20 k2 b z h.1 h.2 s xs (i + 1)) x i v = _
    unfold X4k
    rw [Xbk, Option.bind_some]
    by_cases hv : EntOK x
    · rw [if_neg (nb_t hv)] at ha ⊢
      have hw := hv.1
      have core : ∀ ha' : Xi z xs (i + 1) = some false, ((some false).bind fun u410 => if (u410 = true ∨ ((mget v x.1).getD false) = true) then some 2 else (X35 (h.1, h.2) x.1).bind fun u422 => (X9p u422.1 b).bind fun u436 => if (!u436) = true then some 2 else X20 k2 b z h.1 h.2 s xs (i + 1) (mput v x.1 true)) = some 2 := fun ha' => by
        rw [Option.bind_some]
        by_cases hm : ((mget v x.1).getD false) = true
        · rw [if_pos (.inr hm)]
        · rw [if_neg (fun h => by rcases h with h | h; cases h; exact hm h), show ((h.1, h.2) : Hsh) = h from rfl, r20homes_ok hk hw, Option.bind_some, Xkp, Option.bind_some]
          by_cases hin : b ∈ homeL h (sumI x.1)
          · rw [if_neg (nb_t hin)]
            exact Xkq k2 hk b z s hz xs (i + 1) _ hd' ha'
          · rw [if_pos (nb_f hin)]
      by_cases h0 : 0 < (i : Int)
      · rw [if_pos h0, w64_id (by omega) (by omega), X60 (ByteArray.empty, 0) (by omega) (by omega), Option.bind_some] at ha ⊢
        obtain ⟨o, o1, o2⟩ := Xfv (z.getD ((i : Int) - 1).toNat (ByteArray.empty, 0)) x
        rw [o1, Option.bind_some, Option.bind_some, Option.bind_some] at ha
        by_cases hs2 : sLt (z.getD ((i : Int) - 1).toNat (ByteArray.empty, 0)).1 x.1
        · rw [if_neg (by rw [decide_eq_true_eq, o2]; exact fun h => h hs2)] at ha
          rw [Option.bind_some, decide_eq_false (fun h => h hs2)]
          exact core ha
        · rw [Option.bind_some, decide_eq_true hs2, Option.bind_some, if_pos (.inl rfl)]
      · rw [if_neg h0] at ha ⊢
        exact core ha
    · rw [if_pos (nb_f hv), Option.bind_some, if_pos (.inl rfl)]
theorem Xkr {h : Hsh} (hk : HshOK h) (s : Int) (hs : s ≤ 8) : ∀ (xs : List (List Ent)) (i : Nat) (v : List (ByteArray × Bool)), ∃ e, Xr h.2 xs i v h.1 s = some e ∧ X2d h.2 xs i v h.1 s = some e
  | [], _, _ => ⟨0, rfl, rfl⟩
  | c :: xs, i, v => by
    show ∃ e, X2k h.2 (Xr h.2 xs (i + 1)) c i v h.1 s = _ ∧ X79 h.2 (X2d h.2 xs (i + 1)) c i v h.1 s = _
    unfold X2k X79
    by_cases hl : s < (c.length : Int)
    · rw [if_pos hl, if_pos hl]; exact ⟨2, rfl, rfl⟩
    · rw [if_neg hl, if_neg hl]
      obtain ⟨b, k1, k2, k3⟩ := Xd6 (l := c) (by omega)
      rw [k1, Option.bind_some, Option.bind_some]
      cases b with
      | false => exact ⟨2, rfl, Xkq _ hk _ c s (by omega) c 0 v rfl k1⟩
      | true => exact Xmd _ _ hk (i : Int) c s (by omega) c 0 v rfl k1 fun v => Xkr hk s hs xs (i + 1) v
theorem Xe2 (x : Hsh × Int × List (List Ent)) : ∃ e, X3e x = some e ∧ X9q x = some e ∧ (e = 0 ∨ e = 2 ∨ True) := by
  unfold X3e X9q X1y
  rw [rcheck]
  rcases Xch x.1 with ⟨e, hk⟩ | ⟨e, _⟩
  · rw [e, Option.bind_some, Option.bind_some, if_neg (by decide), Option.bind_some, Option.bind_some]
    by_cases hc : (1 ≤ x.2.1 ∧ x.2.1 ≤ 8) ∧ (x.2.2.length : Int) = x.1.1
    · rw [if_neg (by rw [decide_eq_true hc.1]; simp [hc.2]), if_neg (by omega)]
      obtain ⟨r, h1, h2⟩ := Xkr hk x.2.1 hc.1.2 x.2.2 0 []
      exact ⟨r, h1, h2, .inr (.inr trivial)⟩
    · have h2 : ((((0 : Int) ≠ 0 ∨ x.2.1 < 1) ∨ 8 < x.2.1) ∨ (x.2.2.length : Int) ≠ x.1.1) := by omega
      rw [if_pos h2]
      by_cases h1 : 1 ≤ x.2.1 ∧ x.2.1 ≤ 8
      · rw [if_pos (.inr (by omega))]; exact ⟨2, rfl, rfl, .inr (.inr trivial)⟩
      · rw [if_pos (.inl (nb_f h1))]; exact ⟨2, rfl, rfl, .inr (.inr trivial)⟩
  · rw [e]
    exact ⟨2, rfl, by rw [Option.bind_some, if_pos (.inl (.inl (.inl (by decide))))], .inr (.inr trivial)⟩
end Go.Proofs.YtmfppphlhgneeaaGreat
end

section
namespace Go.Proofs.YtmfppphlhgneeaaGreat
set_option linter.unusedVariables false
set_option maxRecDepth 100000
theorem Xol (z : Int) (hz : 2 ≤ z ∧ z ≤ 65521) : ∀ (m fuel : Nat) (v : Int), 2 ≤ v → v + m = 257 → m < fuel →
    ∃ b : Bool, X6q X5a z fuel v = some (if b = true then (z, true) else (0, false)) ∧ X5v z fuel v = some (if b = true then 0 else 9)
  | m, 0, _, _, _, h => by omega
  | m, fuel + 1, v, h1, h2, h3 => by
    rw [X6q, X5v]
    unfold X95 X8o
    have hv : v ≤ 257 := by omega
    have hvv : 0 ≤ v * v ∧ v * v ≤ 66049 := ⟨Int.mul_nonneg (by omega) (by omega), Int.le_trans (Int.mul_le_mul hv hv (by omega) (by omega)) (by decide)⟩
    rw [w64_id (x := v * v) (by omega) (by omega)]
    by_cases hc : v * v ≤ z
    · rw [if_pos hc, if_pos hc, Xmv (by omega), Option.bind_some, Option.bind_some]
      by_cases hd : Int.tmod z v = 0
      · rw [if_pos hd, if_pos hd]; exact ⟨false, rfl, rfl⟩
      · rw [if_neg hd, if_neg hd, w64_id (by omega) (by omega)]
        cases m with
        | zero =>
          have : v = 257 := by omega
          subst this
          omega
        | succ m => exact Xol z hz m fuel (v + 1) (by omega) (by omega) (by omega)
    · rw [if_neg hc, if_neg hc]; exact ⟨true, rfl, rfl⟩
theorem Xom (f : Int) : ∃ b : Bool, X6r f = some (if b = true then (f, true) else (0, false)) ∧ X4l f = some (if b = true then 0 else 9) := by
  unfold X6r X4l
  by_cases h : f < 2 ∨ 65521 < f
  · rw [if_pos h, if_pos h]; exact ⟨false, rfl, rfl⟩
  · rw [if_neg h, if_neg h]
    exact Xol f (by omega) 255 big 2 (by omega) (by omega) (by simp only [big]; omega)
theorem Xks {f : Int} {b : Bool} (h : X6r f = some (if b = true then (f, true) else (0, false))) : X9j f = some (if b = true then 0 else 9) := by
  unfold X9j
  rw [h, Option.bind_some]
  cases b <;> rfl
def encs (c : List Ent) : Prop := ∃ t, X2q 1 c = some (t, 0) ∧ X2l 1 c = some (t, 0) ∧ rowI c = toB t ∧ t.size = 37
theorem Xh5 : ∀ l : List Ent, (∀ x ∈ l, EntOK x) → ((l.map encI).flatten).length = 37 * l.length
  | [], _ => rfl
  | x :: l, h => by
    rw [List.map_cons, List.flatten_cons, List.length_append, Xh5 l (fun y hy => h y (List.mem_cons_of_mem _ hy)), Xb1 (h x List.mem_cons_self).1, List.length_cons]
    omega
theorem Xkt {c : List Ent} (hl : (c.length : Int) ≤ 1) (ha : X18 c = some true) : encs c := by
  obtain ⟨t, h1, h2⟩ := Xok (n := 1) (by omega) hl ha
  obtain ⟨k1, k2, k3⟩ := Xi8 (n := 1) (by omega) (l := c) (by omega) h2
  have hs : t.size = 37 := by
    rw [k3]
    show (List.toArray _).size = _
    rw [List.size_toArray, List.length_map, List.length_append, Xh5 c k2, List.length_replicate]
    omega
  refine ⟨t, h1, h2, ?_, hs⟩
  unfold rowI tobs
  rw [h1, Option.bind_some, if_pos (by dsimp only; omega)]
  rfl
theorem Xg0 {c : List Ent} (h : encs c) : (rowI c).length = 37 ∧ ∀ x ∈ rowI c, 0 ≤ x ∧ x < 256 := by
  obtain ⟨t, _, _, h3, h4⟩ := h
  rw [h3]
  exact ⟨by rw [Xc8, h4], fun x hx => Xk6 hx⟩
theorem Xku (kx : List (List Int) → Int → Int → Int → Int → Int → Int → Option TR) (a b c d f : Int) : ∀ (xs : List (List Ent)) (acc : List (List Int)), (∀ x ∈ xs, encs x) → acc.length + xs.length ≤ 1000 →
    X1a kx xs acc a b c d 1 f = kx (acc ++ xs.map rowI) a b c d 1 f
  | [], acc, _, _ => by simp [X1a]
  | x :: xs, acc, h, hl => by
    show X67 kx (X1a kx xs) x acc a b c d 1 f = _
    unfold X67
    simp only [List.length_cons] at hl
    obtain ⟨t, t1, t2, t3, t4⟩ := h x List.mem_cons_self
    obtain ⟨g1, g2⟩ := Xg0 (h x List.mem_cons_self)
    rw [t1, Option.bind_some]
    dsimp only
    have e : tobs t = some (rowI x) := by unfold tobs; rw [if_pos (by omega), t3]
    rw [if_neg (by decide), e, Option.bind_some, Xm7 _ _ _ _ _ _ _ _ _ g2 (by simp; omega)]
    unfold X3t
    rw [List.nil_append, Xs (by simp; omega), Option.bind_some, Xku kx a b c d f xs _ (fun y hy => h y (List.mem_cons_of_mem _ hy)) (by simp; omega)]
    simp
theorem Xon {t : ByteArray} {k : Nat} {x : Int} {m : List Int} (h : (toB t).drop k = x :: m) : sidx t (k : Int) = some x ∧ k < t.size := by
  obtain ⟨h1, h2, _⟩ := at_d h
  rw [Xc8] at h1
  unfold toB at h2
  rw [List.getElem?_map] at h2
  unfold sidx
  rw [if_pos (by omega), Int.toNat_natCast, List.getD_eq_getElem?_getD]
  refine ⟨?_, h1⟩
  cases hc : t.data.toList[k]? with
  | none => rw [hc] at h2; cases h2
  | some c => rw [hc] at h2; exact h2
theorem Xkv (kx : List Int → Int → Int → Int → Int → Int → Int → Option TR) {t : ByteArray} (ht : t.size = 37) (a b c d e f : Int) : ∀ (m : List Int) (k fuel : Nat) (v : List Int), (toB t).drop k = m → m.length < fuel → v.length = k → k ≤ 37 →
    X4n kx t a b c d e f fuel v (k : Int) = kx (v ++ m) a b c d e f
  | [], k, fuel, v, hd, hf, hv, hk => by
    obtain ⟨g, rfl⟩ : ∃ g, fuel = g + 1 := ⟨fuel - 1, by simp at hf; omega⟩
    have h1 : (toB t).length ≤ k := List.drop_eq_nil_iff.1 hd
    rw [Xc8] at h1
    rw [X4n]
    unfold X7b
    rw [if_neg (by omega), List.append_nil]
  | x :: m, k, fuel, v, hd, hf, hv, hk => by
    obtain ⟨g, rfl⟩ : ∃ g, fuel = g + 1 := ⟨fuel - 1, by simp at hf; omega⟩
    obtain ⟨h1, h2⟩ := Xon hd
    have hx := Xk6 (s := t) (x := x) (List.mem_of_mem_drop (i := k) (by rw [hd]; exact List.mem_cons_self))
    rw [X4n]
    unfold X7b
    rw [if_pos (by omega), h1, Option.bind_some, w64_id (x := x) (by omega) (by omega), Xs (by simp; omega), Option.bind_some, w64_id (by omega) (by omega)]
    have := Xkv kx ht a b c d e f m (k + 1) g (v ++ [x]) (by rw [← List.drop_drop, hd]; rfl) (by simp at hf; omega) (by simp; omega) (by omega)
    rw [show ((k + 1 : Nat) : Int) = (k : Int) + 1 by omega] at this
    rw [this]
    simp
theorem Xg1 (kx : List (List Int) → Int → Int → Int → Int → Int → Int → Option TR) {E : List (List Ent)} (hE : E.length ≤ 1000) (a b c d f : Int) : ∀ (xs : List (List Ent)) (i fuel : Nat) (acc : List (List Int)), E.drop i = xs → xs.length < fuel → acc.length = i → i ≤ E.length → (∀ x ∈ xs, encs x) →
    X1o kx E fuel acc (i : Int) a b c d 1 f = kx (acc ++ xs.map rowI) a b c d 1 f
  | [], i, fuel, acc, hd, hf, ha, hi, _ => by
    obtain ⟨g, rfl⟩ : ∃ g, fuel = g + 1 := ⟨fuel - 1, by simp at hf; omega⟩
    have h1 : E.length ≤ i := List.drop_eq_nil_iff.1 hd
    rw [X1o]
    unfold X7c
    rw [if_neg (by omega)]
    simp
  | x :: xs, i, fuel, acc, hd, hf, ha, hi, h => by
    obtain ⟨g, rfl⟩ : ∃ g, fuel = g + 1 := ⟨fuel - 1, by simp at hf; omega⟩
    obtain ⟨h1, h2, h3⟩ := at_d hd
    obtain ⟨t, t1, t2, t3, t4⟩ := h x List.mem_cons_self
    rw [X1o]
    unfold X7c
    have hl : (toB t).length = 37 := by rw [Xc8, t4]
    have e := Xkv (X3o (X1o kx E g) (i : Int) acc) t4 a b c d 1 f (toB t) 0 big [] rfl (by rw [hl]; simp only [big]; omega) rfl (by omega)
    rw [if_pos (by omega), Xa4 (by omega) (by rw [Int.toNat_natCast]; exact h2), Option.bind_some, t2, Option.bind_some]
    rw [show ((0 : Nat) : Int) = 0 from rfl] at e
    rw [e]
    unfold X3o
    rw [List.nil_append, Xs (by simp; omega), Option.bind_some, w64_id (by omega) (by omega)]
    have := Xg1 kx hE a b c d f xs (i + 1) g (acc ++ [toB t]) h3 (by simp at hf; omega) (by simp; omega) (by omega) (fun y hy => h y (List.mem_cons_of_mem _ hy))
    rw [show ((i + 1 : Nat) : Int) = (i : Int) + 1 by omega] at this
    rw [this, List.map_cons, t3]
    simp
theorem Xme {f : Int} (hf : 257 ≤ f) : ∀ xs : List (List Int), (∀ r ∈ xs, r.length = 37 ∧ ∀ x ∈ r, 0 ≤ x ∧ x < 256) → X4e f 37 xs = some 0
  | [], _ => rfl
  | r :: xs, h => by
    show X6z f 37 (X4e f 37 xs) r = _
    unfold X6z
    obtain ⟨h1, h2⟩ := h r List.mem_cons_self
    have e : X4v f r = some true := by
      unfold X4v X12 X27
      rw [Xog _ r 0 (fun x hx => by
        have := h2 x hx
        unfold X4r X6s
        rw [Option.bind_some, decide_eq_true (by omega)]; rfl)]
      rfl
    rw [if_neg (by omega), e, Option.bind_some, if_neg (by decide)]
    exact Xme hf xs fun y hy => h y (List.mem_cons_of_mem _ hy)
theorem Xoo {f : Int} (hf : 257 ≤ f) : ∀ l : List Int, (∀ x ∈ l, 0 ≤ x ∧ x < 256) → X7j f l = some true
  | [], _ => rfl
  | x :: l, h => by
    show X9r f (X7j f l) x = _
    unfold X9r
    have := h x List.mem_cons_self
    rw [if_neg (by omega)]
    exact Xoo hf l fun y hy => h y (List.mem_cons_of_mem _ hy)
theorem Xkw {f : Int} (hf : 257 ≤ f) (hc : X4l f = some 0) : ∀ xs : List (List Int), (∀ r ∈ xs, r.length = 37 ∧ ∀ x ∈ r, 0 ≤ x ∧ x < 256) → X4m f 37 xs = some 0
  | [], _ => rfl
  | r :: xs, h => by
    show X7a f 37 (X4m f 37 xs) r = _
    unfold X7a Xd1
    obtain ⟨h1, h2⟩ := h r List.mem_cons_self
    rw [if_neg (by omega), hc, Option.bind_some, if_neg (by decide), Xoo hf r h2, Option.bind_some, if_neg (by decide)]
    exact Xkw hf hc xs fun y hy => h y (List.mem_cons_of_mem _ hy)
theorem Xif : ∀ (xs acc : List (List Int)), (∀ r ∈ xs, r.length ≤ 1000) → acc.length + xs.length ≤ 1000 → X48 xs acc = some (acc ++ xs)
  | [], acc, _, _ => by simp [X48]
  | r :: xs, acc, h, hl => by
    show X7y (X48 xs) r acc = _
    unfold X7y
    simp only [List.length_cons] at hl
    have := h r List.mem_cons_self
    rw [Xs (by simp; omega), Option.bind_some, Xs (by simp; omega), Option.bind_some, List.nil_append, Xif xs _ (fun y hy => h y (List.mem_cons_of_mem _ hy)) (by simp; omega)]
    simp
theorem Xig {f : Int} (hf : 257 ≤ f) (h1 : X6r f = some (f, true)) (h2 : X4l f = some 0) (n : Int) {xs : List (List Int)} (hl : xs.length ≤ 1000) (h : ∀ r ∈ xs, r.length = 37 ∧ ∀ x ∈ r, 0 ≤ x ∧ x < 256) :
    ∃ r : TR, Xbe n f 37 xs = some r ∧ Xbf n f 37 xs = some r ∧ (r = ((n, f, 37, xs), 0) ∨ (r = ((0, 0, 0, []), 1) ∧ ¬ (1 ≤ n ∧ n < 2147483647))) := by
  have hn : ∀ e : Int, (e ≠ 0 → True) := fun _ _ => trivial
  unfold Xbe Xbf Xao Xaq
  dsimp only
  rw [h1, Option.bind_some]
  by_cases c : n < 1 ∨ 2147483647 ≤ n
  · rw [if_pos c, if_pos c, Option.bind_some, Option.bind_some, if_pos (by decide), if_pos (by decide)]
    exact ⟨_, rfl, rfl, .inr ⟨rfl, by omega⟩⟩
  · rw [if_neg c, if_neg c, if_neg (by simp), if_neg (by decide), if_neg (by omega), h2, Option.bind_some, if_neg (by decide), if_neg (by decide), if_neg (by omega), Xme hf _ h, Xkw hf h2 _ h, Option.bind_some, Option.bind_some, if_neg (by decide), if_neg (by decide),
      Xi3 _ _ _ _ _ _ (fun r hr => by have := (h r hr).1; omega) (by simp; omega)]
    unfold X65 Xbn
    rw [Xif _ _ (fun r hr => by have := (h r hr).1; omega) (by simp; omega), Option.bind_some, List.nil_append]
    exact ⟨_, rfl, rfl, .inl rfl⟩
theorem Xex (n f : Int) (x : Hsh × Int × List (List Ent)) (hE : x.2.2.length ≤ 1000) :
    ∃ r : TR, X68 n f x = some r ∧ X5c n f x = some r ∧ r.1.2.2.2.length ≤ 1000 ∧ ∀ y ∈ r.1.2.2.2, y.length ≤ 1000 := by
  obtain ⟨e, k1, k2, _⟩ := Xe2 x
  unfold X68 X5c
  rw [k1, k2, Option.bind_some, Option.bind_some]
  by_cases he : e ≠ 0
  · rw [if_pos he, if_pos he]; exact ⟨_, rfl, rfl, by simp, by simp⟩
  · rw [if_neg he, if_neg he]
    have he : e = 0 := Classical.not_not.1 he
    subst he
    obtain ⟨hs, hc⟩ := Xew k1
    obtain ⟨b, f1, f2⟩ := Xom f
    rw [Xks f1, f2, Option.bind_some, Option.bind_some]
    by_cases hf : b = true ∧ 257 ≤ f
    · obtain ⟨rfl, hf⟩ := hf
      rw [if_pos rfl] at f1 f2
      rw [if_pos rfl, if_neg (by omega), if_neg (by omega)]
      unfold X46 X3z
      rw [Option.bind_some, Option.bind_some, w64_id (x := x.2.1 * 37) (by omega) (by omega)]
      by_cases h2 : 64 < x.2.1 * 37
      · rw [if_pos h2, if_pos h2]; exact ⟨_, rfl, rfl, by simp, by simp⟩
      · rw [if_neg h2, if_neg h2]
        have h1 : x.2.1 = 1 := by omega
        have hen : ∀ c ∈ x.2.2, encs c := fun c hm => by
          obtain ⟨g1, g2⟩ := hc c hm
          exact Xkt (by omega) g2
        rw [h1, Xku _ _ _ _ _ _ x.2.2 [] hen (by simp; omega)]
        have r4 := Xg1 (X15 n) hE 0 0 0 x.1.1 f x.2.2 0 big [] rfl (by simp only [big]; omega) rfl (by omega) hen
        rw [show ((0 : Nat) : Int) = 0 from rfl] at r4
        rw [r4, List.nil_append]
        have hr : ∀ r ∈ x.2.2.map rowI, r.length = 37 ∧ ∀ x ∈ r, 0 ≤ x ∧ x < 256 := fun r hm => by
          obtain ⟨c, hm2, rfl⟩ := List.mem_map.1 hm
          exact Xg0 (hen c hm2)
        obtain ⟨r, g1, g2, g3⟩ := Xig hf f1 f2 n (xs := x.2.2.map rowI) (by rw [List.length_map]; exact hE) hr
        unfold X1h X15 X46 X3z
        rw [Option.bind_some, Option.bind_some, show w64 (1 * 37) = 37 from rfl, g1, g2, Option.bind_some]
        refine ⟨_, rfl, rfl, ?_, ?_⟩
        · rcases g3 with rfl | ⟨rfl, _⟩
          · dsimp only; rw [List.length_map]; exact hE
          · simp
        · rcases g3 with rfl | ⟨rfl, _⟩
          · dsimp only; intro y hy; have := (hr y hy).1; omega
          · simp
    · have c1 : ((if b = true then (0 : Int) else 9) ≠ 0 ∨ f ≤ 256) := by
        cases b with
        | true => right; have : ¬ 257 ≤ f := fun h => hf ⟨rfl, h⟩; omega
        | false => left; decide
      have c2 : ((if b = true then (0 : Int) else 9) ≠ 0 ∨ f < 257) := by rcases c1 with h | h; exact .inl h; exact .inr (by omega)
      rw [if_pos c1, if_pos c2]; exact ⟨_, rfl, rfl, by simp, by simp⟩
theorem Xkx (l : List Int) : ∀ (xs : List Int) (i : Nat), l.drop i = xs → X5d l xs i = some true
  | [], _, _ => rfl
  | x :: xs, i, h => by
    obtain ⟨h1, h2, h3⟩ := at_d h
    show X7z l (X5d l xs (i + 1)) x i = _
    unfold X7z
    rw [Xa4 (by omega) (by rw [Int.toNat_natCast]; exact h2), Option.bind_some, if_neg (by simp)]
    exact Xkx l xs (i + 1) h3
theorem Xky (l : List Int) : Xae l l = some true := by
  unfold Xae
  rw [if_neg (by simp)]
  exact Xkx l l 0 rfl
theorem Xih (l : List (List Int)) : ∀ (xs : List (List Int)) (i : Nat), l.drop i = xs → X2o l xs i = some true
  | [], _, _ => rfl
  | x :: xs, i, h => by
    obtain ⟨h1, h2, h3⟩ := at_d h
    show X51 l (X2o l xs (i + 1)) x i = _
    unfold X51
    rw [Xa4 (by omega) (by rw [Int.toNat_natCast]; exact h2), Option.bind_some, Xky, Option.bind_some, if_neg (by simp)]
    exact Xih l xs (i + 1) h3
theorem Xey (t : Int × Int × Int × List (List Int)) : X9c t t = some true := by
  unfold X9c X8p
  rw [if_pos ⟨⟨rfl, rfl⟩, rfl⟩, if_neg (by simp), Xih t.2.2.2 t.2.2.2 0 rfl]
  rfl
end Go.Proofs.YtmfppphlhgneeaaGreat
end

section
namespace Go.Proofs.YtmfppphlhgneeaaGreat
set_option linter.unusedVariables false
set_option maxRecDepth 100000
abbrev PR := Bool × List (List Int) × List Bool
structure InOK (B n : Int) (inn : List (List Int)) : Prop where
  len : (inn.length : Int) = B
  el : ∀ l ∈ inn, l.length ≤ 2 ∧ ∀ x ∈ l, 0 ≤ x ∧ x < n
def Grw (a c : List (List Int)) : Prop := ∀ b : Int, 0 ≤ b → (at' [] a b).length ≤ (at' [] c b).length
theorem InOK.set {B n : Int} {inn : List (List Int)} (h : InOK B n inn) {b : Int} {l : List Int} (hl : l.length ≤ 2) (he : ∀ x ∈ l, 0 ≤ x ∧ x < n) : InOK B n (inn.set b.toNat l) :=
  ⟨by simpa using h.len, fun y hy => by
    rcases List.mem_or_eq_of_mem_set hy with h2 | rfl
    · exact h.el y h2
    · exact ⟨hl, he⟩⟩
theorem Grw.set {a c : List (List Int)} (h : Grw a c) {b : Int} (b0 : 0 ≤ b) (b1 : b < c.length) {l : List Int} (hl : (at' [] c b).length ≤ l.length) : Grw a (c.set b.toNat l) := fun d d0 => by
  have := h d d0
  rw [X43 [] b0 b1 d0]
  split
  · rename_i e; subst e; omega
  · exact this
def Sup (B : Int) (t t' : List Bool) : Prop := (t'.length : Int) = B ∧ ∀ b, 0 ≤ b → b < B → at' false t b = true → at' false t' b = true
theorem Sup.trans {B : Int} {a b c : List Bool} (h : Sup B a b) (k : Sup B b c) : Sup B a c := ⟨k.1, fun x x0 x1 hx => k.2 x x0 x1 (h.2 x x0 x1 hx)⟩
theorem Sup.set {B : Int} {t : List Bool} (h : (t.length : Int) = B) {b : Int} (b0 : 0 ≤ b) (b1 : b < B) : Sup B t (t.set b.toNat true) :=
  ⟨by simpa using h, fun x x0 x1 hx => by rw [X43 false b0 (by omega) x0]; split; rfl; exact hx⟩
theorem Sup.count {B : Int} {t t' : List Bool} (hl : (t.length : Int) = B) (h : Sup B t t') : t'.count false ≤ t.count false :=
  Xc7 (by have := h.1; omega) fun b b0 b1 hb => h.2 b b0 (by omega) hb
def POK (B n : Int) (inn : List (List Int)) (t : List Bool) (o : Option PR) : Prop := ∃ r inn' t', o = some (r, inn', t') ∧ InOK B n inn' ∧ Grw inn inn' ∧ Sup B t t'
theorem POK.sup {B n : Int} {inn : List (List Int)} {t t1 : List Bool} {o : Option PR} (h : POK B n inn t1 o) (k : Sup B t t1) : POK B n inn t o := by
  obtain ⟨r, i, s, h1, h2, h3, h4⟩ := h
  exact ⟨r, i, s, h1, h2, h3, k.trans h4⟩
section
variable {B : Int} {homes : List (List Int)} {used : List Int}
theorem Xmf {m : Nat} {inn : List (List Int)} (hin : InOK B homes.length inn) {b item : Int} (hb : 0 ≤ b ∧ b < B) (hit : 0 ≤ item ∧ item < homes.length) {t : List Bool} (ht : (t.length : Int) = B) (hc : t.count false < m)
    (ih : ∀ (i : Int) (inn : List (List Int)) (t : List Bool), 0 ≤ i → i < homes.length → InOK B homes.length inn → (t.length : Int) = B → t.count false < m → POK B homes.length inn t (Xb m homes inn used 2 i t))
    (rec : List Bool → Option PR) (hrec : ∀ t', Sup B t t' → POK B homes.length inn t' (rec t')) :
    ∀ (xs : List Int) (k : Nat) (t' : List Bool), (at' [] inn b).drop k = xs → Sup B t t' → POK B homes.length inn t' (X2c rec (Xb m) homes used 2 item b inn xs k t')
  | [], k, t', _, hs => hrec t' hs
  | x :: xs, k, t', hd, hs => by
    have hk : k < (at' [] inn b).length := by
      rcases Nat.lt_or_ge k (at' [] inn b).length with h | h
      · exact h
      · rw [List.drop_eq_nil_of_le h] at hd; cases hd
    have hl := hin.len
    have hx := (hin.el _ (X7i [] hb.1 (by omega))).2 x (List.mem_of_mem_drop (i := k) (by rw [hd]; exact List.mem_cons_self))
    have hct := hs.count ht
    obtain ⟨r, inn1, t1, e, i1, g1, s1⟩ := ih x inn t' hx.1 hx.2 hin hs.1 (by omega)
    rw [X2c]
    unfold X71
    rw [e, Option.bind_some]
    dsimp only
    cases r with
    | true =>
      have h1l := i1.len
      have hg := g1 b hb.1
      obtain ⟨q1, q2⟩ := i1.el _ (X7i [] hb.1 (show b < (inn1.length : Int) by omega))
      rw [if_pos rfl, X54 [] hb.1 (by omega), Option.bind_some, X26 0 (by omega), Option.bind_some, X1s (by omega) (by omega), Option.bind_some, X1s hb.1 (by omega), Option.bind_some]
      exact ⟨_, _, _, rfl, i1.set (by simpa using q1) (fun y hy => by
        rcases List.mem_or_eq_of_mem_set hy with h2 | rfl
        · exact q2 y h2
        · exact hit), g1.set hb.1 (by omega) (by simp), s1⟩
    | false =>
      rw [if_neg (by decide)]
      exact (Xmf hin hb hit ht hc ih rec hrec xs (k + 1) t1 (by rw [← List.drop_drop, hd]; rfl) (hs.trans s1)).sup s1
theorem Xmg (hh : HomesOK B homes) (hu : (used.length : Int) = B ∧ ∀ b, 0 ≤ b → b < B → 0 ≤ at' 0 used b ∧ at' 0 used b ≤ 2) {m : Nat} {inn : List (List Int)} (hin : InOK B homes.length inn) {item : Int} (hit : 0 ≤ item ∧ item < homes.length)
    (ih : ∀ (i : Int) (inn : List (List Int)) (t : List Bool), 0 ≤ i → i < homes.length → InOK B homes.length inn → (t.length : Int) = B → t.count false < m → POK B homes.length inn t (Xb m homes inn used 2 i t)) :
    ∀ (hs : List Int) (t : List Bool), (∀ b ∈ hs, 0 ≤ b ∧ b < B) → (t.length : Int) = B → t.count false < m + 1 → POK B homes.length inn t (X1n (Xb m) homes used 2 item inn hs t)
  | [], t, _, ht, _ => ⟨_, _, _, rfl, hin, fun _ _ => Nat.le_refl _, ht, fun _ _ _ h => h⟩
  | b :: hs, t, hr, ht, hc => by
    obtain ⟨b0, b1⟩ := hr b List.mem_cons_self
    have hl := hin.len
    have hul := hu.1
    obtain ⟨u0, u1⟩ := hu.2 b b0 b1
    have ihs := fun t => Xmg hh hu hin hit ih hs t (fun c h => hr c (List.mem_cons_of_mem _ h))
    rw [X1n]
    unfold X72
    rw [X54 false b0 (by omega), Option.bind_some]
    by_cases hs1 : at' false t b = true
    · rw [if_pos hs1]
      exact ihs t ht hc
    · rw [if_neg hs1, Option.bind_some, X1s b0 (by omega), Option.bind_some, X54 0 b0 (by omega), Option.bind_some, X54 [] b0 (by omega), Option.bind_some]
      obtain ⟨q1, q2⟩ := hin.el _ (X7i [] b0 (show b < (inn.length : Int) by omega))
      have hsup := Sup.set ht b0 b1
      have hcnt := X8s (l := t) b0 (by omega) (by simpa using hs1)
      rw [w64_id (by omega) (by omega)]
      by_cases hlt : ((at' [] inn b).length : Int) + at' 0 used b < 2
      · rw [if_pos hlt, Option.bind_some, Xs (by simp; omega), Option.bind_some, Option.bind_some, X1s b0 (by omega), Option.bind_some]
        exact ⟨_, _, _, rfl, hin.set (by simp; omega) (fun y hy => by
          rcases List.mem_append.1 hy with h | h
          · exact q2 y h
          · rw [List.mem_singleton.1 h]; exact hit), Grw.set (fun _ _ => Nat.le_refl _) b0 (by omega) (by simp), hsup⟩
      · rw [if_neg hlt, Option.bind_some]
        exact (Xmf hin ⟨b0, b1⟩ hit hsup.1 (by omega) ih _ (fun t' h => ihs t' h.1 (by have := h.count hsup.1; omega)) _ 0 _ rfl ⟨hsup.1, fun _ _ _ h => h⟩).sup hsup
theorem Xop (hh : HomesOK B homes) (hu : (used.length : Int) = B ∧ ∀ b, 0 ≤ b → b < B → 0 ≤ at' 0 used b ∧ at' 0 used b ≤ 2) : ∀ (m : Nat) (i : Int) (inn : List (List Int)) (t : List Bool), 0 ≤ i → i < homes.length → InOK B homes.length inn → (t.length : Int) = B → t.count false < m → POK B homes.length inn t (Xb m homes inn used 2 i t)
  | 0, _, _, _, _, _, _, _, h => by omega
  | m + 1, i, inn, t, i0, i1, hin, ht, hc => by
    rw [Xb]
    unfold X8i
    rw [X54 [] i0 i1, Option.bind_some]
    exact Xmg hh hu hin ⟨i0, i1⟩ (Xop hh hu m) _ t (hh _ (X7i [] i0 i1)) ht hc
theorem Xmh (hh : HomesOK B homes) (hB : 0 ≤ B ∧ B ≤ 1000) (hu : (used.length : Int) = B ∧ ∀ b, 0 ≤ b → b < B → 0 ≤ at' 0 used b ∧ at' 0 used b ≤ 2) : ∀ (xs : List (List Int)) (n : Nat) (inn : List (List Int)), n + xs.length = homes.length → InOK B homes.length inn → ∃ r, X1q homes B 2 used xs n inn = some r
  | [], n, inn, _, _ => ⟨true, rfl⟩
  | x :: xs, n, inn, hn, hin => by
    simp only [List.length_cons] at hn
    rw [X1q]
    unfold X4w X9l
    rw [Xbi hB.1 (by omega), Option.bind_some]
    have hcnt : (List.replicate B.toNat false).count false < big := by
      have := List.count_le_length (a := false) (l := List.replicate B.toNat false)
      rw [List.length_replicate] at this
      simp only [big]; omega
    obtain ⟨r, inn1, t1, e, i1, g1, s1⟩ := Xop hh hu big (n : Int) inn (List.replicate B.toNat false) (by omega) (by omega) hin (by simp; omega) hcnt
    rw [e, Option.bind_some]
    dsimp only
    cases r with
    | true => rw [if_pos rfl]; exact Xmh hh hB hu xs (n + 1) inn1 (by omega) i1
    | false => rw [if_neg (by decide)]; exact ⟨_, rfl⟩
end
theorem Xoq {B : Int} {homes : List (List Int)} {used : List Int} (hh : HomesOK B homes) (hB : 0 ≤ B ∧ B ≤ 1000) (hu : (used.length : Int) = B ∧ ∀ b, 0 ≤ b → b < B → 0 ≤ at' 0 used b ∧ at' 0 used b ≤ 2) : ∃ r, X3g homes B 2 used = some r := by
  unfold X3g
  rw [Xbi hB.1 (by omega), Option.bind_some]
  exact Xmh hh hB hu homes 0 _ (by simp) ⟨by simp; omega, fun l hl => by rw [(List.mem_replicate.1 hl).2]; simp⟩
abbrev FR := List Int × Bool
def FOK (B : Int) (N : Nat) (o : Option FR) : Prop := ∃ bs ok, o = some (bs, ok) ∧ bs.length ≤ N ∧ ∀ b ∈ bs, 0 ≤ b ∧ b < B
abbrev UsOK (B : Int) (used : List Int) : Prop := (used.length : Int) = B ∧ ∀ b, 0 ≤ b → b < B → 0 ≤ at' 0 used b ∧ at' 0 used b ≤ 2
theorem UsOK.set {B : Int} {used : List Int} (h : UsOK B used) {b v : Int} (b0 : 0 ≤ b) (b1 : b < B) (hv : 0 ≤ v ∧ v ≤ 2) : UsOK B (used.set b.toNat v) :=
  ⟨by simpa using h.1, fun c c0 c1 => by rw [X43 0 b0 (by have := h.1; omega) c0]; split; exact hv; exact h.2 c c0 c1⟩
theorem Xmi {B : Int} {homes : List (List Int)} (hh : HomesOK B homes) (hB : 0 ≤ B ∧ B ≤ 1000) (hn : homes.length ≤ 1000) {i : Nat} (hi : i < homes.length) (rec : List Int → List Int → Option FR) {out : List Int} (ho : out.length ≤ i)
    (hrec : ∀ out' used', out'.length ≤ i + 1 → (∀ b ∈ out', 0 ≤ b ∧ b < B) → UsOK B used' → FOK B homes.length (rec out' used')) (hoe : ∀ b ∈ out, 0 ≤ b ∧ b < B) :
    ∀ (hs : List Int) (used : List Int), (∀ b ∈ hs, 0 ≤ b ∧ b < B) → UsOK B used → FOK B homes.length (Xx rec (i : Int) homes B 2 out hs used)
  | [], used, _, hu => hrec out used (by omega) hoe hu
  | b :: hs, used, hr, hu => by
    obtain ⟨b0, b1⟩ := hr b List.mem_cons_self
    have hul := hu.1
    obtain ⟨u0, u1⟩ := hu.2 b b0 b1
    have ihs := fun used hu => Xmi hh hB hn hi rec ho hrec hoe hs used (fun c h => hr c (List.mem_cons_of_mem _ h)) hu
    rw [Xx]
    unfold X5u
    rw [X54 0 b0 (by omega), Option.bind_some]
    by_cases h2 : at' 0 used b = 2
    · rw [if_pos h2]; exact ihs used hu
    · rw [if_neg h2, Option.bind_some, Option.bind_some, w64_id (x := at' 0 used b + 1) (by omega) (by omega), X1s b0 (by omega), Option.bind_some]
      have hu2 := hu.set b0 b1 (v := at' 0 used b + 1) (by omega)
      have hsub : lsub homes (w64 ((i : Int) + 1)) (homes.length : Int) = some (homes.drop (i + 1)) := by
        rw [w64_id (by omega) (by omega), Xa9 (by omega) (by omega) (by omega)]
        congr 1
        rw [show ((i : Int) + 1).toNat = i + 1 from by omega, show ((homes.length : Int) - ((i : Int) + 1)).toNat = homes.length - (i + 1) from by omega]
        exact List.take_of_length_le (by simp)
      obtain ⟨r, e⟩ := Xoq (homes := homes.drop (i + 1)) (fun l hl => hh l (List.mem_of_mem_drop hl)) hB hu2
      rw [hsub, Option.bind_some, e, Option.bind_some]
      cases r with
      | true =>
        rw [if_pos rfl, Xs (by simp; omega), Option.bind_some]
        exact hrec _ _ (by simp; omega) (fun c hc => by
          rcases List.mem_append.1 hc with h | h
          · exact hoe c h
          · rw [List.mem_singleton.1 h]; exact ⟨b0, b1⟩) hu2
      | false =>
        rw [if_neg (by decide), X54 0 b0 (by simpa using (show b < (used.length : Int) by omega)), Option.bind_some, Option.bind_some, X43 0 b0 (by omega) b0, if_pos rfl, w64_id (by omega) (by omega), X1s b0 (by simp; omega), Option.bind_some]
        exact ihs _ (hu2.set b0 b1 (by omega))
theorem Xmj {B : Int} {homes : List (List Int)} (hh : HomesOK B homes) (hB : 0 ≤ B ∧ B ≤ 1000) (hn : homes.length ≤ 1000) : ∀ (hs : List (List Int)) (i : Nat) (out used : List Int), homes.drop i = hs → i ≤ homes.length → out.length ≤ i → (∀ b ∈ out, 0 ≤ b ∧ b < B) → UsOK B used → FOK B homes.length (X14 homes B 2 hs i out used)
  | [], i, out, used, _, hi, ho, he, _ => ⟨out, true, rfl, by omega, he⟩
  | x :: hs, i, out, used, hd, hi, ho, he, hu => by
    have hlt : i < homes.length := by
      rcases Nat.lt_or_ge i homes.length with h | h
      · exact h
      · rw [List.drop_eq_nil_of_le h] at hd; cases hd
    rw [X14]
    unfold X73
    exact Xmi hh hB hn hlt _ ho (fun out' used' h1 h2 h3 => Xmj hh hB hn hs (i + 1) out' used' (by rw [← List.drop_drop, hd]; rfl) hlt h1 h2 h3) he x used (hh x (List.mem_of_mem_drop (i := i) (by rw [hd]; exact List.mem_cons_self))) hu
theorem Xoz {B : Int} {homes : List (List Int)} (hh : HomesOK B homes) (hB : 0 ≤ B ∧ B ≤ 1000) (hn : homes.length ≤ 1000) : FOK B homes.length (X6c homes B 2) := by
  unfold X6c
  rw [Xbi hB.1 (by omega), Option.bind_some]
  have hu : UsOK B (List.replicate B.toNat 0) := ⟨by simp; omega, fun b b0 b1 => by rw [Xeu _ _ b0 (by omega)]; omega⟩
  obtain ⟨r, e⟩ := Xoq hh hB hu
  rw [e, Option.bind_some]
  cases r with
  | true => rw [if_neg (by decide)]; exact Xmj hh hB hn homes 0 [] _ rfl (by omega) (by simp) (by simp) hu
  | false => rw [if_pos (by decide)]; exact ⟨_, _, rfl, by simp, by simp⟩
theorem Xii (kx : Int → Int → (List (List Ent)) → Int → Int → Int → Option BR) {l : List Ent} (hl : l.length ≤ 1000) (a b c d e : Int) {B : Nat} : ∀ (xs : List Int) (n : Nat) (E : List (List Ent)), n + xs.length ≤ l.length → (∀ x ∈ xs, 0 ≤ x ∧ x < (B : Int)) → E.length = B → (∀ c ∈ E, c.length ≤ n) →
    ∃ E', X2r kx l a b c d e xs n E = kx a b E' c d e ∧ E'.length = B
  | [], n, E, _, _, hE, _ => ⟨E, rfl, hE⟩
  | x :: xs, n, E, hn, hr, hE, hc => by
    simp only [List.length_cons] at hn
    obtain ⟨x0, x1⟩ := hr x List.mem_cons_self
    show ∃ E', X4g kx l a b c d e (X2r kx l a b c d e xs (n + 1)) x n E = _ ∧ _
    unfold X4g
    have hm : (E.getD x.toNat []).length ≤ n := hc _ (by rw [List.getD_eq_getElem?_getD, List.getElem?_eq_getElem (show x.toNat < E.length by omega)]; exact List.getElem_mem _)
    rw [X26 (ByteArray.empty, 0) (by omega), Option.bind_some, X60 [] x0 (by omega), Option.bind_some, Xs (by rw [List.length_singleton]; omega), Option.bind_some, Option.bind_some, X1s x0 (by omega), Option.bind_some]
    refine Xii kx hl a b c d e xs (n + 1) _ (by omega) (fun y hy => hr y (List.mem_cons_of_mem _ hy)) (by simp [hE]) fun c hcm => ?_
    rcases List.mem_or_eq_of_mem_set hcm with h | rfl
    · have := hc c h; omega
    · rw [List.length_append, List.length_singleton]; omega
theorem Xkz {h : Hsh} (hk : HshOK h) {l : List Ent} (hl : l.length ≤ 256) (hv : ∀ e ∈ l, EntOK e) (ha : AscE l) : ∃ r : BR, X3v h 2 l = some r ∧ r.1.2.2.length ≤ 64 := by
  unfold X3v
  rw [rcheck, ccheck hk, Option.bind_some, if_neg (by decide), if_neg (by omega), if_neg (by omega)]
  rw [show (Xg (Xc 2 h.2) l l 0 ([] : List Ent) 0 0 h.1) = Xc 2 h.2 l 0 0 h.1 from Xk4 _ 0 0 h.1 l (by omega) hv ha l [] rfl]
  unfold Xc
  rw [Xft hk _ 0 0 l [] (by simp; omega) hv, List.nil_append]
  unfold X3i
  obtain ⟨B1, B2, P1, P2, P3⟩ := id hk
  have hh : HomesOK h.1 (l.map fun e => homeL h (sumI e.1)) := fun x hx b hb => by
    obtain ⟨e, he, rfl⟩ := List.mem_map.1 hx
    exact Xb0 hk _ b hb
  obtain ⟨bs, ok, e, g1, g2⟩ := Xoz hh (by omega) (by simp; omega)
  rw [e, Option.bind_some]
  dsimp only
  cases ok with
  | false => rw [if_pos (by decide)]; exact ⟨_, rfl, by simp⟩
  | true =>
    rw [if_neg (by decide), Xs (by simp; omega), Option.bind_some, Xbi (by omega) (by omega), Option.bind_some, List.nil_append]
    unfold X74
    rw [List.length_map] at g1
    obtain ⟨E, e1, e2⟩ := Xii (X3h h.2) (l := l) (by omega) h.1 2 0 0 h.1 (B := h.1.toNat) bs 0 (List.replicate h.1.toNat []) (by omega) (fun x hx => by have := g2 x hx; omega) (by simp) (fun c hc => by rw [(List.mem_replicate.1 hc).2]; simp)
    rw [e1]
    exact ⟨_, rfl, by dsimp only; omega⟩
end Go.Proofs.YtmfppphlhgneeaaGreat
end

section
namespace Go.Proofs.YtmfppphlhgneeaaGreat
set_option linter.unusedVariables false
set_option maxRecDepth 100000
section
variable (h : Hsh) (a0 a1 a2 a3 a4 a5 a6 a7 a8 : Int)
theorem Xmk (rec : Int → Int → Int → Int → Int → Int → Int → Int → Int → Option Bool) : ∀ ks : List ByteArray, X1k rec h.1 h.2 a0 a1 a2 a3 a4 a5 a6 a7 a8 ks = rec a0 a1 a2 a3 a4 a5 a6 a7 a8
  | [] => rfl
  | k :: ks => by
    show X31 rec h.1 h.2 a0 a1 a2 a3 a4 a5 a6 a7 a8 (X1k rec h.1 h.2 a0 a1 a2 a3 a4 a5 a6 a7 a8 ks) k = _
    unfold X31
    obtain ⟨r, h1, h2, h3⟩ := Xko h k
    rw [show ((h.1, h.2) : Hsh) = h from rfl, h1, h2, Option.bind_some, Option.bind_some, if_neg (fun c => c rfl), Xe0 (by omega), Option.bind_some, Option.bind_some, if_neg (by decide)]
    exact Xmk rec ks
theorem Xml (kx : Int → Int → Int → Int → Int → Int → Int → Int → Int → Int → Int → Option Bool) (n s : Int) {E : List (List Ent)} (hE : E.length ≤ 1000) : ∀ fs : List Int, X1m kx n h.1 h.2 s E a0 a1 a2 a3 a4 a5 a6 a7 a8 fs = kx h.1 s a0 a1 a2 a3 a4 a5 a6 a7 a8
  | [] => rfl
  | f :: fs => by
    show X32 kx n h.1 h.2 s E a0 a1 a2 a3 a4 a5 a6 a7 a8 (X1m kx n h.1 h.2 s E a0 a1 a2 a3 a4 a5 a6 a7 a8 fs) f = _
    unfold X32
    obtain ⟨r, h1, h2, _⟩ := Xex n f (h, s, E) hE
    obtain ⟨q, k1, k2, _⟩ := Xex 3 f (h, s, E) hE
    rw [show (((h.1, h.2), s, E) : Hsh × Int × List (List Ent)) = (h, s, E) from rfl, h1, h2, k1, k2, Option.bind_some, Option.bind_some, Option.bind_some, Option.bind_some, if_neg (fun c => by rcases c with c | c <;> exact c rfl), Xey, Option.bind_some, Option.bind_some, if_neg (by decide), Xey, Option.bind_some, Option.bind_some, if_neg (by decide)]
    exact Xml kx n s hE fs
theorem Xmm (kx : Int → Int → Int → Int → Int → Int → Int → Int → Int → Option Bool) (n : Int) (key : ByteArray) : ∀ ds : List (Hsh × Int × List (List Ent)), (∀ x ∈ ds, x.2.2.length ≤ 1000) → Xa kx n key ds a0 a1 a2 a3 a4 a5 a6 a7 a8 = kx a0 a1 a2 a3 a4 a5 a6 a7 a8
  | [], _ => rfl
  | x :: ds, hd => by
    show X33 kx n key (Xa kx n key ds) x a0 a1 a2 a3 a4 a5 a6 a7 a8 = _
    unfold X33
    rw [Xml x.1 _ _ _ _ _ _ _ _ _ _ _ _ (hd x List.mem_cons_self)]
    unfold X1l
    rw [Xmk x.1]
    exact Xmm kx n key ds fun y hy => hd y (List.mem_cons_of_mem _ hy)
end
theorem Xor (rec : Int → Int → Int → Int → Int → Int → Int → Int → Int → Int → Int → Int → Option Bool) (g : Int × List ByteArray) (a0 a1 a2 a3 a4 a5 a6 a7 a8 a9 a10 a11 : Int) : ∀ ks : List ByteArray, X1u rec g.1 g.2 a0 a1 a2 a3 a4 a5 a6 a7 a8 a9 a10 a11 ks = rec a0 a1 a2 a3 a4 a5 a6 a7 a8 a9 a10 a11
  | [] => rfl
  | k :: ks => by
    show X38 rec g.1 g.2 a0 a1 a2 a3 a4 a5 a6 a7 a8 a9 a10 a11 (X1u rec g.1 g.2 a0 a1 a2 a3 a4 a5 a6 a7 a8 a9 a10 a11 ks) k = _
    unfold X38
    obtain ⟨r, h1, h2, h3⟩ := Xkc g k
    rw [show ((g.1, g.2) : Int × List ByteArray) = g from rfl, h1, h2, Option.bind_some, Option.bind_some, if_neg (fun c => by rcases c with (c | c) | c <;> exact c rfl), Xe0 (by omega), Option.bind_some, Option.bind_some, if_neg (by decide)]
    exact Xor rec g a0 a1 a2 a3 a4 a5 a6 a7 a8 a9 a10 a11 ks
theorem Xos (kx : Int → Int → Int → Int → Int → Int → Int → Int → Int → Int → Int → Int → Option Bool) (key : ByteArray) (a0 a1 a2 a3 a4 a5 a6 a7 a8 a9 a10 a11 : Int) : ∀ gs : List (Int × List ByteArray), Xt kx key gs a0 a1 a2 a3 a4 a5 a6 a7 a8 a9 a10 a11 = kx a0 a1 a2 a3 a4 a5 a6 a7 a8 a9 a10 a11
  | [] => rfl
  | g :: gs => by
    show X39 kx key (Xt kx key gs) g a0 a1 a2 a3 a4 a5 a6 a7 a8 a9 a10 a11 = _
    unfold X39
    obtain ⟨r, h1, h2, h3⟩ := Xka g
    rw [h1, h2, Option.bind_some, Option.bind_some, if_neg (fun c => c rfl), Xe0 (by omega), Option.bind_some, Option.bind_some, if_neg (by decide), Xor]
    exact Xos kx key a0 a1 a2 a3 a4 a5 a6 a7 a8 a9 a10 a11 gs
theorem Xp0 (s a0 a1 a2 a3 a4 a5 a6 a7 a8 a9 a10 a11 : Int) : Xl s a0 a1 a2 a3 a4 a5 a6 a7 a8 a9 a10 a11 = some true := by
  unfold Xl
  rw [show X46 (Int.tmod s 1000) = X3z (Int.tmod s 1000) from rfl]
  unfold X3z
  rw [Option.bind_some, Option.bind_some, decide_eq_true rfl]
def Rdd (l : List Oc) : Prop := l.length ≤ 900 ∧ ∀ o ∈ l, o.2.1.length ≤ 1048576
theorem Xn8 (rec : Int → Int → Int → Int → Int → Int → Int → Int → Int → Int → Int → Int → Option Bool) (key : ByteArray) {l : List Oc} (hl : Rdd l) (a0 a1 a2 a3 a4 a5 a6 a7 a8 a9 a10 a11 : Int) : ∀ ns : List Int, X1v rec key l a0 a1 a2 a3 a4 a5 a6 a7 a8 a9 a10 a11 ns = rec a0 a1 a2 a3 a4 a5 a6 a7 a8 a9 a10 a11
  | [] => rfl
  | n :: ns => by
    show X3a rec key l a0 a1 a2 a3 a4 a5 a6 a7 a8 a9 a10 a11 (X1v rec key l a0 a1 a2 a3 a4 a5 a6 a7 a8 a9 a10 a11 ns) n = _
    unfold X3a
    obtain ⟨r, h1, h2⟩ := Xkn n key hl.1 hl.2
    rw [h1, h2, Option.bind_some, Option.bind_some, if_neg (fun c => by rcases c with (c | c) | c <;> exact c rfl)]
    exact Xn8 rec key hl a0 a1 a2 a3 a4 a5 a6 a7 a8 a9 a10 a11 ns
section
variable (rec : Int → Int → Int → Int → Int → Int → Int → (List Int) → Int → Int → Int → Int → Int → Option Bool)
theorem Xp1 (s : Int) (key : ByteArray) {l o : List Oc} (hl : Rdd l) (ho : Rdd o) (a0 a1 a2 a3 a4 a5 a6 a7 a8 a9 a10 : Int) (seeds : List Int) (at_ : Int) :
    Xj rec s l key a0 a1 a2 a3 a4 a5 a6 a7 a8 a9 a10 o seeds at_ = rec a0 a1 a2 a3 a4 a5 a6 seeds at_ a7 a8 a9 a10 := by
  unfold Xj
  rw [Xm]
  unfold X3b
  rw [Xn8 _ key ho, Xm]
  unfold X3b
  rw [Xn8 _ key hl, Xm]
def R37 (o : List Oc) : Prop := o.length ≤ 900 ∧ ∀ y ∈ o, y.2.1.length = 37
theorem R37.rdd {o : List Oc} (h : R37 o) : Rdd o := ⟨h.1, fun y hy => by rw [h.2 y hy]; omega⟩
theorem R37.set {o : List Oc} (h : R37 o) (i : Nat) {y : Oc} (hy : y.2.1.length = 37) : R37 (o.set i y) :=
  ⟨by rw [List.length_set]; exact h.1, fun z hz => by
    rcases List.mem_or_eq_of_mem_set hz with h2 | rfl
    · exact h.2 z h2
    · exact hy⟩
theorem Xg2 {o : List Oc} {i : Nat} (h : i < o.length) : o.getD i (0, [], []) ∈ o := by
  rw [List.getD_eq_getElem?_getD, List.getElem?_eq_getElem h]; exact List.getElem_mem _
theorem Xp2 (s : Int) (key : ByteArray) {l o : List Oc} (hl : Rdd l) (ho : R37 o) (a0 a1 a2 a3 a4 a5 a6 a7 a8 a9 a10 : Int) {seeds : List Int} {at_ : Int} (hd : DiceOK (seeds, at_)) :
    ∃ e, DiceOK e ∧ Xz rec s l key seeds o a0 a1 a2 a3 a4 a5 a6 at_ a7 a8 a9 a10 = rec a0 a1 a2 a3 a4 a5 a6 e.1 e.2 a7 a8 a9 a10 := by
  unfold Xz
  obtain ⟨v, e, h1, v0, v1, he⟩ := dpick hd (n := 5) (by omega)
  rw [h1, Option.bind_some]
  dsimp only
  have fin : ∀ e : List Int × Int, DiceOK e → ∀ {o' : List Oc}, R37 o' → ∃ e', DiceOK e' ∧ Xj rec s l key a0 a1 a2 a3 a4 a5 a6 a7 a8 a9 a10 o' e.1 e.2 = rec a0 a1 a2 a3 a4 a5 a6 e'.1 e'.2 a7 a8 a9 a10 := fun e he o' h => ⟨e, he, Xp1 rec s key hl h.rdd a0 a1 a2 a3 a4 a5 a6 a7 a8 a9 a10 e.1 e.2⟩
  by_cases c0 : v = 0
  · rw [if_pos c0]
    by_cases c : 0 < (o.length : Int)
    · rw [if_pos c, X60 (0, [], []) (by omega) c, Option.bind_some, X1s (by omega) c, Option.bind_some]
      have h37 := ho.2 _ (Xg2 (o := o) (i := (0 : Int).toNat) (by simp; omega))
      exact fin e he (ho.set _ h37)
    · rw [if_neg c]; exact fin e he ho
  · rw [if_neg c0]
    by_cases c1 : v = 1
    · rw [if_pos c1]
      by_cases c : 0 < (o.length : Int)
      · have hol := ho.1
        rw [if_pos c, w64_id (by omega) (by omega), X60 (0, [], []) (by omega) (by omega), Option.bind_some]
        obtain ⟨p, e2, k1, p0, p1, k2⟩ := dpick he (n := 37) (by omega)
        rw [k1, Option.bind_some]
        dsimp only
        obtain ⟨q, e3, g1, q0, q1, g2⟩ := dpick k2 (n := 257) (by omega)
        rw [g1, Option.bind_some]
        dsimp only
        have h37 := ho.2 _ (Xg2 (o := o) (i := ((o.length : Int) - 1).toNat) (by omega))
        rw [X60 0 p0 (by omega), Option.bind_some, X1s p0 (by omega), Option.bind_some, X1s (by omega) (by omega), Option.bind_some]
        exact fin e3 g2 (ho.set _ (by dsimp only; rw [List.length_set]; exact h37))
      · rw [if_neg c]; exact fin e he ho
    · rw [if_neg c1]
      by_cases c2 : v = 2
      · rw [if_pos c2]
        by_cases c : 0 < (o.length : Int)
        · have h37 := ho.2 _ (Xg2 (o := o) (i := (0 : Int).toNat) (by simp; omega))
          rw [if_pos c, X60 (0, [], []) (by omega) c, Option.bind_some, X60 0 (by omega) (by omega), Option.bind_some, X1s (by omega) (by omega), Option.bind_some, X1s (by omega) c, Option.bind_some]
          exact fin e he (ho.set _ (by dsimp only; rw [List.length_set]; exact h37))
        · rw [if_neg c]; exact fin e he ho
      · rw [if_neg c2]; exact fin e he ho
end
theorem Xot (kx : (List (Int × (List Int) × (List Int))) → Int → Int → Int → Int → Int → Int → Int → Int → Int → Int → Int → Int → Option Bool) {T : List (List Int)} (hT : T.length ≤ 1000 ∧ ∀ r ∈ T, r.length = 37) (a0 a1 a2 a3 a4 a5 a6 a7 a8 a9 a10 a11 : Int) : ∀ (xs : List Int) (o : List Oc), (∀ x ∈ xs, 0 ≤ x ∧ x < T.length) → R37 o → o.length + xs.length ≤ 900 →
    ∃ o', R37 o' ∧ X1w kx a0 a1 a2 T a3 a4 a5 a6 a7 a8 a9 a10 a11 xs o = kx o' a0 a1 a2 a3 a4 a5 a6 a7 a8 a9 a10 a11
  | [], o, _, ho, _ => ⟨o, ho, rfl⟩
  | x :: xs, o, hx, ho, hl => by
    simp only [List.length_cons] at hl
    obtain ⟨x0, x1⟩ := hx x List.mem_cons_self
    have hm : T.getD x.toNat [] ∈ T := by
      rw [List.getD_eq_getElem?_getD, List.getElem?_eq_getElem (show x.toNat < T.length by omega)]; exact List.getElem_mem _
    have h37 := hT.2 _ hm
    obtain ⟨o', h1, h2⟩ := Xot kx hT a0 a1 a2 a3 a4 a5 a6 a7 a8 a9 a10 a11 xs (o ++ [(0, T.getD x.toNat [], [])]) (fun y hy => hx y (List.mem_cons_of_mem _ hy)) ⟨by simp; omega, fun y hy => by
      rcases List.mem_append.1 hy with h | h
      · exact ho.2 y h
      · rw [List.mem_singleton.1 h]; exact h37⟩ (by simp; omega)
    refine ⟨o', h1, ?_⟩
    show X3c kx a0 a1 a2 T a3 a4 a5 a6 a7 a8 a9 a10 a11 (X1w kx a0 a1 a2 T a3 a4 a5 a6 a7 a8 a9 a10 a11 xs) x o = _
    unfold X3c
    rw [X60 [] x0 x1, Option.bind_some, Xs (by rw [h37]; simp), Option.bind_some, List.nil_append, Xs (by simp; omega), Option.bind_some]
    exact h2
theorem Xmn (kx : Int → Int → Int → Int → Int → Int → Int → (List Int) → Int → Int → Int → Int → Int → Option Bool) (s : Int) {l : List Oc} (hl : Rdd l) {T : List (List Int)} {h : Hsh} (hk : HshOK h) (hT : T.length ≤ 1000 ∧ ∀ r ∈ T, r.length = 37) (hTl : (T.length : Int) = h.1) (a0 a1 a2 a3 a4 a6 a7 a8 a9 a10 : Int) :
    ∀ (ks : List ByteArray) (e : List Int × Int), DiceOK e → ∃ e', DiceOK e' ∧ X4 kx s l T h.2 ks a0 a1 a2 a3 a4 h.1 a6 e.1 e.2 a7 a8 a9 a10 = kx a0 a1 a2 a3 a4 h.1 a6 e'.1 e'.2 a7 a8 a9 a10
  | [], e, he => ⟨e, he, rfl⟩
  | k :: ks, e, he => by
    show ∃ e', DiceOK e' ∧ X30 kx s l T h.2 (X4 kx s l T h.2 ks) k a0 a1 a2 a3 a4 h.1 a6 e.1 e.2 a7 a8 a9 a10 = _
    unfold X30
    have hw : ∃ w : List Int × Int, X5w (h.1, h.2) k = some w ∧ w.1.length ≤ 4 ∧ ∀ x ∈ w.1, 0 ≤ x ∧ x < h.1 := by
      unfold X5w
      by_cases hkp : KeyP k
      · rw [show ((h.1, h.2) : Hsh) = h from rfl, r20homes_ok hk hkp]
        exact ⟨_, rfl, by dsimp only; rw [Xh0]; exact hk.2.2.2.1, Xb0 hk _⟩
      · refine ⟨([], 1), ?_, by simp, by simp⟩
        unfold X35
        rw [rcheck, show ((h.1, h.2) : Hsh) = h from rfl, ccheck hk, Option.bind_some, if_neg (by decide), Xds, Option.bind_some, if_pos (nb_f hkp)]
        rfl
    obtain ⟨w, w1, w2, w3⟩ := hw
    rw [w1, Option.bind_some]
    obtain ⟨o, o1, o2⟩ := Xot (Xz (X4 kx s l T h.2 ks) s l k e.1) hT a0 a1 a2 a3 a4 h.1 a6 e.2 a7 a8 a9 a10 w.1 [] (fun x hx => by have := w3 x hx; omega) ⟨by simp, by simp⟩ (by simp; omega)
    rw [o2]
    obtain ⟨e1, d1, d2⟩ := Xp2 (X4 kx s l T h.2 ks) s k hl o1 a0 a1 a2 a3 a4 h.1 a6 a7 a8 a9 a10 (seeds := e.1) (at_ := e.2) he
    rw [d2]
    exact Xmn kx s hl hk hT hTl a0 a1 a2 a3 a4 a6 a7 a8 a9 a10 ks e1 d1
theorem Xl0 {x : Hsh × Int × List (List Ent)} {l : List Ent} (h : DirP x l) : X5c 3 257 x = some ((3, 257, 37, x.2.2.map rowI), 0) ∧ (∀ r ∈ x.2.2.map rowI, r.length = 37) ∧ x.2.2.length ≤ 64 ∧ (x.2.2.length : Int) = x.1.1 := by
  have hb := bkp h
  have hB := h.hk.2.1
  have hlen := hb.len
  obtain ⟨hs, hc⟩ := Xew (Xh2 h)
  have hen : ∀ c ∈ x.2.2, encs c := fun c hm => by
    obtain ⟨g1, g2⟩ := hc c hm
    have := h.one
    exact Xkt (by omega) g2
  have hr : ∀ r ∈ x.2.2.map rowI, r.length = 37 ∧ ∀ y ∈ r, 0 ≤ y ∧ y < 256 := fun r hm => by
    obtain ⟨c, hm2, rfl⟩ := List.mem_map.1 hm
    exact Xg0 (hen c hm2)
  refine ⟨?_, fun r hm => (hr r hm).1, by omega, hlen⟩
  obtain ⟨e, k1, k2, _⟩ := Xe2 x
  rw [Xh2 h] at k1
  cases k1
  unfold X5c
  rw [k2, Option.bind_some, if_neg (by decide), ref257, Option.bind_some, if_neg (by decide), h.one]
  unfold X3z
  rw [Option.bind_some, if_neg (by decide)]
  have r4 := Xg1 (X15 3) (E := x.2.2) (by omega) 0 0 0 x.1.1 257 x.2.2 0 big [] rfl (by simp only [big]; omega) rfl (by omega) hen
  rw [show ((0 : Nat) : Int) = 0 from rfl] at r4
  rw [r4, List.nil_append]
  obtain ⟨r, g1, g2, g3⟩ := Xig (f := 257) (by omega) res257 ref257 3 (xs := x.2.2.map rowI) (by rw [List.length_map]; omega) hr
  unfold X15 X3z
  rw [Option.bind_some, show w64 (1 * 37) = 37 from rfl, g2, Option.bind_some]
  rcases g3 with rfl | ⟨_, h4⟩
  · rfl
  · omega
theorem Xir {t : List Int} (ht : ∀ x ∈ t, 0 ≤ x ∧ x ≤ 255) (raw : Hsh × Int × List (List Ent)) (number slots f : Int) (key : ByteArray) {l : List Oc} (hl : ∀ o ∈ l, o.2.1.length ≤ 1048576) (g : Int × List ByteArray) : X6v t raw number slots f key l g = some true := by
  unfold X6v
  rw [sane35, Option.bind_some, if_neg (by decide)]
  split
  · rfl
  · rename_i hc
    obtain ⟨d, h1, h2⟩ := dnew ht
    rw [h1, Option.bind_some]
    obtain ⟨x, ls, e, x1, x2, x3⟩ := Xof h2
    rw [x1, Option.bind_some]
    dsimp only
    have hfew := x2.few
    obtain ⟨two, b1, b2⟩ := Xkz x2.hk (l := ls) (by omega) (fun e he => (x2.good e he).ok) x2.asc
    obtain ⟨t1, t2, t3, t4⟩ := Xl0 x2
    rw [b1, Option.bind_some, Xmm _ _ _ _ _ _ _ _ _ _ _ _ _ (fun y hy => by
      simp only [List.mem_cons, List.not_mem_nil, or_false] at hy
      rcases hy with rfl | rfl | rfl
      · omega
      · omega
      · omega)]
    unfold X9
    rw [show ((((x.1.1, x.1.2) : Hsh), x.2.1, x.2.2) : Hsh × Int × List (List Ent)) = x from rfl, t1, Option.bind_some]
    dsimp only
    have hrd : Rdd l := ⟨by omega, hl⟩
    obtain ⟨e1, d1, d2⟩ := Xmn (X5 slots key g.2) slots hrd x2.hk (T := x.2.2.map rowI) ⟨by rw [List.length_map]; omega, t2⟩ (by rw [List.length_map]; exact t4) 3 257 37 two.1.1.1 two.1.2.1 x.2.1 g.1 f raw.1.1 raw.2.1 [key, ⟨#[97, 110, 116]⟩, ⟨#[99, 97, 116]⟩, ⟨#[122, 101, 98, 114, 97]⟩] e x3
    rw [d2]
    unfold X5
    obtain ⟨fe, e2, f1, f2, f3, f4⟩ := dfen d1
    rw [show ((e1.1, e1.2) : List Int × Int) = e1 from rfl, f1, Option.bind_some, Xos, Xp0]
end Go.Proofs.YtmfppphlhgneeaaGreat
end
