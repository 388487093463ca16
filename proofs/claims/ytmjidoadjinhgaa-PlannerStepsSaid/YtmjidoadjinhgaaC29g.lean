/- Chapter 29, plain: what the document says, the law PlannerSteps. Printed in part by a program. -/
import Derived.Test.YtmjidoadjinhgaaC29e
namespace Go.Proofs.Ytmjidoadjinhgaa

-- the document's candidates
theorem r_L6 {n : Nat} (hn : n ≤ 100) (kx : List Sch → Int → Int → Int → Int → Int → Int → Int → Int → Int → Int → Option (List Cho × Int)) (a1 a2 a3 a4 a5 a6 a7 a8 a9 : Int) : ∀ (f v : Nat) (acc : List Sch), v ≤ n → n - v < f → acc.length + (n - v) ≤ 10000 →
    ref29_Candidates_L6 kx (n : Int) a1 a2 a3 a4 a5 a6 a7 a8 a9 f acc (v : Int) = kx (acc ++ (List.range (n - v)).map fun t => s2 n (v + t)) (n : Int) a1 a2 a3 a4 a5 a6 a7 a8 a9
  | 0, v, _, _, h, _ => by omega
  | f + 1, v, acc, h1, h2, h3 => by
    show ref29_Candidates_B6 kx (n : Int) a1 a2 a3 a4 a5 a6 a7 a8 a9 (ref29_Candidates_L6 kx (n : Int) a1 a2 a3 a4 a5 a6 a7 a8 a9 f) acc (v : Int) = _
    unfold ref29_Candidates_B6
    split
    · rw [lapp_ok (by simp; omega)]
      simp only [Option.bind_some]
      rw [w64_id (by omega) (by omega), show ((v : Int) + 1) = ((v + 1 : Nat) : Int) by omega, r_L6 hn kx a1 a2 a3 a4 a5 a6 a7 a8 a9 f (v + 1) _ (by omega) (by omega) (by simp; omega), range_from (s2 n) (by omega : v < n)]
      rw [List.append_assoc]; rfl
    · rw [show n - v = 0 by omega]; simp
theorem r_L3 {n : Nat} (hn : n ≤ 100) (rec : List Sch → Int → Int → Int → Int → Int → Int → Int → Int → Int → Int → Int → Option (List Cho × Int)) {b : Nat} (hb : b ≤ 100) (a1 a2 a3 a4 a5 a6 a7 a8 a9 : Int) : ∀ (f a : Nat) (acc : List Sch), a ≤ n → n - a < f → acc.length + (n - a) ≤ 20000 →
    ref29_Candidates_L3 rec (b : Int) (n : Int) a1 a2 a3 a4 a5 a6 a7 a8 a9 f acc ((1 + a : Nat) : Int) = rec (acc ++ (List.range (n - a)).map fun t => s3 n b (1 + (a + t))) ((b + 1 : Nat) : Int) (n : Int) a1 a2 a3 a4 a5 a6 a7 a8 a9
  | 0, v, _, _, h, _ => by omega
  | f + 1, v, acc, h1, h2, h3 => by
    show ref29_Candidates_B3 rec (b : Int) (n : Int) a1 a2 a3 a4 a5 a6 a7 a8 a9 (ref29_Candidates_L3 rec (b : Int) (n : Int) a1 a2 a3 a4 a5 a6 a7 a8 a9 f) acc ((1 + v : Nat) : Int) = _
    unfold ref29_Candidates_B3
    split
    · rw [lapp_ok (by simp; omega)]
      simp only [Option.bind_some]
      rw [w64_id (by omega) (by omega), show (((1 + v : Nat) : Int) + 1) = ((1 + (v + 1) : Nat) : Int) by omega, r_L3 hn rec hb a1 a2 a3 a4 a5 a6 a7 a8 a9 f (v + 1) _ (by omega) (by omega) (by simp; omega), range_from (fun t => s3 n b (1 + t)) (by omega : v < n)]
      rw [List.append_assoc]; rfl
    · rw [show n - v = 0 by omega, w64_id (by omega) (by omega)]; simp
theorem r_L4 {n : Nat} (hn : n ≤ 100) (kx : List Sch → Int → Int → Int → Int → Int → Int → Int → Int → Int → Int → Option (List Cho × Int)) (a1 a2 a3 a4 a5 a6 a7 a8 a9 : Int) : ∀ (f b : Nat) (acc : List Sch), b ≤ n → n - b < f → acc.length + (n - b) * n ≤ 15000 →
    ref29_Candidates_L4 kx f acc ((1 + b : Nat) : Int) (n : Int) a1 a2 a3 a4 a5 a6 a7 a8 a9 = kx (acc ++ (List.range (n - b)).flatMap fun t => (List.range n).map fun a => s3 n (1 + (b + t)) (1 + a)) (n : Int) a1 a2 a3 a4 a5 a6 a7 a8 a9
  | 0, v, _, _, h, _ => by omega
  | f + 1, v, acc, h1, h2, h3 => by
    show ref29_Candidates_B4 kx (ref29_Candidates_L4 kx f) acc ((1 + v : Nat) : Int) (n : Int) a1 a2 a3 a4 a5 a6 a7 a8 a9 = _
    unfold ref29_Candidates_B4
    split
    · have hv : v < n := by omega
      have e : (n - v) * n = n + (n - (v + 1)) * n := by
        obtain ⟨k, hk⟩ : ∃ k, n - v = k + 1 := ⟨n - v - 1, by omega⟩
        rw [hk, show n - (v + 1) = k by omega, Nat.add_mul]; omega
      have := r_L3 hn (ref29_Candidates_L4 kx f) (b := 1 + v) (by omega) a1 a2 a3 a4 a5 a6 a7 a8 a9 big 0 acc (by omega) (by simp only [big]; omega) (by omega)
      rw [show ((1 + 0 : Nat) : Int) = 1 from rfl] at this
      rw [this, show 1 + v + 1 = 1 + (v + 1) by omega, r_L4 hn kx a1 a2 a3 a4 a5 a6 a7 a8 a9 f (v + 1) _ (by omega) (by omega) (by simp; omega), rangef_from (fun b => (List.range n).map fun a => s3 n (1 + b) (1 + a)) hv, List.append_assoc]
      simp
    · rw [show n - v = 0 by omega]; simp
theorem r_L1 (l : List Sch) (hl : l.length ≤ 100000) (n c s w r wd p y1 y2 y3 : Int) : ∀ (f i : Nat) (acc : List Cho), i ≤ l.length → l.length - i < f → acc.length + (l.length - i) ≤ 1000000 →
    ref29_Candidates_L1 n c s w r wd p y1 y2 y3 l f acc (i : Int) = some (acc ++ pick (n, c, s, w, r, wd, p, y1, y2, y3) (l.drop i), 0)
  | 0, i, _, _, h, _ => by omega
  | f + 1, i, acc, h1, h2, h3 => by
    show ref29_Candidates_B1 n c s w r wd p y1 y2 y3 l (ref29_Candidates_L1 n c s w r wd p y1 y2 y3 l f) acc (i : Int) = _
    unfold ref29_Candidates_B1
    split
    · have hi : i < l.length := by omega
      rw [lidx_nat (0, 0, 0, 0) hi, drop_getD (0, 0, 0, 0) hi, pick_cons]
      simp only [Option.bind_some]
      rw [rserves_eq, w64_id (by omega) (by omega), show ((i : Int) + 1) = ((i + 1 : Nat) : Int) by omega]
      simp only [Option.bind_some]
      by_cases hs : servesP (l.getD i (0, 0, 0, 0)) (n, c, s, w, r, wd, p, y1, y2, y3)
      · rw [if_pos (bt hs), if_pos hs, rof_eq]
        simp only [Option.bind_some]
        rw [rsum_eq]
        simp only [Option.bind_some]
        rw [lapp_ok (by simp; omega)]
        simp only [Option.bind_some]
        rw [r_L1 l hl n c s w r wd p y1 y2 y3 f (i + 1) _ (by omega) (by omega) (by simp; omega), List.append_assoc]
        rfl
      · rw [if_neg (bf hs), if_neg hs, r_L1 l hl n c s w r wd p y1 y2 y3 f (i + 1) _ (by omega) (by omega) (by omega)]
    · rw [List.drop_of_length_le (by omega)]; simp [pick]

theorem pick_app (x : Wnt) (a b : List Sch) : pick x (a ++ b) = pick x a ++ pick x b := by unfold pick; rw [List.filter_append, List.map_append]
theorem pick_none {x : Wnt} {l : List Sch} (h : ∀ s ∈ l, ¬ okS s) : pick x l = [] := by
  unfold pick
  rw [List.filter_eq_nil_iff.2 (fun s hs => by simp; exact fun q => h s hs q.2.1)]; rfl
theorem pick_fm (x : Wnt) (g : Nat → List Sch) : ∀ l : List Nat, pick x (l.flatMap g) = l.flatMap fun i => pick x (g i)
  | [] => rfl
  | i :: l => by rw [List.flatMap_cons, pick_app, pick_fm x g l, List.flatMap_cons]
/-- A row of schemes, from 0 and from 1. -/
theorem pick_row (x : Wnt) (g : Nat → Sch) (n : Nat) (h0 : ¬ okS (g 0)) (hn : ¬ okS (g n)) : pick x ((List.range n).map g) = pick x ((List.range n).map fun a => g (1 + a)) := by
  cases n with
  | zero => rfl
  | succ m =>
    have e1 : (List.range (m + 1)).map g = g 0 :: (List.range m).map fun a => g (1 + a) := by
      rw [List.range_succ_eq_map, List.map_cons, List.map_map]
      congr 1
      exact List.map_congr_left fun a _ => by show g (a + 1) = g (1 + a); rw [Nat.add_comm]
    have e2 : (List.range (m + 1)).map (fun a => g (1 + a)) = (List.range m).map (fun a => g (1 + a)) ++ [g (m + 1)] := by
      rw [List.range_succ, List.map_append]; simp [Nat.add_comm]
    rw [e1, e2, pick_app, pick_none (l := [g (m + 1)]) (fun s hs => by simp at hs; subst hs; exact hn), List.append_nil, pick_cons, if_neg (fun q => h0 q.2.1)]
theorem pick_all (x : Wnt) (n : Nat) : pick x (allR n) = pick x (allS n) := by
  unfold allR allS
  rw [pick_cons, pick_cons]
  have k2 : pick x ((List.range (n - 1)).map fun t => s2 n (1 + t)) = pick x ((List.range n).map (s2 n)) := by
    cases n with
    | zero => rfl
    | succ m =>
      have e1 : (List.range (m + 1)).map (s2 (m + 1)) = s2 (m + 1) 0 :: (List.range m).map fun a => s2 (m + 1) (1 + a) := by
        rw [List.range_succ_eq_map, List.map_cons, List.map_map]
        congr 1
        exact List.map_congr_left fun a _ => by show s2 (m + 1) (a + 1) = s2 (m + 1) (1 + a); rw [Nat.add_comm a 1]
      rw [e1, pick_cons, if_neg (fun q => by have := q.2.1.2; unfold s2 at this; dsimp only at this; omega), Nat.add_sub_cancel]
  have k3 : pick x ((List.range n).flatMap fun b => (List.range n).map fun a => s3 n (1 + b) (1 + a)) = pick x ((List.range n).flatMap fun b => (List.range n).map (s3 n b)) := by
    rw [pick_fm, pick_fm]
    have row : ∀ b, pick x ((List.range n).map fun a => s3 n b (1 + a)) = pick x ((List.range n).map (s3 n b)) := fun b =>
      (pick_row x (s3 n b) n (fun q => by have := q.2; unfold s3 at this; dsimp only at this; omega) (fun q => by have := q.2; unfold s3 at this; dsimp only at this; omega)).symm
    cases n with
    | zero => rfl
    | succ m =>
      have z0 : pick x ((List.range (m + 1)).map (s3 (m + 1) 0)) = [] := pick_none (fun s hs => by
        obtain ⟨a, _, rfl⟩ := List.mem_map.1 hs
        intro q; have := q.2; unfold s3 at this; dsimp only at this; omega)
      have zn : pick x ((List.range (m + 1)).map fun a => s3 (m + 1) (1 + m) (1 + a)) = [] := pick_none (fun s hs => by
        obtain ⟨a, _, rfl⟩ := List.mem_map.1 hs
        intro q; have := q.2; unfold s3 at this; dsimp only at this; omega)
      have l1 : (List.range (m + 1)).flatMap (fun b => pick x ((List.range (m + 1)).map (s3 (m + 1) b))) = (List.range m).flatMap fun b => pick x ((List.range (m + 1)).map (s3 (m + 1) (b + 1))) := by
        rw [List.range_succ_eq_map (n := m), List.flatMap_cons, List.flatMap_map]
        rw [← List.range_succ_eq_map, z0]; rfl
      have l2 : (List.range (m + 1)).flatMap (fun b => pick x ((List.range (m + 1)).map fun a => s3 (m + 1) (1 + b) (1 + a))) = (List.range m).flatMap fun b => pick x ((List.range (m + 1)).map fun a => s3 (m + 1) (1 + b) (1 + a)) := by
        have : ∀ g : Nat → List Cho, g m = [] → (List.range (m + 1)).flatMap g = (List.range m).flatMap g := fun g hg => by
          rw [List.range_succ, List.flatMap_append]; simp [hg]
        exact this _ zn
      rw [l1, l2]
      congr 1
      funext b
      rw [row, Nat.add_comm b 1]
  rw [pick_app, pick_app, k2, k3]
theorem allR_len {n : Nat} (hn : n ≤ 10) : (allR n).length ≤ 1000 := by
  have : ((List.range n).flatMap fun b => (List.range n).map fun a => s3 n (1 + b) (1 + a)).length = n * n := by rw [fm_len _ n (fun _ => by simp)]; simp
  unfold allR
  rw [List.length_cons, List.length_append, this]
  simp
  have := Nat.mul_le_mul hn hn
  omega
theorem rcand_eq (x : Wnt) : ref29_Candidates x = some (candI x) := by
  unfold ref29_Candidates candI
  rw [rvalid_eq]
  simp only [Option.bind_some]
  by_cases h : okW x
  · rw [if_neg (nb_t h), if_pos h]
    obtain ⟨n, c, s, w, r, wd, p, y1, y2, y3⟩ := x
    have h1 := h.1
    dsimp only at h1 ⊢
    obtain ⟨m, rfl⟩ : ∃ m : Nat, n = m := ⟨n.toNat, by omega⟩
    have mm : m * m ≤ 10 * 10 := Nat.mul_le_mul (by omega) (by omega)
    have e6 := r_L6 (n := m) (by omega) ref29_Candidates_J5 c s w r wd p y1 y2 y3 big 1 [(1, (m : Int), 0, 0)] (by omega) (by simp only [big]; omega) (by simp; omega)
    rw [show ((1 : Nat) : Int) = 1 from rfl] at e6
    rw [e6]
    unfold ref29_Candidates_J5
    have e4 := r_L4 (n := m) (by omega) ref29_Candidates_J2 c s w r wd p y1 y2 y3 big 0 ([(1, (m : Int), 0, 0)] ++ (List.range (m - 1)).map fun t => s2 m (1 + t)) (by omega) (by simp only [big]; omega) (by simp; omega)
    rw [show ((1 + 0 : Nat) : Int) = 1 from rfl] at e4
    rw [e4]
    unfold ref29_Candidates_J2
    simp only [Nat.zero_add, Nat.sub_zero]
    have ea : ([(1, (m : Int), 0, 0)] ++ (List.range (m - 1)).map (fun t => s2 m (1 + t)) ++ (List.range m).flatMap fun t => (List.range m).map fun a => s3 m (1 + t) (1 + a)) = allR m := by
      unfold allR; rw [List.append_assoc]; rfl
    rw [ea]
    have hl := allR_len (n := m) (by omega)
    have e1 := r_L1 (allR m) (by omega) (m : Int) c s w r wd p y1 y2 y3 big 0 [] (by omega) (by simp only [big]; omega) (by simp; omega)
    rw [show ((0 : Nat) : Int) = 0 from rfl] at e1
    rw [e1, List.drop_zero, List.nil_append, pick_all, Int.toNat_natCast]
  · rw [if_pos (nb_f h), if_neg h]

theorem rbest_L (l : List Cho) (hl : l.length ≤ 100000) (n c s w r wd p y1 y2 y3 : Int) : ∀ (f i : Nat) (b : Cho), i ≤ l.length → l.length - i < f → ref29_Best_L2 ref29_Best_J1 l n c s w r wd p y1 y2 y3 f (i : Int) b.1.1 b.1.2.1 b.1.2.2.1 b.1.2.2.2 b.2.1.1 b.2.1.2.1 b.2.1.2.2 b.2.2 = some (bst b (l.drop i), 0)
  | 0, i, _, _, h => by omega
  | f + 1, i, b, h1, h2 => by
    show ref29_Best_B2 ref29_Best_J1 l n c s w r wd p y1 y2 y3 (ref29_Best_L2 ref29_Best_J1 l n c s w r wd p y1 y2 y3 f) (i : Int) _ _ _ _ _ _ _ _ = _
    unfold ref29_Best_B2 ref29_Better
    split
    · have hi : i < l.length := by omega
      rw [lidx_nat ((0, 0, 0, 0), (0, 0, 0), 0) hi, drop_getD ((0, 0, 0, 0), (0, 0, 0), 0) hi, w64_id (by omega) (by omega), show ((i : Int) + 1) = ((i + 1 : Nat) : Int) by omega]
      simp only [Option.bind_some]
      by_cases h : (l.getD i ((0, 0, 0, 0), (0, 0, 0), 0)).2.2 < b.2.2
      · rw [if_pos (bt h), rbest_L l hl n c s w r wd p y1 y2 y3 f (i + 1) (l.getD i ((0, 0, 0, 0), (0, 0, 0), 0)) (by omega) (by omega)]
        simp only [bst]; rw [if_pos h]
      · rw [if_neg (bf h), rbest_L l hl n c s w r wd p y1 y2 y3 f (i + 1) b (by omega) (by omega)]
        simp only [bst]; rw [if_neg h]
    · rw [List.drop_of_length_le (by omega)]; rfl
theorem rbest_eq (x : Wnt) : ref29_Best x = some (bestI x) := by
  unfold ref29_Best bestI
  rw [rcand_eq]
  simp only [Option.bind_some, candI]
  by_cases h : okW x
  · rw [if_pos h, if_pos h]
    rw [if_neg (show ¬ ((0 : Int) ≠ 0) by decide)]
    have hlen := pick_len x (allS x.1.toNat)
    have hall := allS_len (n := x.1.toNat) (by have := h.1; omega)
    cases hp : pick x (allS x.1.toNat) with
    | nil => rw [if_pos (by simp)]
    | cons b cs =>
      rw [hp] at hlen
      rw [if_neg (by simp; omega)]
      have e0 : lidx (b :: cs) 0 = some b := rfl
      rw [e0, Option.bind_some]
      have := rbest_L (b :: cs) (by omega) x.1 x.2.1 x.2.2.1 x.2.2.2.1 x.2.2.2.2.1 x.2.2.2.2.2.1 x.2.2.2.2.2.2.1 x.2.2.2.2.2.2.2.1 x.2.2.2.2.2.2.2.2.1 x.2.2.2.2.2.2.2.2.2 big 1 b (by simp) (by simp only [big]; omega)
      rw [show ((1 : Nat) : Int) = 1 from rfl] at this
      rw [this]; rfl
  · rw [if_neg h, if_neg h]; rfl

-- lists that are equal
theorem flat_eq (u v : Cho) : ((u.1.1, u.1.2.1, u.1.2.2.1, u.1.2.2.2, u.2.1.1, u.2.1.2.1, u.2.1.2.2, u.2.2) = (v.1.1, v.1.2.1, v.1.2.2.1, v.1.2.2.2, v.2.1.1, v.2.1.2.1, v.2.1.2.2, v.2.2)) ↔ u = v := by
  obtain ⟨⟨a, b, c, d⟩, ⟨e, f, g⟩, h⟩ := u
  obtain ⟨⟨a', b', c', d'⟩, ⟨e', f', g'⟩, h'⟩ := v
  simp only [Prod.mk.injEq, and_assoc]
theorem rsame_L {l m : List Cho} (hlm : l.length = m.length) (hl : l.length ≤ 1000000) : ∀ (f i : Nat), i ≤ l.length → l.length - i < f → ref29_Same_L1 l m f (i : Int) = some (decide (l.drop i = m.drop i))
  | 0, i, _, h => by omega
  | f + 1, i, h1, h2 => by
    show ref29_Same_B1 l m (ref29_Same_L1 l m f) (i : Int) = _
    unfold ref29_Same_B1
    split
    · have hi : i < l.length := by omega
      have hj : i < m.length := by omega
      rw [lidx_nat ((0, 0, 0, 0), (0, 0, 0), 0) hi, lidx_nat ((0, 0, 0, 0), (0, 0, 0), 0) hj, w64_id (by omega) (by omega), show ((i : Int) + 1) = ((i + 1 : Nat) : Int) by omega]
      simp only [Option.bind_some]
      have e : (l.drop i = m.drop i) ↔ (l.getD i ((0, 0, 0, 0), (0, 0, 0), 0) = m.getD i ((0, 0, 0, 0), (0, 0, 0), 0) ∧ l.drop (i + 1) = m.drop (i + 1)) := by
        rw [drop_getD ((0, 0, 0, 0), (0, 0, 0), 0) hi, drop_getD ((0, 0, 0, 0), (0, 0, 0), 0) hj, List.cons.injEq]
      by_cases h : l.getD i ((0, 0, 0, 0), (0, 0, 0), 0) = m.getD i ((0, 0, 0, 0), (0, 0, 0), 0)
      · rw [if_neg (fun q => q ((flat_eq _ _).2 h)), rsame_L hlm hl f (i + 1) (by omega) (by omega)]
        exact sd ⟨fun q => e.2 ⟨h, q⟩, fun q => (e.1 q).2⟩
      · rw [if_pos (fun q => h ((flat_eq _ _).1 q))]
        exact (congrArg some (decide_eq_false (fun q => h (e.1 q).1))).symm
    · rw [List.drop_of_length_le (by omega), List.drop_of_length_le (by omega)]; rfl
theorem rsame_eq {l m : List Cho} (hl : l.length ≤ 1000000) : ref29_Same l m = some (decide (l = m)) := by
  unfold ref29_Same
  by_cases h : l.length = m.length
  · rw [if_neg (by omega)]
    have := rsame_L h hl big 0 (by omega) (by simp only [big]; omega)
    exact this
  · rw [if_pos (by omega)]
    exact (congrArg some (decide_eq_false (fun q => h (by rw [q])))).symm
theorem psame_L {l m : List Cho} (hlm : l.length = m.length) : ∀ (xs : List Cho) (i : Nat), l.drop i = xs → slices_Equal_LapiChoiceapiChoice_L1 m xs i = some (decide (xs = m.drop i))
  | [], i, h => by
    have := List.drop_eq_nil_iff.1 h
    rw [List.drop_of_length_le (by omega)]; rfl
  | x :: xs, i, h => by
    show slices_Equal_LapiChoiceapiChoice_B1 m (slices_Equal_LapiChoiceapiChoice_L1 m xs (i + 1)) x i = _
    unfold slices_Equal_LapiChoiceapiChoice_B1
    have hi := drop_lt h
    have hj : i < m.length := by omega
    rw [lidx_nat ((0, 0, 0, 0), (0, 0, 0), 0) hj, psame_L hlm xs (i + 1) (drop_succ h)]
    simp only [Option.bind_some]
    have e : (x :: xs = m.drop i) ↔ (x = m.getD i ((0, 0, 0, 0), (0, 0, 0), 0) ∧ xs = m.drop (i + 1)) := by
      rw [drop_getD ((0, 0, 0, 0), (0, 0, 0), 0) hj, List.cons.injEq]
    by_cases hx : x = m.getD i ((0, 0, 0, 0), (0, 0, 0), 0)
    · rw [if_neg (fun q => q ((flat_eq _ _).2 hx))]
      exact sd ⟨fun q => e.2 ⟨hx, q⟩, fun q => (e.1 q).2⟩
    · rw [if_pos (fun q => hx ((flat_eq _ _).1 q))]
      exact (congrArg some (decide_eq_false (fun q => hx (e.1 q).1))).symm
theorem psame_eq {l m : List Cho} : planner_Same l m = some (decide (l = m)) := by
  unfold planner_Same slices_Equal_LapiChoiceapiChoice
  by_cases h : l.length = m.length
  · rw [if_neg (by omega), psame_L h l 0 rfl]; rfl
  · rw [if_pos (by omega)]
    exact (congrArg some (decide_eq_false (fun q => h (by rw [q])))).symm

-- the law
theorem st_L3 (kx : Int → Int → Int → Int → Int → Int → Int → Int → Int → Int → Int → Int → Int → Int → Int → Int → Int → Int → Int → Int → Int → Int → Int → Int → Int → Int → Int → Int → Int → Int → Int → Int → Int → Int → Int → Int → Int → Int → Int → Int → Int → Option Bool) (z0 z1 z2 z3 z4 z5 z6 z7 z8 z9 z10 z11 z12 z13 z14 z15 z16 z17 z18 z19 z20 z21 z22 z23 z24 z25 z26 z27 z28 z29 z30 z31 z32 z33 z34 z35 z36 z37 z38 z39 z40 : Int) : ∀ xs : List Sch, law29_PlannerSteps_L3 kx z0 z1 z2 z3 z4 z5 z6 z7 z8 z9 z10 z11 z12 z13 z14 z15 z16 z17 z18 z19 z20 z21 z22 z23 z24 z25 z26 z27 z28 z29 z30 z31 z32 z33 z34 z35 z36 z37 z38 z39 z40 xs = kx z0 z1 z2 z3 z4 z5 z6 z7 z8 z9 z10 z11 z12 z13 z14 z15 z16 z17 z18 z19 z20 z21 z22 z23 z24 z25 z26 z27 z28 z29 z30 z31 z32 z33 z34 z35 z36 z37 z38 z39 z40
  | [] => rfl
  | s :: xs => by
    show law29_PlannerSteps_B3 kx z0 z1 z2 z3 z4 z5 z6 z7 z8 z9 z10 z11 z12 z13 z14 z15 z16 z17 z18 z19 z20 z21 z22 z23 z24 z25 z26 z27 z28 z29 z30 z31 z32 z33 z34 z35 z36 z37 z38 z39 z40 (law29_PlannerSteps_L3 kx z0 z1 z2 z3 z4 z5 z6 z7 z8 z9 z10 z11 z12 z13 z14 z15 z16 z17 z18 z19 z20 z21 z22 z23 z24 z25 z26 z27 z28 z29 z30 z31 z32 z33 z34 z35 z36 z37 z38 z39 z40 xs) s = _
    unfold law29_PlannerSteps_B3
    rw [serves_eq, rserves_eq, serves_eq, rserves_eq]
    simp only [Option.bind_some]
    rw [if_neg (fun h => h rfl)]
    simp only [Option.bind_some]
    rw [if_neg (by simp)]
    exact st_L3 kx z0 z1 z2 z3 z4 z5 z6 z7 z8 z9 z10 z11 z12 z13 z14 z15 z16 z17 z18 z19 z20 z21 z22 z23 z24 z25 z26 z27 z28 z29 z30 z31 z32 z33 z34 z35 z36 z37 z38 z39 z40 xs
theorem cand_len (x : Wnt) : (candI x).1.length ≤ 1000000 := by
  unfold candI
  by_cases h : okW x
  · rw [if_pos h]
    have := pick_len x (allS x.1.toNat)
    have := allS_len (n := x.1.toNat) (by have := h.1; omega)
    dsimp only; omega
  · rw [if_neg h]; simp
theorem st_J2 (rec : List Int → Int → Int → Int → Int → Int → Int → Int → Int → Int → Int → Int → Int → Int → Int → Int → Int → Int → Int → Int → Int → Int → Int → Int → Int → Int → Int → Int → Int → Int → Int → Int → Option Bool) (l : List Int) (z0 z1 z2 z3 z4 z5 z6 z7 z8 z9 z10 z11 z12 z13 z14 z15 z16 z17 z18 z19 z20 z21 z22 z23 z24 z25 z26 z27 z28 z29 z30 z31 z32 z33 z34 z35 z36 z37 z38 z39 z40 : Int) : law29_PlannerSteps_J2 rec l z0 z1 z2 z3 z4 z5 z6 z7 z8 z9 z10 z11 z12 z13 z14 z15 z16 z17 z18 z19 z20 z21 z22 z23 z24 z25 z26 z27 z28 z29 z30 z31 z32 z33 z34 z35 z36 z37 z38 z39 z40 = rec l z0 z11 z12 z13 z14 z15 z16 z17 z18 z19 z20 z21 z22 z23 z24 z25 z26 z27 z28 z29 z30 z31 z32 z33 z34 z35 z36 z37 z38 z39 z40 := by
  unfold law29_PlannerSteps_J2
  rw [cand_eq, rcand_eq, best_eq, rbest_eq]
  generalize hc : candI (z1, z2, z3, z4, z5, z6, z7, z8, z9, z10) = c
  generalize bestI (z1, z2, z3, z4, z5, z6, z7, z8, z9, z10) = b
  have hl : c.1.length ≤ 1000000 := by rw [← hc]; exact cand_len _
  simp only [Option.bind_some]
  rw [if_neg (fun h => h rfl), rsame_eq hl, psame_eq, rsame_eq hl, psame_eq]
  simp
theorem st_L4 {l : List Int} (hl : Dl l) (kx : List Int → Int → Int → Int → Int → Int → Int → Int → Int → Int → Int → Int → Int → Int → Int → Int → Int → Int → Int → Int → Int → Int → Int → Int → Int → Int → Int → Int → Int → Int → Int → Int → Option Bool) (z11 z12 z13 z14 z15 z16 z17 z18 z19 z20 z21 z22 z23 z24 z25 z26 z27 z28 z29 z30 z31 z32 z33 z34 z35 z36 z37 z38 z39 z40 : Int) (hk : ∀ p, kx l p z11 z12 z13 z14 z15 z16 z17 z18 z19 z20 z21 z22 z23 z24 z25 z26 z27 z28 z29 z30 z31 z32 z33 z34 z35 z36 z37 z38 z39 z40 = some true) : ∀ (xs : List Wnt) (d : List Int × Int), Dk l d → law29_PlannerSteps_L4 kx xs d.1 d.2 z11 z12 z13 z14 z15 z16 z17 z18 z19 z20 z21 z22 z23 z24 z25 z26 z27 z28 z29 z30 z31 z32 z33 z34 z35 z36 z37 z38 z39 z40 = some true
  | [], d, hd => by
    show kx d.1 d.2 z11 z12 z13 z14 z15 z16 z17 z18 z19 z20 z21 z22 z23 z24 z25 z26 z27 z28 z29 z30 z31 z32 z33 z34 z35 z36 z37 z38 z39 z40 = _
    rw [hd.1]; exact hk _
  | x :: xs, d, hd => by
    show law29_PlannerSteps_B4 kx (law29_PlannerSteps_L4 kx xs) x d.1 d.2 z11 z12 z13 z14 z15 z16 z17 z18 z19 z20 z21 z22 z23 z24 z25 z26 z27 z28 z29 z30 z31 z32 z33 z34 z35 z36 z37 z38 z39 z40 = _
    unfold law29_PlannerSteps_B4
    rw [valid_eq, rvalid_eq]
    simp only [Option.bind_some]
    rw [if_neg (fun h => h rfl)]
    obtain ⟨s, e, h1, k1⟩ := odd_ok hl hd
    rw [show (d.1, d.2) = d from rfl, h1]
    simp only [Option.bind_some]
    obtain ⟨t, e2, h2, k2⟩ := scheme_ok hl k1
    rw [h2]
    simp only [Option.bind_some]
    rw [st_L3, st_J2]
    exact st_L4 hl kx z11 z12 z13 z14 z15 z16 z17 z18 z19 z20 z21 z22 z23 z24 z25 z26 z27 z28 z29 z30 z31 z32 z33 z34 z35 z36 z37 z38 z39 z40 hk xs e2 k2
theorem law_steps29 {x0 : List Int} (h0 : ∀ y ∈ x0, 0 ≤ y ∧ y ≤ 255) (x1 : Wnt) (x2 : Sch) (x3 x4 : Cho) : law29_PlannerSteps x0 x1 x2 x3 x4 = some true := by
  unfold law29_PlannerSteps
  rw [sane29]
  simp only [Option.bind_some]
  rw [if_neg (by decide)]
  obtain ⟨d, e1, hl, hd⟩ := new_ok h0
  rw [e1]; simp only [Option.bind_some]
  obtain ⟨x, e, e2, _, he⟩ := wanted_ok hl hd
  rw [e2]; simp only [Option.bind_some]
  obtain ⟨y, e', e3, _, he'⟩ := wanted_ok hl he
  rw [e3]; simp only [Option.bind_some]
  refine st_L4 hl law29_PlannerSteps_J1 _ _ _ _ _ _ _ _ _ _ _ _ _ _ _ _ _ _ _ _ _ _ _ _ _ _ _ _ _ _ (fun p => ?_) _ e' he'
  unfold law29_PlannerSteps_J1 planner_Better ref29_Better
  simp
end Go.Proofs.Ytmjidoadjinhgaa
