/- Chapter 29, plain: candidates, the best one. -/
import Derived.Test.YtmjidoadjinhgaaC29b
namespace Go.Proofs.Ytmjidoadjinhgaa

theorem range_from {α : Type} (g : Nat → α) {c k : Nat} (h : k < c) : (List.range (c - k)).map (fun t => g (k + t)) = g k :: (List.range (c - (k + 1))).map fun t => g (k + 1 + t) := by
  rw [show c - k = (c - (k + 1)) + 1 by omega, List.range_succ_eq_map, List.map_cons, List.map_map]
  congr 1
  apply List.map_congr_left
  intro a _
  show g (k + (a + 1)) = g (k + 1 + a)
  congr 1; omega
theorem rangef_from {α : Type} (g : Nat → List α) {c k : Nat} (h : k < c) : (List.range (c - k)).flatMap (fun t => g (k + t)) = g k ++ (List.range (c - (k + 1))).flatMap fun t => g (k + 1 + t) := by
  have := congrArg List.flatten (range_from g h)
  simpa [List.flatMap_def] using this

def s2 (n : Nat) (t : Nat) : Sch := (2, (n : Int), (t : Int), 0)
def s3 (n : Nat) (b a : Nat) : Sch := (3, (n : Int), (a : Int), (b : Int))
/-- All schemes that the planner looks at. -/
def allS (n : Nat) : List Sch := (1, (n : Int), 0, 0) :: ((List.range n).map (s2 n) ++ (List.range n).flatMap fun b => (List.range n).map (s3 n b))
/-- All schemes that the document looks at. -/
def allR (n : Nat) : List Sch := (1, (n : Int), 0, 0) :: ((List.range (n - 1)).map (fun t => s2 n (1 + t)) ++ (List.range n).flatMap fun b => (List.range n).map fun a => s3 n (1 + b) (1 + a))

theorem yc_map {α : Type} (y : α) (o : Option (List α)) : yc y o = o.map (y :: ·) := rfl
theorem sch_L4 {n : Nat} (hn : n ≤ 100) (kx : Option (List Sch)) : ∀ (f v : Nat), v ≤ n → n - v < f → planner_schemes_f1_L4 kx (n : Int) f (v : Int) = kx.map (((List.range (n - v)).map fun t => s2 n (v + t)) ++ ·)
  | 0, v, _, h => by omega
  | f + 1, v, h1, h2 => by
    show planner_schemes_f1_B4 kx (n : Int) (planner_schemes_f1_L4 kx (n : Int) f) (v : Int) = _
    unfold planner_schemes_f1_B4
    split
    · rw [w64_id (by omega) (by omega), show ((v : Int) + 1) = ((v + 1 : Nat) : Int) by omega, sch_L4 hn kx f (v + 1) (by omega) (by omega), yc_map, Option.map_map, range_from (s2 n) (by omega : v < n)]
      rfl
    · rw [show n - v = 0 by omega]
      cases kx <;> rfl
theorem sch_L1 {n : Nat} (hn : n ≤ 100) (rec : Int → Option (List Sch)) {b : Nat} (hb : b ≤ n) : ∀ (f a : Nat), a ≤ n → n - a < f → planner_schemes_f1_L1 rec (b : Int) (n : Int) f (a : Int) = (rec ((b + 1 : Nat) : Int)).map (((List.range (n - a)).map fun t => s3 n b (a + t)) ++ ·)
  | 0, v, _, h => by omega
  | f + 1, v, h1, h2 => by
    show planner_schemes_f1_B1 rec (b : Int) (n : Int) (planner_schemes_f1_L1 rec (b : Int) (n : Int) f) (v : Int) = _
    unfold planner_schemes_f1_B1
    split
    · rw [w64_id (by omega) (by omega), show ((v : Int) + 1) = ((v + 1 : Nat) : Int) by omega, sch_L1 hn rec hb f (v + 1) (by omega) (by omega), yc_map, Option.map_map, range_from (s3 n b) (by omega : v < n)]
      rfl
    · rw [show n - v = 0 by omega, w64_id (by omega) (by omega), show ((b : Int) + 1) = ((b + 1 : Nat) : Int) by omega]
      cases rec ((b + 1 : Nat) : Int) <;> rfl
theorem sch_L2 {n : Nat} (hn : n ≤ 100) : ∀ (f b : Nat), b ≤ n → n - b < f → planner_schemes_f1_L2 (n : Int) f (b : Int) = some ((List.range (n - b)).flatMap fun t => (List.range n).map (s3 n (b + t)))
  | 0, v, _, h => by omega
  | f + 1, v, h1, h2 => by
    show planner_schemes_f1_B2 (n : Int) (planner_schemes_f1_L2 (n : Int) f) (v : Int) = _
    unfold planner_schemes_f1_B2
    split
    · have := sch_L1 hn (planner_schemes_f1_L2 (n : Int) f) h1 big 0 (by omega) (by simp only [big]; omega)
      rw [show (0 : Int) = ((0 : Nat) : Int) from rfl, this, sch_L2 hn f (v + 1) (by omega) (by omega), rangef_from (fun b => (List.range n).map (s3 n b)) (by omega : v < n)]
      simp
    · rw [show n - v = 0 by omega]; rfl
theorem schemes_eq {n : Nat} (hn : n ≤ 100) : planner_schemes (n : Int) = some (allS n) := by
  unfold planner_schemes planner_schemes_f1 planner_schemes_f1_J3
  have e1 := sch_L2 hn big 0 (by omega) (by simp only [big]; omega)
  have e2 := sch_L4 hn (planner_schemes_f1_L2 (n : Int) big 0) big 0 (by omega) (by simp only [big]; omega)
  rw [show (0 : Int) = ((0 : Nat) : Int) from rfl] at e2 ⊢
  rw [e2, e1, yc_map]
  simp only [Option.map_some, Option.bind_some, Nat.sub_zero, Nat.zero_add]
  rfl

/-- A choice. -/
def cho (x : Wnt) (s : Sch) : Cho := (s, (costI s x.2.2.2.2.1 x.2.2.2.2.2.1 x.2.2.2.2.2.2.1).1, sumI (costI s x.2.2.2.2.1 x.2.2.2.2.2.1 x.2.2.2.2.2.2.1).1 x.2.2.2.2.2.2.2)
def pick (x : Wnt) (l : List Sch) : List Cho := (l.filter fun s => decide (servesP s x)).map (cho x)
theorem pick_cons (x : Wnt) (s : Sch) (l : List Sch) : pick x (s :: l) = if servesP s x then cho x s :: pick x l else pick x l := by
  unfold pick
  rw [List.filter_cons]
  by_cases h : servesP s x
  · rw [if_pos h, if_pos (bt h)]; rfl
  · rw [if_neg h, if_neg (bf h)]
theorem pick_len (x : Wnt) (l : List Sch) : (pick x l).length ≤ l.length := by
  unfold pick; rw [List.length_map]; exact List.length_filter_le _ _

theorem cand_L (kx : List Cho → Option (List Cho × Int)) (n c s w r wd p y1 y2 y3 : Int) : ∀ (xs : List Sch) (acc : List Cho), acc.length + xs.length ≤ 1000000 →
    planner_Candidates_L2 kx n c s w r wd p y1 y2 y3 xs acc = kx (acc ++ pick (n, c, s, w, r, wd, p, y1, y2, y3) xs)
  | [], acc, _ => by simp [pick, planner_Candidates_L2]
  | x :: xs, acc, h => by
    simp only [List.length_cons] at h
    show planner_Candidates_B2 kx n c s w r wd p y1 y2 y3 (planner_Candidates_L2 kx n c s w r wd p y1 y2 y3 xs) x acc = _
    unfold planner_Candidates_B2
    rw [serves_eq, pick_cons]
    simp only [Option.bind_some]
    by_cases hs : servesP x (n, c, s, w, r, wd, p, y1, y2, y3)
    · rw [if_neg (nb_t hs), if_pos hs, of_eq]
      simp only [Option.bind_some]
      rw [sum_eq]
      simp only [Option.bind_some]
      rw [lapp_ok (by simp; omega)]
      simp only [Option.bind_some]
      rw [cand_L kx n c s w r wd p y1 y2 y3 xs _ (by simp; omega), List.append_assoc]
      rfl
    · rw [if_pos (nb_f hs), if_neg hs, cand_L kx n c s w r wd p y1 y2 y3 xs _ (by omega)]

theorem fm_len {α β : Type} (f : α → List β) (m : Nat) (h : ∀ x, (f x).length = m) : ∀ l : List α, (l.flatMap f).length = l.length * m
  | [] => by simp
  | x :: l => by rw [List.flatMap_cons, List.length_append, h, fm_len f m h l, List.length_cons, Nat.add_mul]; omega
theorem allS_len {n : Nat} (hn : n ≤ 10) : (allS n).length ≤ 1000 := by
  have : ((List.range n).flatMap fun b => (List.range n).map (s3 n b)).length = n * n := by rw [fm_len _ n (fun _ => by simp)]; simp
  unfold allS
  rw [List.length_cons, List.length_append, this]
  simp
  have := Nat.mul_le_mul hn hn
  omega

/-- Candidates. -/
def candI (x : Wnt) : List Cho × Int := if okW x then (pick x (allS x.1.toNat), 0) else ([], 42)
theorem cand_eq (x : Wnt) : planner_Candidates x = some (candI x) := by
  unfold planner_Candidates candI
  rw [valid_eq]
  simp only [Option.bind_some]
  by_cases h : okW x
  · rw [if_neg (nb_t h), if_pos h]
    obtain ⟨n, c, s, w, r, wd, p, y1, y2, y3⟩ := x
    have h1 := h.1
    dsimp only at h1 ⊢
    have e := schemes_eq (n := n.toNat) (by omega)
    rw [show ((n.toNat : Nat) : Int) = n by omega] at e
    rw [e]
    simp only [Option.bind_some]
    rw [cand_L _ _ _ _ _ _ _ _ _ _ _ _ _ (by have := allS_len (n := n.toNat) (by omega); simp; omega)]
    rfl
  · rw [if_pos (nb_f h), if_neg h]

/-- The best of c and others. -/
def bst : Cho → List Cho → Cho
  | c, [] => c
  | c, x :: xs => bst (if x.2.2 < c.2.2 then x else c) xs
theorem best_L (n c s w r wd p y1 y2 y3 : Int) : ∀ (xs : List Cho) (b : Cho), planner_Best_L2 planner_Best_J1 n c s w r wd p y1 y2 y3 xs b.1.1 b.1.2.1 b.1.2.2.1 b.1.2.2.2 b.2.1.1 b.2.1.2.1 b.2.1.2.2 b.2.2 = some (bst b xs, 0)
  | [], b => rfl
  | x :: xs, b => by
    show planner_Best_B2 planner_Best_J1 n c s w r wd p y1 y2 y3 (planner_Best_L2 planner_Best_J1 n c s w r wd p y1 y2 y3 xs) x _ _ _ _ _ _ _ _ = _
    unfold planner_Best_B2 planner_Better
    simp only [Option.bind_some]
    by_cases h : x.2.2 < b.2.2
    · rw [if_pos (bt h), best_L n c s w r wd p y1 y2 y3 xs x]
      simp only [bst]; rw [if_pos h]
    · rw [if_neg (bf h), best_L n c s w r wd p y1 y2 y3 xs b]
      simp only [bst]; rw [if_neg h]
/-- Best. -/
def bestI (x : Wnt) : Cho × Int := if okW x then (match pick x (allS x.1.toNat) with | [] => (((0, 0, 0, 0), (0, 0, 0), 0), 6) | c :: cs => (bst c cs, 0)) else (((0, 0, 0, 0), (0, 0, 0), 0), 42)
theorem best_eq (x : Wnt) : planner_Best x = some (bestI x) := by
  unfold planner_Best bestI
  rw [cand_eq]
  simp only [Option.bind_some, candI]
  by_cases h : okW x
  · rw [if_pos h, if_pos h]
    rw [if_neg (show ¬ ((0 : Int) ≠ 0) by decide)]
    cases hp : pick x (allS x.1.toNat) with
    | nil => rw [if_pos (by simp)]
    | cons b cs =>
      rw [if_neg (by simp; omega)]
      rw [show (0 : Int) = ((0 : Nat) : Int) from rfl, lidx_nat ((0, 0, 0, 0), (0, 0, 0), 0) (by simp), lsub_ok (by omega) (by simp; omega) (by simp)]
      simp only [Option.bind_some]
      have := best_L x.1 x.2.1 x.2.2.1 x.2.2.2.1 x.2.2.2.2.1 x.2.2.2.2.2.1 x.2.2.2.2.2.2.1 x.2.2.2.2.2.2.2.1 x.2.2.2.2.2.2.2.2.1 x.2.2.2.2.2.2.2.2.2 cs b
      have e : (((b :: cs).drop (1 : Int).toNat).take (((b :: cs).length : Int) - 1).toNat) = cs := by simp
      rw [e]
      exact this
  · rw [if_neg h, if_neg h]; rfl
end Go.Proofs.Ytmjidoadjinhgaa
