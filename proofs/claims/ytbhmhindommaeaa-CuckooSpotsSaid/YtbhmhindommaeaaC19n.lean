/- Chapter 19, plain: CuckooOrder. -/
import Derived.Test.YtbhmhindommaeaaC19m
namespace Go.Proofs.Ytbhmhindommaeaa
set_option linter.unusedVariables false

theorem order_ok {l : List Int} (hl : l.length ≤ 1000) {d : List Int × Int} (hd : Dk l d) {n : Nat} (hn : n ≤ 500) : ∃ r e, make_Order d n = some (r, e) ∧ Dk l e ∧ r.Perm ((List.range n).map fun (i : Nat) => (i : Int)) := by
  unfold make_Order
  have := order_L3 (l := l) n d.2 (make_Order_J2 d.1) n 0 big (by omega) (by simp only [big]; omega) (by omega)
  simp only [List.range_zero, List.map_nil] at this
  rw [show ((0 : Nat) : Int) = 0 from rfl] at this
  rw [this]
  unfold make_Order_J2
  obtain ⟨r, e, h1, h2, h3⟩ := order_L1 hl n big ((List.range n).map fun (i : Nat) => (i : Int)) [] d (by simp) (by simp only [big]; omega) (by simp; omega) hd
  exact ⟨r, e, h1, h2, by simpa using h3⟩

theorem pickL (l : List Int) (kx : List Int → Int → Int → Option Bool) (a b : Int) : ∀ (os acc : List Int), (∀ x ∈ os, 0 ≤ x ∧ x < l.length) → acc.length + os.length ≤ 1000 → law19_CuckooOrder_L4 kx a b l os acc = kx (acc ++ os.map fun x => at' 0 l x) a b
  | [], acc, _, _ => by simp [law19_CuckooOrder_L4]
  | x :: os, acc, hx, hl => by
    rw [law19_CuckooOrder_L4]
    unfold law19_CuckooOrder_B4
    simp only [List.length_cons] at hl
    rw [at_idx 0 (hx x List.mem_cons_self).1 (hx x List.mem_cons_self).2]
    simp only [Option.bind_some]
    rw [lapp_ok (by simp; omega)]
    simp only [Option.bind_some]
    rw [pickL l kx a b os _ (fun y hy => hx y (List.mem_cons_of_mem _ hy)) (by simp; omega)]
    simp

theorem usedL (kx : Int → Int → Int → Option Bool) (a b : Int) : ∀ (xs : List Int) (n : Nat), n + xs.length ≤ 1000 → law19_CuckooOrder_L2 kx a b xs (n : Int) = kx ((n + (xs.filter fun x => decide (0 ≤ x)).length : Nat) : Int) a b
  | [], n, _ => by simp [law19_CuckooOrder_L2]
  | x :: xs, n, hl => by
    simp only [List.length_cons] at hl
    rw [law19_CuckooOrder_L2]
    unfold law19_CuckooOrder_B2
    by_cases h : 0 ≤ x
    · rw [if_pos h, w64_id (by omega) (by omega), show (n : Int) + 1 = ((n + 1 : Nat) : Int) from by omega, usedL kx a b xs (n + 1) (by omega)]
      congr 1
      simp [h]; omega
    · rw [if_neg h, usedL kx a b xs n (by omega)]
      simp [h]

theorem nodup_of_count : ∀ {l : List Int}, (∀ x, l.count x ≤ 1) → l.Nodup
  | [], _ => List.nodup_nil
  | x :: l, h => by
    refine List.nodup_cons.2 ⟨fun hm => ?_, nodup_of_count fun y => ?_⟩
    · have := h x
      rw [List.count_cons_self] at this
      have := List.count_pos_iff.2 hm
      omega
    · have := h y
      rw [List.count_cons] at this
      omega

theorem Asg.used {B : Int} {homes : List (List Int)} {bk : Bk} (h : Asg B homes bk) : (bk.filter fun x => decide (0 ≤ x)).length = homes.length := by
  have hn : (bk.filter fun x => decide (0 ≤ x)).Nodup := nodup_of_count fun x => by
    by_cases hx : 0 ≤ x
    · have h1 := (List.filter_sublist (p := fun x => decide (0 ≤ x)) (l := bk)).count_le x
      have := h.le x hx
      omega
    · have : (bk.filter fun x => decide (0 ≤ x)).count x = 0 := List.count_eq_zero.2 fun hm => by
        have := (List.mem_filter.1 hm).2
        simp at this; omega
      omega
  have hb := h.ok.1
  have h1 := pig hn (m := (List.range homes.length).map fun (i : Nat) => (i : Int)) fun x hx => by
    obtain ⟨h2, h3⟩ := List.mem_filter.1 hx
    have := (h.ok.2 x h2).2
    have h4 : 0 ≤ x := by simpa using h3
    exact List.mem_map.2 ⟨x.toNat, List.mem_range.2 (by omega), by omega⟩
  have h2 := pig (l := (List.range homes.length).map fun (i : Nat) => (i : Int)) (m := bk.filter fun x => decide (0 ≤ x)) (nodup_map List.nodup_range fun x _ y _ e => by omega) fun x hx => by
    obtain ⟨i, hi, rfl⟩ := List.mem_map.1 hx
    obtain ⟨b, b0, bB, _, e⟩ := h.has i (by omega) (by have := List.mem_range.1 hi; omega)
    refine List.mem_filter.2 ⟨?_, by simp⟩
    rw [← e]; exact at_mem (-1) b0 (by omega)
  simp at h1 h2
  omega

theorem law_order (t : List Int) : law19_CuckooOrder t = some true := by
  unfold law19_CuckooOrder make_Few make_New
  rw [sane19]
  simp only [Option.bind_some, Bool.not_true, Bool.false_eq_true, if_false]
  by_cases hf : (t.length : Int) ≤ 500
  · rw [if_neg (by simp [hf])]
    have hl : t.length ≤ 1000 := by omega
    obtain ⟨h, e1, k1, hk, h8, d1⟩ := hashing_ok hl (d := (t, 0)) ⟨rfl, by omega, by omega⟩
    rw [k1]
    simp only [Option.bind_some]
    obtain ⟨l, e2, k2, d2, hlen, hr⟩ := items_ok hl d1 (B := h.1) ⟨hk.1, by omega⟩
    rw [k2]
    simp only [Option.bind_some]
    obtain ⟨os, e3, k3, d3, hp⟩ := order_ok hl d2 (n := l.length) (by omega)
    rw [k3]
    simp only [Option.bind_some]
    have hos : ∀ x ∈ os, 0 ≤ x ∧ x < l.length := fun x hx => by
      obtain ⟨i, hi, rfl⟩ := List.mem_map.1 (hp.mem_iff.1 hx)
      have := List.mem_range.1 hi
      omega
    have hol : os.length = l.length := by rw [hp.length_eq]; simp
    rw [pickL l _ _ _ os [] hos (by simp; omega)]
    simp only [List.nil_append]
    have hml : (os.map fun x => at' 0 l x).Perm l := by
      have h1 := hp.map (fun x => at' 0 l x)
      have h2 : ((List.range l.length).map fun (i : Nat) => (i : Int)).map (fun x => at' 0 l x) = l := by
        rw [List.map_map]
        apply List.ext_getElem (by simp)
        intro n a b
        simp only [List.getElem_map, List.getElem_range, Function.comp]
        unfold at'
        rw [Int.toNat_natCast, List.getD_eq_getElem?_getD, List.getElem?_eq_getElem b]; rfl
      rwa [h2] at h1
    generalize hm : (os.map fun x => at' 0 l x) = m at hml ⊢
    have hit : ∀ n ∈ l, ItemOK n := fun n hn => by have := hr n hn; unfold ItemOK; omega
    have hitm : ∀ n ∈ m, ItemOK n := fun n hn => hit n (hml.mem_iff.1 hn)
    have hmlen := hml.length_eq
    have hpp := placeable_perm (fixed := nofix h) (hml.map (homeL h))
    unfold law19_CuckooOrder_J3
    rw [show (h.1, h.2) = h from rfl]
    rcases assign_ok h l (by omega) with ⟨a, _⟩ | ⟨_, ⟨n, hn, a⟩, _⟩ | ⟨_, _, a, _⟩ | ⟨_, _, _, a1, a2, _⟩ | ⟨_, _, _, a1, bk, fx, a2, _, a3, a4⟩
    · exact absurd hk a
    · exact absurd (hit n hn) a
    · omega
    · rcases assign_ok h m (by omega) with ⟨b, _⟩ | ⟨_, ⟨n, hn, b⟩, _⟩ | ⟨_, _, b, _⟩ | ⟨_, _, _, b1, b2, _⟩ | ⟨_, _, _, b1, _⟩
      · exact absurd hk b
      · exact absurd (hitm n hn) b
      · omega
      · rw [a2, b2]; simp
      · exact absurd (hpp.1 b1) a1
    · rcases assign_ok h m (by omega) with ⟨b, _⟩ | ⟨_, ⟨n, hn, b⟩, _⟩ | ⟨_, _, b, _⟩ | ⟨_, _, _, b1, _⟩ | ⟨_, _, _, b1, bk2, fx2, b2, _, b3, b4⟩
      · exact absurd hk b
      · exact absurd (hitm n hn) b
      · omega
      · exact absurd (hpp.2 a1) b1
      · rw [a2, b2]
        simp only [Option.bind_some]
        rw [if_neg (by simp), if_neg (by simp)]
        have hA := asg_of (homesOK hk l) a3 a4
        have hA2 := asg_of (homesOK hk m) b3 b4
        have hb := hA.ok.1
        have := usedL (law19_CuckooOrder_J1 m l h.2 bk2) e3.2 h.1 bk 0 (by omega)
        rw [show ((0 : Nat) : Int) = 0 from rfl] at this
        rw [this, hA.used]
        unfold law19_CuckooOrder_J1
        rw [if_pos (by simp), show (h.1, h.2) = h from rfl, fits_yes hk hitm (by omega) hA2]
        simp [hA2.ok.1]
  · rw [if_pos (by simp [hf])]
end Go.Proofs.Ytbhmhindommaeaa
