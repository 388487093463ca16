/- Chapter 19, plain: CuckooParts. -/
import Derived.Test.YtbhmhindommaeaaC19p
namespace Go.Proofs.Ytbhmhindommaeaa
set_option linter.unusedVariables false

theorem hashing3_ok {l : List Int} (hl : l.length ≤ 1000) {d : List Int × Int} (hd : Dk l d) : ∃ h e, make_Hashing d = some (h, e) ∧ HshOK h ∧ h.1 ≤ 8 ∧ h.2.length ≤ 3 ∧ Dk l e := by
  unfold make_Hashing
  obtain ⟨v, e1, h1, a1, b1, c1⟩ := next_ok hl hd (n := 8) (by omega)
  rw [h1]
  simp only [Option.bind_some]
  obtain ⟨k, e2, h2, a2, b2, c2⟩ := next_ok hl c1 (n := 3) (by omega)
  rw [h2]
  simp only [Option.bind_some]
  rw [w64_id (by omega) (by omega)]
  obtain ⟨qs, e, k1, k2, k3, k4⟩ := hashing_L hl (1 + v) (k.toNat + 1) big e2 [] (by simp only [big]; omega) (by omega) (by simp; omega) c2 (by simp)
  rw [show (((k.toNat + 1 : Nat) : Int) - 1) = k from by omega] at k1
  exact ⟨(1 + v, qs), e, k1, ⟨by dsimp only; omega, by dsimp only; omega, by dsimp only; simp at k3; omega, by dsimp only; simp at k3; omega, k4⟩, by dsimp only; omega, by dsimp only; simp at k3; omega, k2⟩

theorem mod_big {x n : Int} (hn : 1 ≤ n) (hn2 : n ≤ 1000000000000000000) : make_Mod x n = some (x % n) := by
  have h1 : -n < Int.tmod x n := by
    have := Int.lt_tmod_of_pos x (by omega : (0 : Int) < n); omega
  have h2 : Int.tmod x n < n := Int.tmod_lt_of_pos x (by omega)
  unfold make_Mod
  rw [nz_ok (by omega)]
  simp only [Option.bind_some]
  rw [w64_id (by omega) (by omega)]
  have h3 : Int.tmod (Int.tmod x n + n) n = (Int.tmod x n + n) % n := Int.tmod_eq_emod_of_nonneg (by omega)
  rw [h3]
  congr 1
  have h4 : (Int.tmod x n + n) % n = Int.tmod x n % n := by simp
  rw [h4]
  have h5 : Int.tmod x n = x - n * Int.tdiv x n := by have := Int.tmod_add_mul_tdiv x n; omega
  rw [h5, Int.sub_mul_emod_self_left]

theorem bad_mono {h g : Hsh} (he : g.1 = h.1) (hs : ∀ x, ∀ b ∈ homeL h x, b ∈ homeL g x) (s : List Int) (hb : bad g s = true) : bad h s = true := by
  rw [bad_iff] at hb ⊢
  rcases hb with hb | hb
  · exact .inl (by rw [← he]; exact hb)
  · refine .inr fun hp => hb ?_
    rw [placesL_of] at hp ⊢
    rw [show nofix g = nofix h from by unfold nofix; rw [he]]
    exact PlacesL.more (fun x _ => hs x) hp

theorem assign0 (h : Hsh) (hk : HshOK h) (l : List Int) (hl : l.length ≤ h.1) (hi : ∀ n ∈ l, ItemOK n) : ∃ bk e, cuckoo_Assign h l = some (bk, e) ∧ (e = 0 ↔ PlacesL (l.map (homeL h)) (nofix h)) := by
  have hb := hk.2.1
  rcases assign_ok h l (by omega) with ⟨a, _⟩ | ⟨_, ⟨n, hn, a⟩, _⟩ | ⟨_, _, a, _⟩ | ⟨_, _, _, a1, a2, _⟩ | ⟨_, _, _, a1, bk, fx, a2, _⟩
  · exact absurd hk a
  · exact absurd (hi n hn) a
  · omega
  · exact ⟨_, _, a2, by rw [← placesL_of]; simp [a1]⟩
  · exact ⟨_, _, a2, by rw [← placesL_of]; simp [a1]⟩

theorem sets6 {s : Nat} (h : s = 1 ∨ s = 2 ∨ s = 3) : ∃ c, cuckoo_sets ((6 : Nat) : Int) (s : Int) = some c ∧ c ≤ 4096 ∧ (combos s (rg 0 6)).length ≤ 1000000 := by
  rcases h with rfl | rfl | rfl
  · exact ⟨6, by kernel_rfl, by omega, by rw [show (combos 1 (rg 0 6)).length = 6 from rfl]; omega⟩
  · exact ⟨15, by kernel_rfl, by omega, by rw [show (combos 2 (rg 0 6)).length = 15 from rfl]; omega⟩
  · exact ⟨20, by kernel_rfl, by omega, by rw [show (combos 3 (rg 0 6)).length = 20 from rfl]; omega⟩

theorem law_parts (t : List Int) (cut : Int) (hcut : 0 ≤ cut ∧ cut ≤ 255) (more : Int × Int) : law19_CuckooParts t cut more = some true := by
  unfold law19_CuckooParts make_Few make_New
  rw [sane19]
  simp only [Option.bind_some, Bool.not_true, Bool.false_eq_true, if_false]
  by_cases hf : (t.length : Int) ≤ 500
  · rw [if_neg (by simp [hf])]
    have hl : t.length ≤ 1000 := by omega
    obtain ⟨h, e1, k1, hk, h8, h3, d1⟩ := hashing3_ok hl (d := (t, 0)) ⟨rfl, by omega, by omega⟩
    rw [k1]
    simp only [Option.bind_some]
    obtain ⟨l, e2, k2, d2, hlen, hr⟩ := items_ok hl d1 (B := h.1) ⟨hk.1, by omega⟩
    rw [k2]
    simp only [Option.bind_some]
    have hit : ∀ n ∈ l, ItemOK n := fun n hn => by have := hr n hn; unfold ItemOK; omega
    have hb1 := hk.1
    obtain ⟨bk, e, ea, he⟩ := assign0 h hk l hlen hit
    rw [ea]
    simp only [Option.bind_some]
    rw [w64_id (x := cut) (by omega) (by omega), w64_id (x := (l.length : Int) + 1) (by omega) (by omega), nz_ok (by omega)]
    simp only [Option.bind_some]
    generalize hkk : Int.tmod cut ((l.length : Int) + 1) = k
    have hk0 : 0 ≤ k := by rw [← hkk]; exact Int.tmod_nonneg _ (by omega)
    have hkl : k < (l.length : Int) + 1 := by rw [← hkk]; exact Int.tmod_lt_of_pos _ (by omega)
    rw [lsub_ok (by omega) (by omega) (by omega), w64_id (x := k + 1) (by omega) (by omega)]
    simp only [Option.bind_some]
    rw [lsub_ok (by omega) (by omega) (by omega)]
    simp only [Option.bind_some]
    rw [lapp_ok (by simp; omega)]
    simp only [Option.bind_some, List.nil_append]
    generalize hm : (l.drop (0 : Int).toNat).take (k - 0).toNat ++ (l.drop (min (k + 1) (l.length : Int)).toNat).take ((l.length : Int) - min (k + 1) (l.length : Int)).toNat = m
    have hsub : m.Sublist l := by
      rw [← hm]
      have h1 : ((l.drop (0 : Int).toNat).take (k - 0).toNat) = l.take k.toNat := by simp
      have h2 : (l.drop (min (k + 1) (l.length : Int)).toNat).take ((l.length : Int) - min (k + 1) (l.length : Int)).toNat = l.drop (min (k + 1) (l.length : Int)).toNat := List.take_of_length_le (by simp; omega)
      rw [h1, h2]
      have h3 : (l.drop (min (k + 1) (l.length : Int)).toNat).Sublist (l.drop k.toNat) := by
        have : (min (k + 1) (l.length : Int)).toNat = k.toNat + ((min (k + 1) (l.length : Int)).toNat - k.toNat) := by omega
        rw [this, ← List.drop_drop]
        exact List.drop_sublist _ _
      have := (List.Sublist.refl (l.take k.toNat)).append h3
      rwa [List.take_append_drop] at this
    have hml := hsub.length_le
    rw [lapp_ok (by simp; omega)]
    simp only [Option.bind_some]
    rw [hm]
    obtain ⟨bk2, f, fa, hfp⟩ := assign0 h hk m (by omega) (fun n hn => hit n (hsub.subset hn))
    rw [fa]
    simp only [Option.bind_some]
    unfold law19_CuckooParts_J2
    rw [lapp_ok (by simp; omega)]
    simp only [Option.bind_some, List.nil_append]
    rw [mod_big (by omega) (by omega), mod_big (by omega) (by omega)]
    simp only [Option.bind_some]
    rw [lapp_ok (by simp; omega)]
    simp only [Option.bind_some]
    unfold law19_CuckooParts_J1
    generalize hp : (more.1 % 2147483647, more.2 % 2147483647) = p
    have hpo : PairOK p := by rw [← hp]; unfold PairOK; dsimp only; omega
    have hg : HshOK (h.1, h.2 ++ [p]) := ⟨hk.1, hk.2.1, by simp, by simp; omega, fun q hq => by
      rcases List.mem_append.1 hq with hq | hq
      · exact hk.2.2.2.2 q hq
      · rw [List.mem_singleton.1 hq]; exact hpo⟩
    have hsubh : ∀ x, ∀ b ∈ homeL h x, b ∈ homeL (h.1, h.2 ++ [p]) x := fun x b hb => by
      unfold homeL at hb ⊢
      simp only [List.map_append, List.mem_append]
      exact .inl hb
    obtain ⟨bk3, i, ia, hip⟩ := assign0 (h.1, h.2 ++ [p]) hg l hlen hit
    rw [ia]
    simp only [Option.bind_some]
    have hmin : min 3 h.1 = ((min 3 h.1.toNat : Nat) : Int) := by omega
    obtain ⟨c, hc1, hc2, hc3⟩ := sets6 (s := min 3 h.1.toNat) (by omega)
    rw [hmin, show (6 : Int) = ((6 : Nat) : Int) from rfl, show (h.1, h.2) = h from rfl, failures_ok hk (items := 6) (by omega) (by omega) hc1 hc2 hc3]
    simp only [Option.bind_some]
    rw [failures_ok hg (items := 6) (by omega) (by omega) hc1 hc2 hc3]
    simp only [Option.bind_some]
    have hcnt : ((combos (min 3 h.1.toNat) (rg 0 6)).countP (bad (h.1, h.2 ++ [p]))) ≤ (combos (min 3 h.1.toNat) (rg 0 6)).countP (bad h) := List.countP_mono_left fun s _ hs => bad_mono (h := h) (g := (h.1, h.2 ++ [p])) rfl hsubh s hs
    have hle : (combos (min 3 h.1.toNat) (rg 0 6)).countP (bad h) ≤ (combos (min 3 h.1.toNat) (rg 0 6)).length := List.countP_le_length
    have hmain : e ≠ 0 ∨ (f = 0 ∧ i = 0) := by
      by_cases he0 : e = 0
      · have hpl := he.1 he0
        refine .inr ⟨hfp.2 (hpl.sub (hsub.map _)), hip.2 ?_⟩
        exact PlacesL.more (fun x _ => hsubh x) hpl
      · exact .inl he0
    congr 1
    rw [decide_eq_true_iff]
    refine ⟨⟨⟨⟨⟨⟨hmain, by simp⟩, by simp⟩, by simp⟩, ?_⟩, ?_⟩, ?_⟩ <;> omega
  · rw [if_pos (by simp [hf])]
end Go.Proofs.Ytbhmhindommaeaa
