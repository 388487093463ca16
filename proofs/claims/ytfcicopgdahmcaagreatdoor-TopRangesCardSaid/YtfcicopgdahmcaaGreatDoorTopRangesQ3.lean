/- What the proof needs, gathered by wip/gen/shake.py. -/
import Derived.Calls
import Derived.Deep.Quiet
import Derived.Below
import Derived.Laws.AppendOwn
import Derived.WalkKit
import Derived.Laws.OwnMore
import Derived.Deep.Slices
import Derived.ChangeOld
import Derived.ArgAppend
import Derived.RangeFuncIn
import Derived.RangeFuncRecord
import Derived.RangeFuncLeaves
import Derived.Laws.MakeOwn
import Derived.IntWalk
import Derived.Laws.IdiomStrings
import Derived.Laws.Cover3
import Derived.Laws.CopyOwn
import Derived.MapKept
import Derived.RangeFuncNested
import Derived.Test.YtfcicopgdahmcaaGreatDoorRows
import Derived.LaidEql
import Derived.Stop.Asserts
import Derived.RowKitTokens
import Derived.Test.YtfcicopgdahmcaaGreatDoorCards
import Derived.LaidLaws
import Derived.Look8
import Derived.MakeChecks
import Derived.Test.YtfcicopgdahmcaaGreatDoorTie
import Derived.LaidMore
import Derived.Lay
import Derived.SevenTiedAt
import Derived.Stop.Joined
import Derived.ProofKit
import Derived.OpenShut
import Derived.ShutString
import Derived.Test.YtfcicopgdahmcaaGreatDoorTopRangesQ2

section
namespace Go.Proofs.YtfcicopgdahmcaaGreatDoor
open Go.RowKit
set_option linter.unusedVariables false
def HD (es : List NE) (i : Int) (h : Option Addr × Nat × Nat) : Prop := (es.map NE.h)[i.toNat]? = some h
theorem HD.mk {es : List NE} {i : Int} {e : NE} (he : es[i.toNat]? = some e) : HD es i e.h := by unfold HD; rw [List.getElem?_map, he]; rfl
theorem HD.of {es es' : List NE} {i : Int} {h : Option Addr × Nat × Nat} (hm : es'.map NE.h = es.map NE.h) (hd : HD es i h) : HD es' i h := by unfold HD; rw [hm]; exact hd
theorem lne_some {i j : Int} {u : Unit} (h : lne i j = some u) : i ≠ j := by
  unfold lne at h
  split at h
  · cases h
  · assumption
theorem NL.getH {α : Type} {Q : Rep α} {G : Hp} {es : List NE} {cs : List Value} {x : List (List α)} (h : NL Q G es cs x) {i : Int} {y : List α} {e0 : NE} {n0 : Nat} (hx : lidx x i = some y) (hd : HD es i e0.h) (hn : e0.n = n0) :
    ∃ e, es[i.toNat]? = some e ∧ e.n = y.length ∧ OL Q G e.cs y ∧ Elem 1 cs i.toNat [.slice e.a y.length e.k] ∧ e.a = e0.a ∧ e.k = e0.k ∧ y.length = n0 := by
  obtain ⟨e, he, hn', ho, hel⟩ := h.get hx
  unfold HD at hd
  rw [List.getElem?_map, he] at hd
  simp only [Option.map_some, Option.some.injEq, NE.h, Prod.mk.injEq] at hd
  exact ⟨e, he, hn', ho, hel, hd.1, hd.2.2, by omega⟩
theorem NL.ne {es : List NE} {i j : Int} {e : NE} (he : es[j.toNat]? = some e) (hi : 0 ≤ i) (hj : 0 ≤ j) (hne : i ≠ j) : (es.set i.toNat NE.nil)[j.toNat]? = some e := by
  rw [List.getElem?_set_ne (by omega)]; exact he
theorem lidx_nn {α : Type} {l : List α} {i : Int} {x : α} (h : lidx l i = some x) : 0 ≤ i := (lidx_some h).1
section
variable {P : Program} {c : Cx} {R : Value → World → Prop} {nt : Nat} {w0 : World} {S0 : List Nat} {df : List Deferred} {ρ ρ' : Env} {Fs Fs' Fin B : List Hp} {bl bl' : Blks} {sl sl' : List OwnS}
  {K K' : Act → World → Prop} {k : List Item} {ty : TypeId} {G : Hp} {α : Type}
theorem Cov.backN2 (q1 q : Nat) {Q : Rep α} {oa : Option Addr} {om T0 T m : Nat} {x x' : List (List α)} {es : List NE} {cs ics : List Value} {i j : Int} {y : List α} {s2 : List OwnS} {e ej : NE} (hsl : sl = .s (.slice e.a y.length e.k) T m y.length ics :: s2) (h1 : s2[q1]? = some (.s (.slice oa x.length om) T0 1 x.length cs)) (h2 : s2[q]? = some (.g (packG T m ((es.set j.toNat NE.nil).set i.toNat NE.nil)))) (hN : NL Q G es cs x) (he : es[i.toNat]? = some e) (hej : es[j.toNat]? = some ej) (hi : 0 ≤ i) (hj : 0 ≤ j) (hne : i ≠ j) (hn : y.length = e.n) (ho : OL Q G ics y) (hl : lupd x i y = some x')
    (hk : ∀ es', x'.length = x.length → NL Q G es' cs x' → es'.map NE.h = es.map NE.h → es'[j.toNat]? = some ej → Cov nt w0 S0 df ρ Fs bl ((s2.set q1 (.s (.slice oa x'.length om) T0 1 x'.length cs)).set q (.g (packG T m (es'.set j.toNat NE.nil)))) K) : Cov nt w0 S0 df ρ Fs bl sl K := by
  have hij : i.toNat ≠ j.toNat := by omega
  refine Cov.putN q hsl h2 (NL.hole (e := e) (by rw [List.getElem?_set_ne hij.symm]; exact he)) ?_
  have hlen : x'.length = x.length := by obtain ⟨_, _, rfl⟩ := lupd_some hl; simp
  have hsame : (es.map NE.h).set i.toNat (NE.h ⟨e.a, y.length, e.k, ics⟩) = es.map NE.h := by
    have h3 : (es.map NE.h)[i.toNat]? = some (NE.h ⟨e.a, y.length, e.k, ics⟩) := by rw [List.getElem?_map, he]; simp [NE.h, hn]
    obtain ⟨hlt, h4⟩ := List.getElem?_eq_some_iff.1 h3
    rw [← h4]; exact List.set_getElem_self hlt
  have hN' : NL Q G (es.set i.toNat ⟨e.a, y.length, e.k, ics⟩) cs x' := hN.set hl rfl ho (by rw [hsame]; exact hN.1)
  have hk' := hk _ hlen hN' (by rw [List.map_set]; exact hsame) (by rw [List.getElem?_set_ne hij]; exact hej)
  have hs : s2.set q1 (.s (.slice oa x'.length om) T0 1 x'.length cs) = s2 := by
    obtain ⟨hlt, h4⟩ := List.getElem?_eq_some_iff.1 h1
    rw [hlen, ← h4]; exact List.set_getElem_self hlt
  rw [hs] at hk'
  rw [List.set_set, List.set_comm _ _ hij.symm]
  exact hk'
theorem Cov.swap1 (q1 : Nat) {Q : Rep α} {oa : Option Addr} {om T0 : Nat} {x : List (List α)} {es : List NE} {cs : List Value} {i : Int} {yi yj : List α} {t : TypeId} {px u : Operand} {p : Value} {agg : Bool} {bytes : Nat} {z : List Value} {ej : NE} (hs : Stp P K' ⟨none, .store t px u, ty, none⟩ K)
    (h1 : sl[q1]? = some (.s (.slice oa x.length om) T0 1 x.length cs)) (hN : NL Q G es cs x) (hi : lidx x i = some yi) (hnj : ej.n = yj.length)
    (hx : ev ρ px = some p) (hp : PtrO p oa x.length om i.toNat 1 0) (hu : ev ρ u = some (.slice ej.a yj.length ej.k)) (ht : TyI P t agg 1 bytes z)
    (hk : ∀ cs', OL Rep.hdr G cs' ((es.map NE.h).set i.toNat ej.h) → Cov nt w0 S0 df ρ Fs bl (sl.set q1 (.s (.slice oa x.length om) T0 1 x.length cs')) K) : Cov nt w0 S0 df ρ Fs bl sl K' := by
  obtain ⟨e, he, hn', ho, hel⟩ := hN.get hi
  obtain ⟨hi0, hil, _⟩ := lidx_some hi
  have e1 : x.length = (es.map NE.h).length := by rw [List.length_map, hN.2.1]
  refine Cov.storeR q1 0 (Q := Rep.hdr) (y := ej.h) (l := es.map NE.h) (l' := (es.map NE.h).set i.toNat ej.h) (sz := 1) hs (by rw [h1, e1]) rfl hN.1 ?_ hx (by rw [← e1]; exact hp) hu ht hel ?_ rfl rfl fun cs' hll ho' => ?_
  · unfold lupd
    rw [if_pos ⟨hi0, by rw [← e1]; exact hil⟩]
  · show _ = [_]
    simp [cellsL, Value.cells, NE.h, hnj]
  · have hk' := hk _ ho'
    rw [List.length_set, ← e1]
    exact hk'
theorem swap_nblks {T : TypeId} {m : Nat} {es : List NE} {i j : Nat} {ei ej : NE} (hi : es[i]? = some ei) (hj : es[j]? = some ej) : (nblks T m ((es.set i ej).set j ei)).Perm (nblks T m es) := by
  by_cases hij : i = j
  · subst hij
    rw [hi] at hj
    obtain rfl := Option.some.inj hj
    obtain ⟨hlt, h4⟩ := List.getElem?_eq_some_iff.1 hi
    rw [List.set_set, ← h4, List.set_getElem_self]
  · have h1 := nblks_set T m es i ei ej hi
    have h2 := nblks_set T m (es.set i ej) j ej ei (by rw [List.getElem?_set_ne hij]; exact hj)
    have h3 : (nblks T m ((es.set i ej).set j ei) ++ (ej.s T m).blocks).Perm (nblks T m es ++ (ej.s T m).blocks) :=
      h2.trans (List.perm_append_comm.trans (h1.trans List.perm_append_comm))
    exact (List.perm_append_right_iff _).1 h3
theorem Cov.swap2 (q1 q2 : Nat) {Q : Rep α} {oa : Option Addr} {om T0 T m : Nat} {x x1 x' : List (List α)} {es : List NE} {cs0 cs : List Value} {i j : Int} {yi yj : List α} {t : TypeId} {px u : Operand} {p : Value} {agg : Bool} {bytes : Nat} {z : List Value} {ei ej : NE} (hs : Stp P K' ⟨none, .store t px u, ty, none⟩ K)
    (h1 : sl[q1]? = some (.s (.slice oa x.length om) T0 1 x.length cs)) (h2 : sl[q2]? = some (.g (packG T m es))) (hN : NL Q G es cs0 x) (hH : OL Rep.hdr G cs ((es.map NE.h).set i.toNat ej.h)) (hi : lidx x i = some yi) (hj : lidx x j = some yj) (hei : es[i.toNat]? = some ei) (hej : es[j.toNat]? = some ej) (hni : ei.n = yi.length) (hl1 : lupd x i yj = some x1) (hl2 : lupd x1 j yi = some x')
    (hx : ev ρ px = some p) (hp : PtrO p oa x.length om j.toNat 1 0) (hu : ev ρ u = some (.slice ei.a yi.length ei.k)) (ht : TyI P t agg 1 bytes z) (hq : (q1 == q2) = false)
    (hk : ∀ es' cs', x'.length = x.length → NL Q G es' cs' x' → Cov nt w0 S0 df ρ Fs bl ((sl.set q1 (.s (.slice oa x'.length om) T0 1 x'.length cs')).set q2 (.g (packG T m es'))) K) : Cov nt w0 S0 df ρ Fs bl sl K' := by
  obtain ⟨hi0, hil, hiy⟩ := lidx_some hi
  obtain ⟨hj0, hjl, hjy⟩ := lidx_some hj
  obtain ⟨_, _, rfl⟩ := lupd_some hl1
  obtain ⟨_, _, rfl⟩ := lupd_some hl2
  have hq' : q1 ≠ q2 := by simpa using hq
  have e1 : x.length = ((es.map NE.h).set i.toNat ej.h).length := by rw [List.length_set, List.length_map, hN.2.1]
  have hlen : ((x.set i.toNat yj).set j.toNat yi).length = x.length := by simp
  have hdj : ∃ h, ((es.map NE.h).set i.toNat ej.h)[j.toNat]? = some h := ⟨_, List.getElem?_eq_getElem (by rw [← e1]; omega)⟩
  obtain ⟨hj', hdj⟩ := hdj
  obtain ⟨c, hc1, hc2⟩ := hH.get (i := j) (x := hj') (by unfold lidx; rw [if_pos hj0]; exact hdj)
  refine Cov.storeR q1 0 (Q := Rep.hdr) (y := ei.h) (l := (es.map NE.h).set i.toNat ej.h) (l' := ((es.map NE.h).set i.toNat ej.h).set j.toNat ei.h) (sz := 1) hs (by rw [h1, e1]) rfl hH ?_ hx (by rw [← e1]; exact hp) hu ht hc1 ?_ rfl rfl fun cs' hll ho' => ?_
  · unfold lupd
    rw [if_pos ⟨hj0, by rw [← e1]; exact hjl⟩]
  · have hcl : c.length = 1 := Rep.hdr.len hc2
    show _ = [_]
    obtain ⟨v, rfl⟩ : ∃ v, c = [v] := by
      match c, hcl with
      | [v], _ => exact ⟨v, rfl⟩
    simp [cellsL, Value.cells, NE.h, hni]
  · have hl2' : (((es.map NE.h).set i.toNat ej.h).set j.toNat ei.h).length = ((x.set i.toNat yj).set j.toNat yi).length := by simp [hN.2.1]
    rw [hl2']
    have hN' : NL Q G ((es.set i.toNat ej).set j.toNat ei) cs' ((x.set i.toNat yj).set j.toNat yi) := by
      refine ⟨by rw [List.map_set, List.map_set]; exact ho', by simp [hN.2.1], fun n e y h3 h4 => ?_⟩
      rw [List.getElem?_set] at h3 h4
      by_cases hnj : j.toNat = n
      · have hel : j.toNat < es.length := by rw [hN.2.1]; omega
        rw [if_pos hnj, if_pos (by simp; omega)] at h3 h4
        cases h3; cases h4
        exact hN.2.2 _ _ _ hei hiy
      · rw [if_neg hnj] at h3 h4
        rw [List.getElem?_set] at h3 h4
        by_cases hni' : i.toNat = n
        · have hel : i.toNat < es.length := by rw [hN.2.1]; omega
          rw [if_pos hni', if_pos (by omega)] at h3 h4
          cases h3; cases h4
          exact hN.2.2 _ _ _ hej hjy
        · rw [if_neg hni'] at h3 h4
          exact hN.2.2 _ _ _ h3 h4
    intro aa w hfi hinv
    have h2' : (sl.set q1 (.s (.slice oa ((x.set i.toNat yj).set j.toNat yi).length om) T0 1 ((x.set i.toNat yj).set j.toNat yi).length cs'))[q2]? = some (.g (packG T m es)) := by rw [List.getElem?_set_ne hq']; exact h2
    have hh : (packG T m es).holds w := hinv.mem.slh _ (List.mem_of_getElem? h2')
    have hp := swap_nblks (T := T) (m := m) hei hej
    have hnd' := hp.nodup_iff.2 hh.1
    have hb1 : (packG T m es).blks = nblks T m es := if_pos hh.1
    have hb2 : (packG T m ((es.set i.toNat ej).set j.toNat ei)).blks = nblks T m ((es.set i.toNat ej).set j.toNat ei) := if_pos hnd'
    refine hk _ cs' hlen hN' aa w hfi (hinv.set_same q2 h2' (s' := .g (packG T m ((es.set i.toNat ej).set j.toNat ei))) ⟨hnd', fun e he => ?_⟩ (by show (packG _ _ _).blks.Nodup; rw [hb2]; exact hnd') (fun b hb => ?_))
    · rcases List.mem_or_eq_of_mem_set he with he | rfl
      · rcases List.mem_or_eq_of_mem_set he with he | rfl
        · exact hh.2 e he
        · exact hh.2 _ (List.mem_of_getElem? hej)
      · exact hh.2 _ (List.mem_of_getElem? hei)
    · have hb : b ∈ (packG T m ((es.set i.toNat ej).set j.toNat ei)).blks := hb
      show b ∈ (packG T m es).blks
      rw [hb2] at hb; rw [hb1]
      exact hp.mem_iff.1 hb
theorem Cov.packE (T m : Nat) (h : Cov nt w0 S0 df ρ Fs bl (.g (packG T m []) :: sl) K) : Cov nt w0 S0 df ρ Fs bl sl K := Cov.pack0 T m 0 h
theorem nblks_app (T : TypeId) (m : Nat) (es es' : List NE) : nblks T m (es ++ es') = nblks T m es ++ nblks T m es' := by simp [nblks]
theorem Cov.pack1 {T m : Nat} {a : Option Addr} {n kk : Nat} {cs : List Value} {s2 : List OwnS} (hsl : sl = .s (.slice a n kk) T m n cs :: s2) (h : Cov nt w0 S0 df ρ Fs bl (.g (packG T m [⟨a, n, kk, cs⟩]) :: s2) K) : Cov nt w0 S0 df ρ Fs bl sl K := by
  refine Cov.pack0 T m 1 ?_
  subst hsl
  refine Cov.pullS 1 rfl _ rfl ?_
  exact Cov.putN 0 (i := 0) rfl rfl rfl h
theorem Cov.packApp (q : Nat) {T m : Nat} {es es' : List NE} {s2 : List OwnS} (hsl : sl = .g (packG T m es') :: s2) (hs : s2[q]? = some (.g (packG T m es))) (h : Cov nt w0 S0 df ρ Fs bl (s2.set q (.g (packG T m (es ++ es')))) K) : Cov nt w0 S0 df ρ Fs bl sl K := fun aa w hf hi => by
  subst hsl
  have hh : (packG T m es).holds w := hi.mem.slh _ (List.mem_cons_of_mem _ (List.mem_of_getElem? hs))
  have hh' : (packG T m es').holds w := hi.mem.slh _ List.mem_cons_self
  have hb1 : (packG T m es).blks = nblks T m es := if_pos hh.1
  have hb1' : (packG T m es').blks = nblks T m es' := if_pos hh'.1
  have hq : (blks bl (.g (packG T m es') :: s2)).Perm (nblks T m (es ++ es') ++ blks bl (s2.eraseIdx q)) := by
    simp only [blks, List.flatMap_cons]
    have h1 := ((perm_erase s2 q _ hs).flatMap_right OwnS.blocks).append_left (OwnS.blocks (.g (packG T m es')))
    simp only [List.flatMap_cons] at h1
    rw [← List.append_assoc (OwnS.blocks _) (OwnS.blocks (.g (packG T m es)))] at h1
    have h2 : (OwnS.blocks (.g (packG T m es')) ++ OwnS.blocks (.g (packG T m es))).Perm (nblks T m (es ++ es')) := by
      show ((packG T m es').blks ++ (packG T m es).blks).Perm _
      rw [hb1, hb1', nblks_app]; exact List.perm_append_comm
    exact ((h1.trans (h2.append_right _)).append_left _).trans (List.perm_append_comm_assoc _ _ _)
  have hnd := hq.nodup_iff.1 hi.nodup
  have hnd1 := (List.nodup_append.1 hnd).1
  have hb2 : (packG T m (es ++ es')).blks = nblks T m (es ++ es') := if_pos hnd1
  have hp2 : (blks bl (s2.set q (.g (packG T m (es ++ es'))))).Perm (blks bl (.g (packG T m es') :: s2)) := by
    refine List.Perm.trans ?_ hq.symm
    simp only [blks]
    have h1 := (set_perm_flat OwnS.blocks s2 q _ (.g (packG T m (es ++ es'))) hs)
    have h2 : OwnS.blocks (.g (packG T m (es ++ es'))) = nblks T m (es ++ es') := hb2
    rw [h2] at h1
    exact (h1.append_left _).trans (List.perm_append_comm_assoc _ _ _)
  refine h aa w hf (hi.change [] (by simp) (Keep.refl w []) (fun G hG => .inl hG) hi.mem.own (fun s hs' => ?_) (hp2.nodup_iff.2 hi.nodup) (fun b hb => .inl (hp2.mem_iff.1 hb)))
  obtain ⟨j, hj, rfl⟩ := List.getElem_of_mem hs'
  rw [List.getElem_set]
  split
  · refine ⟨hnd1, fun x hx => ?_⟩
    rcases List.mem_append.1 hx with hx | hx
    · exact hh.2 x hx
    · exact hh'.2 x hx
  · exact hi.mem.slh _ (List.mem_cons_of_mem _ (List.getElem_mem (by simpa using hj)))
theorem NL.nil {Q : Rep α} : NL Q G [] [] ([] : List (List α)) := ⟨OL.nil, rfl, fun i e y h => by simp at h⟩
theorem NL.one {Q : Rep α} {a : Option Addr} {kk : Nat} {cs : List Value} {l : List α} (ho : OL Q G cs l) : NL Q G [⟨a, l.length, kk, cs⟩] [.slice a l.length kk] [l] :=
  ⟨(OL.cons (Rp' := Rep.hdr) (c := [.slice a l.length kk]) (x := (a, l.length, kk)) (l := []) rfl rfl OL.nil :), rfl, fun i e y h1 h2 => by
    cases i with
    | zero => simp at h1 h2; subst h1 h2; exact ⟨rfl, ho⟩
    | succ i => simp at h1⟩
theorem NL.app {Q : Rep α} {es es' : List NE} {cs cs' cs2 : List Value} {x x' : List (List α)} (h : NL Q G es cs x) (h' : NL Q G es' cs' x') (hc : OL Rep.hdr G cs2 (es.map NE.h ++ es'.map NE.h)) : NL Q G (es ++ es') cs2 (x ++ x') :=
  ⟨by rw [List.map_append]; exact hc, by simp [h.2.1, h'.2.1], fun i e y h1 h2 => by
    have := h.2.1
    rcases Nat.lt_or_ge i es.length with hi | hi
    · rw [List.getElem?_append_left hi] at h1
      rw [List.getElem?_append_left (by omega)] at h2
      exact h.2.2 i e y h1 h2
    · rw [List.getElem?_append_right hi] at h1
      rw [List.getElem?_append_right (by omega)] at h2
      rw [← this] at h2; exact h'.2.2 _ e y h1 h2⟩
theorem Cov.appN (q q2 : Nat) {Q : Rep α} {d : Nat} {t e : TypeId} {s x : Operand} {a a2 : Option Addr} {m m2 T T2 mm : Nat} {l l2 l' : List (List α)} {es es2 : List NE} {cs cs2 : List Value} {agg : Bool} {bytes : Nat} {z : List Value} {s2 : List OwnS}
    (hs : Stp P K' ⟨some d, .call ⟨.builtin .append, #[s, x], #[t, t]⟩, ty, none⟩ K) (ht : slOf P t = some e) (hel : TyI P e agg 1 bytes z) (hz : z.length = 1) (hby : Nat.ble bytes 8388608 = true)
    (hsl : sl = .s (.slice a2 l2.length m2) T2 1 l2.length cs2 :: .g (packG T mm es2) :: s2) (hi : s2[q]? = some (.s (.slice a l.length m) e 1 l.length cs)) (hi2 : s2[q2]? = some (.g (packG T mm es))) (hq : (q == q2) = false) (ho : NL Q G es cs l) (ho2 : NL Q G es2 cs2 l2)
    (he : ev ρ s = some (.slice a l.length m)) (hx : ev ρ x = some (.slice a2 l2.length m2)) (hl : lapp l l2 = some l') (hd : Nat.blt d nt = true) (hB : Bd w0 S0 B G)
    (hk : ∀ a' m' cs', NL Q G (es ++ es2) cs' l' → Cov nt w0 S0 df ((d, .slice a' l'.length m') :: ρ) (G :: B) bl ((s2.set q (.s (.slice a' l'.length m') e 1 l'.length cs')).set q2 (.g (packG T mm (es ++ es2)))) K) : Cov nt w0 S0 df ρ (G :: B) bl sl K' := by
  subst hsl
  have hq' : q ≠ q2 := by simpa using hq
  have e1 : l.length = (es.map NE.h).length := by rw [List.length_map, ho.2.1]
  have e2 : l2.length = (es2.map NE.h).length := by rw [List.length_map, ho2.2.1]
  obtain ⟨hb, rfl⟩ := lapp_some hl
  refine Cov.appO (q + 1) (Q := Rep.hdr) (l := es.map NE.h) (l2 := es2.map NE.h) (l' := es.map NE.h ++ es2.map NE.h) hs ht hel hz rfl hby rfl (by rw [← e1]; exact hi) rfl ho.1 ho2.1 e2 (by rw [← e1]; exact he) hx hB ?_ hd fun a' m' cs' ho' => ?_
  · unfold lapp; rw [if_pos (by rw [← e1, ← e2]; exact hb)]
  · have e3 : (es.map NE.h ++ es2.map NE.h).length = (l ++ l2).length := by simp [ho.2.1, ho2.2.1]
    rw [e3]
    refine Cov.same rfl (show _ = (OwnS.g (packG T mm es2)) :: s2.set q (.s (.slice a' (l ++ l2).length m') e 1 (l ++ l2).length cs') from rfl) rfl ?_
    exact Cov.packApp q2 rfl (by rw [List.getElem?_set_ne hq']; exact hi2) (hk a' m' cs' (ho.app ho2 ho'))
theorem QOp.idxNH (q : Nat) {T m : Nat} {es : List NE} {i n0 : Nat} {e : NE} {a0 : Option Addr} {k0 : Nat} {l : List α} {n : Int} {u : α} {kk : IntKind} {t el : TypeId} {x j : Operand} (hs : sl[q]? = some (.g (packG T m es))) (hei : es[i]? = some e) (hn : e.n = l.length) (ea : e.a = a0) (ek : e.k = k0) (en : l.length = n0) (hx : ev ρ x = some (.slice a0 n0 k0)) (hj : ev ρ j = some (.int kk n))
    (he : lidx l n = some u) (ht : slOf P t = some el) (hz : szOf P el = some m) : QOp P ρ Fs bl sl (.indexAddr t x j) ty (elemPtr (.slice e.a l.length e.k) n.toNat m) :=
  .inN q hs hei hn (.idxO (l := l) 0 rfl (by rw [hx, ea, ek, en]) hj he ht hz)
theorem Cov.backS (q : Nat) {T m : Nat} {es : List NE} {i : Int} {n : Nat} {e : NE} {s2 : List OwnS} (hsl : sl = .s (.slice e.a n e.k) T m n e.cs :: s2) (h2 : s2[q]? = some (.g (packG T m (es.set i.toNat NE.nil)))) (he : es[i.toNat]? = some e) (hn : e.n = n)
    (hk : Cov nt w0 S0 df ρ Fs bl (s2.set q (.g (packG T m es))) K) : Cov nt w0 S0 df ρ Fs bl sl K := by
  subst hn
  refine Cov.putN q hsl h2 (NL.hole he) ?_
  have : (es.set i.toNat NE.nil).set i.toNat ⟨e.a, e.n, e.k, e.cs⟩ = es := by
    obtain ⟨hlt, h4⟩ := List.getElem?_eq_some_iff.1 he
    rw [List.set_set]
    show es.set i.toNat e = es
    rw [← h4]; exact List.set_getElem_self hlt
  rw [this]; exact hk
theorem lt_of_lt_of_len {β : Type} {l : List β} {i : Int} {n : Nat} (h : i < (l.length : Int)) (e : l.length = n) : i < (n : Int) := e ▸ h
theorem arr_get {pre : List Value} {f : Int → Value} {L : List Int} {i u : Int} (hu : lidx L i = some u) : (pre ++ L.map f)[pre.length + i.toNat]? = some (f u) := by
  obtain ⟨h1, h2, h3⟩ := lidx_some hu
  rw [List.getElem?_append_right (by omega), Nat.add_sub_cancel_left, List.getElem?_map, h3]; rfl
theorem Cov.storeArr (i : Nat) {pre : List Value} {L L' : List Int} {kk : IntKind} {n y : Int} {t : TypeId} {x u : Operand} {b o : Nat} {T : TypeId} {agg : Bool} {bytes : Nat} {z : List Value} (hs : Stp P K' ⟨none, .store t x u, ty, none⟩ K)
    (hx : ev ρ x = some (.pointer (some ⟨b, o, none⟩))) (hy : ev ρ u = some (.int kk y)) (hb : bl[i]? = some (b, .cells (pre ++ L.map (Value.int kk)).toArray T (0, 0))) (ht : TyI P t agg 1 bytes z) (ho : o = pre.length + n.toNat) (hl : lupd L n y = some L')
    (hk : L'.length = L.length → Cov nt w0 S0 df ρ Fs (bl.set i (b, .cells (pre ++ L'.map (Value.int kk)).toArray T (0, 0))) sl K) : Cov nt w0 S0 df ρ Fs bl sl K' := by
  obtain ⟨h0, h1, rfl⟩ := lupd_some hl
  subst ho
  have hlt : n.toNat < L.length := by omega
  refine Cov.store i (pre ++ (L.set n.toNat y).map (Value.int kk)) _ hs hx hy hb ht rfl ?_ ?_ rfl (hk (by simp))
  · show Nat.ble (pre.length + n.toNat + 1) _ = true
    rw [Nat.ble_eq]; simp; omega
  · show List.take (pre.length + n.toNat) (pre ++ L.map (Value.int kk)) ++ [Value.int kk y] ++ List.drop (pre.length + n.toNat + 1) (pre ++ L.map (Value.int kk)) = _
    rw [List.take_append, Nat.add_sub_cancel_left, List.take_of_length_le (l := pre) (by omega), show pre.length + n.toNat + 1 = pre.length + (n.toNat + 1) from by omega, List.drop_append, Nat.add_sub_cancel_left, List.drop_of_length_le (l := pre) (by omega), List.nil_append, List.map_set, List.append_assoc, List.append_assoc]
    congr 1
    rw [List.set_eq_take_append_cons_drop, if_pos (by simpa using hlt)]
    rfl
end
end Go.Proofs.YtfcicopgdahmcaaGreatDoor
end

section
namespace Go.Proofs.YtfcicopgdahmcaaGreatDoor
open Go.RowKit Go.Extern.Stop Go.Stop Go.Extern Go.Extern.ReflectliteType
set_option linter.unusedVariables false
theorem RetS.calls {P : Program} {f : FuncId} {args : Array Value} {Fs : List Hp} {u : Value} (hc : ∀ w, Calls P f args w fun e w' => e = .returned u ∧ Keep w [] w') : RetS P f args Fs [] [] (fun v bo so => v = u ∧ bo = [] ∧ so = []) :=
  fun w h1 h2 h3 h4 h5 => (hc w).mono fun e w' ⟨he, hk⟩ => ⟨u, he, empHp, [], [], fresh_emp w, by
    have hi : Inv w [] Fs [] [] w := ⟨⟨h1, by simp, by simp⟩, Keep.refl w [], by simp [blks], by simp [blks], by simp [blks]⟩
    refine hi.change [] (by simp) hk (fun G hG => ?_) (by simp) (by simp) (by simp [blks]) (by simp [blks])
    rcases List.mem_cons.1 hG with rfl | hG
    · exact .inr ⟨fun b o hb => by simp [empHp] at hb, fun _ _ => rfl⟩
    · exact .inl hG, rfl, rfl, rfl⟩
theorem isTypeOf (v : Value) (w : World) : (Extern.ReflectliteType.typeOf #[.iface 268 v]).run Tryz.prog w = .ok (.iface 290 (.agg #[.pointer (some ⟨1, 268, none⟩)])) w := by kernel_rfl
theorem isComparable (w : World) : (Extern.ReflectliteType.method (fun t => do Go.Extern.Rtype.noPackHeld "Comparable" t; (fun a => Value.bool a.comparable) <$> typeInfo t) #[.agg #[.pointer (some ⟨1, 268, none⟩)]]).run Tryz.prog w = .ok (.bool true) w := by kernel_rfl
theorem noIsF (v : Value) (xT : TypeId) (w : World) : (Instr.typeAssert (.iface 268 v) xT 292 true).run Tryz.prog w = .ok (.tuple #[.nilIface, .bool false]) w := run_typeAssert_lacksB Tryz.underlying292 (by kernel_rfl) (by kernel_rfl) v xT w
theorem noUnwrapF (v : Value) (xT : TypeId) (w : World) : (Instr.typeAssert (.iface 268 v) xT 295 true).run Tryz.prog w = .ok (.tuple #[.nilIface, .bool false]) w := run_typeAssert_lacksB Tryz.underlying295 (by kernel_rfl) (by kernel_rfl) v xT w
theorem noUnwrapsF (v : Value) (xT : TypeId) (w : World) : (Instr.typeAssert (.iface 268 v) xT 297 true).run Tryz.prog w = .ok (.tuple #[.nilIface, .bool false]) w := run_typeAssert_lacksB Tryz.underlying297 (by kernel_rfl) (by kernel_rfl) v xT w
theorem infoF : (Tryz.prog.info? 268).map (·.comparable) = some true := by kernel_rfl
theorem partF (v : Value) (w : World) : (Go.part 33 #[v] 0).run Tryz.prog w = .ok v w := by kernel_rfl
theorem eqlF (d e : Int) (w : World) : (binOp .eql 233 (.iface 268 (.agg #[.int .i64 d])) (.iface 268 (.agg #[.int .i64 e]))).run Tryz.prog w = .ok (.bool (decide (d = e))) w := by
  obtain ⟨i, hi, hcmp⟩ := Option.map_eq_some_iff.1 infoF
  have h : ∀ n : Nat, (Op.equalIn (n + 3) 233 (.iface 268 (.agg #[.int .i64 d])) (.iface 268 (.agg #[.int .i64 e]))).run Tryz.prog w = .ok (decide (d = e)) w := fun n => by
    simp [Op.equalIn, run_underlying Tryz.underlying233, run_underlying Tryz.underlying268, typeInfo, hi, hcmp, partF, run_underlying Tryz.underlying33]
    by_cases hde : d = e <;> simp [hde]
  simp only [binOp]
  simp [Op.equal, Op.maxDepth, h 9997]
theorem mComparable (v : Value) (w : World) : (Go.method 442 290 v "Comparable").run Tryz.prog w = .ok (223, v) w := by kernel_rfl
set_option maxRecDepth 100000 in
set_option maxHeartbeats 2000000 in
theorem is_ff (d e : Int) (w : World) : Calls Tryz.prog 153 #[.iface 268 (.agg #[.int .i64 d]), .iface 268 (.agg #[.int .i64 e])] w fun x w' => x = .returned (.bool (decide (d = e))) ∧ w' = w := by
  have h8 := @run_callFunc_extern Tryz.prog 178 _ Extern.ReflectliteType.typeOf Tryz.func178 (by kernel_rfl) (by kernel_rfl) (by kernel_rfl) (by kernel_rfl)
  have h32 := @run_callFunc_extern Tryz.prog 223 _ (Extern.ReflectliteType.method fun t => do Go.Extern.Rtype.noPackHeld "Comparable" t; pure (.bool (← typeInfo t).comparable)) Tryz.func223 (by kernel_rfl) (by kernel_rfl) (by kernel_rfl) (by kernel_rfl)
  have tT := isTypeOf
  have cT := isComparable
  have mR := mComparable
  have nE := noIsF
  have uE := noUnwrapF
  have vE := noUnwrapsF
  have heq := eqlF d e w
  by_cases hde : d = e
  · subst hde
    simp only [decide_true] at heq ⊢
    go_enter Tryz.func153, Tryz.ntmps153
    go_wp2
    refine wp_loop_rounds 1 ?_
    rw [rounds_succ]
    go_wp2
    go_ret
    exact ⟨rfl, rfl⟩
  · simp only [hde, decide_false] at heq ⊢
    go_enter Tryz.func153, Tryz.ntmps153
    go_wp2
    refine wp_loop_rounds 1 ?_
    rw [rounds_succ]
    go_wp2
    go_ret
    exact ⟨rfl, rfl⟩
theorem is_nf (v : Value) (w : World) : Calls Tryz.prog 153 #[.nilIface, .iface 268 v] w fun x w' => x = .returned (.bool false) ∧ w' = w := by
  have hn := run_eql_iface_nil_left (P := Tryz.prog) w 268 v Tryz.underlying233
  go_enter Tryz.func153, Tryz.ntmps153
  go_wp2
  go_ret
  exact ⟨rfl, rfl⟩
theorem errors_Is_c {Fs : List Hp} {G : Hp} {x0 x1 : Option Int} {r : Bool} (hG : G ∈ Fs) (h : errors_Is x0 x1 = some r) : RetS Tryz.prog 153 #[ifc233 x0, ifc233 x1] Fs [] [] (fun v bo so => v = .bool r ∧ bo = [] ∧ so = []) := by
  cases x1 with
  | none => cases h
  | some e =>
    obtain rfl := Option.some.inj h
    refine RetS.calls fun w => ?_
    cases x0 with
    | none => exact (is_nf _ w).mono fun e w' ⟨a, b⟩ => ⟨a, b ▸ Keep.refl w []⟩
    | some d => exact (is_ff d e w).mono fun x w' ⟨a, b⟩ => ⟨by rw [a]; simp, b ▸ Keep.refl w []⟩
theorem eqlFn (v : Value) (w : World) : (binOp .eql 233 (.iface 268 v) .nilIface).run Tryz.prog w = .ok (.bool false) w := by kernel_rfl
theorem num_n (w : World) : Calls Tryz.prog 154 #[.nilIface] w fun x w' => x = .returned (.int .i64 0) ∧ w' = w := by
  go_enter Tryz.func154, Tryz.ntmps154
  go_wp2
  go_ret
  exact ⟨rfl, rfl⟩
theorem isF (v : Value) (xT : TypeId) (w : World) : (Instr.typeAssert (.iface 268 v) xT 268 true).run Tryz.prog w = .ok (.tuple #[v, .bool true]) w := by kernel_rfl
theorem num_f (d : Int) (w : World) : Calls Tryz.prog 154 #[.iface 268 (.agg #[.int .i64 d])] w fun x w' => x = .returned (.int .i64 d) ∧ Keep w [] w' := by
  have hn := eqlFn (.agg #[.int .i64 d]) w
  have hF := isF (.agg #[.int .i64 d])
  go_enter Tryz.func154, Tryz.ntmps154
  go_wp2
  go_ret
  refine ⟨rfl, ?_⟩
  exact Keep.alloc w _
theorem unique_number_c {Fs : List Hp} {G : Hp} {x0 : Option Int} {r : Int} (hG : G ∈ Fs) (h : unique_number x0 = some r) : RetS Tryz.prog 154 #[ifc233 x0] Fs [] [] (fun v bo so => v = .int .i64 r ∧ bo = [] ∧ so = []) := by
  obtain rfl := Option.some.inj h
  refine RetS.calls fun w => ?_
  cases x0 with
  | none => exact (num_n w).mono fun e w' ⟨a, b⟩ => ⟨a, b ▸ Keep.refl w []⟩
  | some d => exact num_f d w
end Go.Proofs.YtfcicopgdahmcaaGreatDoor
end

section
namespace Go.Proofs.YtfcicopgdahmcaaGreatDoor
open Go.RowKit Go.ChangeShapes
theorem tname_lt {P : Program} {u : TypeId} {n : String} (hs : n.toList.head? ≠ ("*" : String).toList.head?) (hu : P.typeName? 3 u = some n) : u < P.types.size := by
  by_cases hlt : u < P.types.size
  · exact hlt
  · exfalso
    unfold Program.typeName? at hu
    cases hi : P.info? u with
    | none => simp [hi] at hu
    | some i =>
      have hb := Tables.info?_beyond hlt hi
      simp only [hi] at hu
      cases hd : i.desc <;> simp only [hd, TypeDesc.tableOnly] at hu hb <;> try cases hb
      all_goals try cases hu
      rename_i e
      simp only [Option.map_eq_some_iff] at hu
      obtain ⟨n', _, rfl⟩ := hu
      apply hs
      rw [String.toList_append, List.head?_append]
      rfl
theorem laid_one {P : Program} {W : World} {x : String} {d : DataW Unit} {g0 : Nat} {t0 : TypeId} {ms : Array (String × TypeId)} {nm : String} (hg0 : P.globalNamed x = some g0) (ht0 : (P.globals[g0]?).map (·.type) = some t0) (hu : P.underlying t0 = some (.interface ms)) (h : laidMet P [(x, .iface nm d)] W) :
    ∃ fuel u v p, W.cell? ⟨g0, 0, none⟩ = some (.iface u v) ∧ P.typeName? 3 u = some nm ∧ DataW.trod (fun _ => ()) P W 0 (fun _ => true) false fuel u v.cells.toList = some (d, p) ∧ Value.okWide P W .any 0 u v := by
  obtain ⟨ps, ⟨g, t, cs, fuel, p, q, hg, ht, hv, hd, _, hps⟩, _, hrow⟩ := h
  obtain rfl := Option.some.inj (hg0.symm.trans hg)
  obtain rfl := Option.some.inj (ht0.symm.trans ht)
  obtain ⟨f1, u, v, hcs, hn, h1⟩ := iface_of_trod hu hd
  have hc : W.cell? ⟨g0, 0, none⟩ = some (.iface u v) := by
    rw [World.var?_cell hg hv 0]
    have e : cs[0]? = cs.toList[0]? := by simp
    rw [e, hcs]; rfl
  have hsz : 0 < cs.size := by
    have := congrArg List.length hcs
    simp at this; omega
  refine ⟨f1, u, v, p, hc, hn, h1, (hrow g0 0 ?_).2 u v hc⟩
  rw [hps]
  refine List.mem_append_left _ (List.mem_append_left _ ?_)
  exact List.mem_map.2 ⟨0, List.mem_range.2 hsz, rfl⟩
theorem named268 : Tryz.prog.typeNamed8 "privatefetch/unique.failure" = some 268 := by kernel_rfl
theorem row268 (u : TypeId) (h : Tryz.prog.typeName? 3 u = some "privatefetch/unique.failure") : u = 268 := Program.typeNamed8_inj named268 (tname_lt (by decide) h) h
theorem glob0 : Tryz.prog.globalNamed "privatefetch/unique.errWrong" = some 0 := by kernel_rfl
theorem glob0t : (Tryz.prog.globals[0]?).map (·.type) = some 233 := by kernel_rfl
theorem c268 : Tryz.prog.cellsOf 268 = 1 := by kernel_rfl
theorem c33 : Tryz.prog.cellsOf 33 = 1 := by kernel_rfl
set_option maxRecDepth 100000 in
theorem laid_var {W : World} (h : laidMet Tryz.prog [("privatefetch/unique.errWrong", Rows.laid_privatefetch_unique_errWrong)] W) : W.cell? ⟨0, 0, none⟩ = some (.iface 268 (.agg #[.int .i64 12])) := by
  obtain ⟨f1, u, v, p, hc, hn, h1, ok⟩ := laid_one glob0 glob0t Tryz.underlying233 h
  obtain rfl := row268 u hn
  obtain ⟨cs2, rfl⟩ := arg_agg Tryz.underlying268 ok
  obtain ⟨y0, n, hx, hl, hy⟩ := trod_struct1 Tryz.underlying268 h1
  have hcl : (Value.agg cs2.toArray).cells.toList = cs2 := by simp [Value.cells]
  rw [hcl] at hl hy
  rw [c268] at hl
  obtain ⟨c, rfl⟩ : ∃ c, cs2 = [c] := by
    match cs2, hl with
    | [c], _ => exact ⟨c, rfl⟩
  have hy' : DataW.trod (fun _ => ()) Tryz.prog W 0 (fun _ => true) false n 33 [c] = some y0 := by
    have e : (([c] : List Value).drop 0).take (Tryz.prog.cellsOf 33) = [c] := by rw [c33]; rfl
    rw [← e]; exact hy
  obtain ⟨z, e1, e2, _⟩ := DataW.trod_int Tryz.underlying33 hy'
  have hz : z = 12 := by
    rw [e2] at hx
    have := (Prod.mk.inj hx).1
    simpa using this.symm
  rw [hc, e1, hz]
theorem rcell_of_cell {W : World} {b o : Nat} {v : Value} (h : W.cell? ⟨b, o, none⟩ = some v) : rcell (whole W) b o = some v := by
  unfold World.cell? at h
  unfold rcell whole
  cases hb : W.heap[b]? with
  | none => simp [hb] at h
  | some ob => cases ob <;> simp_all
theorem laid_rp0 {W : World} (h : laidMet Tryz.prog [("privatefetch/unique.errWrong", Rows.laid_privatefetch_unique_errWrong)] W) : Rp (whole W) (.pointer (some ⟨0, 0, none⟩)) [ifc233 (some 12)] := by
  refine ⟨0, 0, rfl, fun j c hj => ?_⟩
  cases j with
  | succ j => simp at hj
  | zero =>
    obtain rfl := Option.some.inj hj
    exact rcell_of_cell (laid_var h)
end Go.Proofs.YtfcicopgdahmcaaGreatDoor
end

section
namespace Go.Proofs.YtfcicopgdahmcaaGreatDoor
open Go.RowKit
set_option linter.unusedVariables false
structure Shp (σ α β : Type) where
  row : σ → List α
  hd : σ → (Option Addr × Nat × Nat) → β
  set : σ → List α → σ
  row_set : ∀ s y, row (set s y) = y
  hd_set : ∀ s y h, hd (set s y) h = hd s h
def hds {σ α β : Type} (S : Shp σ α β) (es : List NE) (x : List σ) : List β := List.zipWith (fun s e => S.hd s (NE.h e)) x es
def NS {σ α β : Type} (S : Shp σ α β) (Q : Rep α) (E : Rep β) (G : Hp) (es : List NE) (cs : List Value) (x : List σ) : Prop :=
  OL E G cs (hds S es x) ∧ es.length = x.length ∧ ∀ (i : Nat) (e : NE) (s : σ), es[i]? = some e → x[i]? = some s → e.n = (S.row s).length ∧ OL Q G e.cs (S.row s)
section
variable {σ α β : Type} {S : Shp σ α β} {Q : Rep α} {E : Rep β} {G G' : Hp} {es : List NE} {cs : List Value} {x : List σ}
theorem hds_len (h : es.length = x.length) : (hds S es x).length = x.length := by simp [hds, h]
theorem hds_get {i : Nat} {e : NE} {s : σ} (he : es[i]? = some e) (hs : x[i]? = some s) : (hds S es x)[i]? = some (S.hd s e.h) := by
  unfold hds; rw [List.getElem?_zipWith, hs, he]
theorem hds_set (i : Nat) (e : NE) (s : σ) : hds S (es.set i e) (x.set i s) = (hds S es x).set i (S.hd s e.h) := by
  unfold hds
  induction i generalizing es x with
  | zero => cases x <;> cases es <;> simp
  | succ n ih => cases x <;> cases es <;> simp [ih]
theorem NS.mono (hg : HpLe G G') (h : NS S Q E G es cs x) : NS S Q E G' es cs x :=
  ⟨h.1.mono hg, h.2.1, fun i e y h1 h2 => ⟨(h.2.2 i e y h1 h2).1, (h.2.2 i e y h1 h2).2.mono hg⟩⟩
theorem NS.len' (h : NS S Q E G es cs x) : x.length ≤ 9223372036854775807 := by
  have := h.1.len'; rw [hds_len h.2.1] at this; exact this
theorem NS.get (h : NS S Q E G es cs x) {i : Int} {s : σ} (hx : lidx x i = some s) :
    ∃ e c, es[i.toNat]? = some e ∧ e.n = (S.row s).length ∧ OL Q G e.cs (S.row s) ∧ Elem E.sz cs i.toNat c ∧ E.r G c (S.hd s (e.a, (S.row s).length, e.k)) := by
  obtain ⟨h3, h4, h5⟩ := lidx_some hx
  have hlt : i.toNat < es.length := by rw [h.2.1]; omega
  have he : es[i.toNat]? = some es[i.toNat] := List.getElem?_eq_getElem hlt
  obtain ⟨hn, ho⟩ := h.2.2 _ _ _ he h5
  obtain ⟨c, hc1, hc2⟩ := h.1.get (i := i) (x := S.hd s es[i.toNat].h) (by
    unfold lidx
    rw [if_pos h3]; exact hds_get he h5)
  refine ⟨es[i.toNat], c, he, hn, ho, hc1, ?_⟩
  rw [← hn]; exact hc2
theorem NS.getH (h : NS S Q E G es cs x) {i : Int} {s : σ} {e0 : NE} {n0 : Nat} (hx : lidx x i = some s) (hd : HD es i e0.h) (hn : e0.n = n0) :
    ∃ e, es[i.toNat]? = some e ∧ e.n = (S.row s).length ∧ OL Q G e.cs (S.row s) ∧ e.a = e0.a ∧ e.k = e0.k ∧ (S.row s).length = n0 := by
  obtain ⟨e, c, he, hn', ho, hc1, hc2⟩ := h.get hx
  unfold HD at hd
  rw [List.getElem?_map, he] at hd
  simp only [Option.map_some, Option.some.injEq, NE.h, Prod.mk.injEq] at hd
  exact ⟨e, he, hn', ho, hd.1, hd.2.2, by omega⟩
theorem NS.nil : NS S Q E G [] [] ([] : List σ) := ⟨OL.nil, rfl, fun i e y h => by simp at h⟩
theorem NS.one {a : Option Addr} {kk : Nat} {c : List Value} {s : σ} {l : List α} (hE : E.r G c (S.hd s (a, l.length, kk))) (hr : S.row s = l) {ics : List Value} (ho : OL Q G ics l) : NS S Q E G [⟨a, l.length, kk, ics⟩] (c ++ []) [s] :=
  ⟨(OL.cons (Rp' := E) (c := c) (x := S.hd s (a, l.length, kk)) (l := []) rfl hE OL.nil :), rfl, fun i e y h1 h2 => by
    cases i with
    | zero => simp at h1 h2; subst h1 h2; exact ⟨by rw [hr], by rw [hr]; exact ho⟩
    | succ i => simp at h1⟩
theorem NS.app {es' : List NE} {cs' cs2 : List Value} {x' : List σ} (h : NS S Q E G es cs x) (h' : NS S Q E G es' cs' x') (hc : OL E G cs2 (hds S es x ++ hds S es' x')) : NS S Q E G (es ++ es') cs2 (x ++ x') :=
  ⟨by unfold hds; rw [List.zipWith_append h.2.1.symm]; exact hc, by simp [h.2.1, h'.2.1], fun i e y h1 h2 => by
    have := h.2.1
    rcases Nat.lt_or_ge i es.length with hi | hi
    · rw [List.getElem?_append_left hi] at h1
      rw [List.getElem?_append_left (by omega)] at h2
      exact h.2.2 i e y h1 h2
    · rw [List.getElem?_append_right hi] at h1
      rw [List.getElem?_append_right (by omega)] at h2
      rw [← this] at h2; exact h'.2.2 _ e y h1 h2⟩
theorem NS.set {cs' : List Value} {x' : List σ} {i : Int} {s : σ} {e : NE} (h : NS S Q E G es cs x) (hl : lupd x i s = some x') (hn : e.n = (S.row s).length) (ho : OL Q G e.cs (S.row s)) (hc : OL E G cs' ((hds S es x).set i.toNat (S.hd s e.h))) : NS S Q E G (es.set i.toNat e) cs' x' := by
  obtain ⟨hi0, hil, rfl⟩ := lupd_some hl
  refine ⟨by rw [hds_set]; exact hc, by simp [h.2.1], fun j e' y' h1 h2 => ?_⟩
  rw [List.getElem?_set] at h1 h2
  by_cases hij : i.toNat = j
  · subst hij
    have := h.2.1
    rw [if_pos rfl, if_pos (by omega)] at h1
    rw [if_pos rfl, if_pos (by omega)] at h2
    cases h1; cases h2
    exact ⟨hn, ho⟩
  · rw [if_neg hij] at h1 h2
    exact h.2.2 j e' y' h1 h2
theorem set_same {γ : Type} {l : List γ} {i : Nat} {a : γ} (h : l[i]? = some a) : l.set i a = l := by
  obtain ⟨hlt, h4⟩ := List.getElem?_eq_some_iff.1 h
  rw [← h4]; exact List.set_getElem_self hlt
end
section
variable {P : Program} {c : Cx} {R : Value → World → Prop} {nt : Nat} {w0 : World} {S0 : List Nat} {df : List Deferred} {ρ ρ' : Env} {Fs Fs' Fin B : List Hp} {bl bl' : Blks} {sl sl' : List OwnS}
  {K K' : Act → World → Prop} {k : List Item} {ty : TypeId} {G : Hp} {σ α β : Type} {S : Shp σ α β} {Q : Rep α} {E : Rep β}
def ClsO (Fs : List Hp) (bl : Blks) (sl : List OwnS) : World → Prop := fun w => Mem Fs bl sl w
theorem ClsO.of_le {w : World} {G0 : Hp} {bl0 : Blks} {sl0 : List OwnS} (h : Inv w0 S0 Fs bl sl w) (h1 : ∃ G ∈ Fs, HpLe G0 G) (h2 : ∀ p ∈ bl0, p ∈ bl) (h3 : ∀ s ∈ sl0, s ∈ sl) : ClsO [G0] bl0 sl0 w :=
  ⟨fun F hF => by
    obtain ⟨G, hG, hle⟩ := h1
    rcases List.mem_cons.1 hF with rfl | hF
    · exact fun b o hb => h.mem.fs G hG b o (hle b o hb)
    · exact absurd hF (List.not_mem_nil), fun p hp => h.mem.own p (h2 p hp), fun s hs => h.mem.slh s (h3 s hs)⟩
theorem Cov.mv {d : Nat} {x : Operand} {v : Value} {os : List OpX} (hx : ev ρ x = some v) (hd : Nat.blt d nt = true) (h : Cov nt w0 S0 df ((d, v) :: ρ) Fs bl sl (RO P c R os k)) : Cov nt w0 S0 df ρ Fs bl sl (RO P c R (⟨some d, .move x, ty, none⟩ :: os) k) := Cov.q .ro (.move hx) hd h
theorem Cov.av {d : Nat} {x : Operand} {v : Value} {os : List OpX} (hx : ev ρ x = some v) (hd : Nat.blt d nt = true) (h : Cov nt w0 S0 df ((d, v) :: ρ) Fs bl sl (RO P c R os k)) : Cov nt w0 S0 df ρ Fs bl sl (RO P c R (⟨some d, .assign x, ty, none⟩ :: os) k) := Cov.q .ro (.assign hx) hd h
theorem Cov.re (h : Cov nt w0 S0 df ρ Fs bl sl (Run P c R k)) : Cov nt w0 S0 df ρ Fs bl sl (RO P c R [] k) := Cov.region_end h
theorem mcm {G : Hp} {Fs : List Hp} : ∀ F, F ∈ Fs → F ∈ G :: Fs := fun _ h => List.mem_cons_of_mem _ h
end
end Go.Proofs.YtfcicopgdahmcaaGreatDoor
end

section
set_option maxHeartbeats 4000000
set_option maxRecDepth 100000
namespace Go.Proofs.YtfcicopgdahmcaaGreatDoor
open Go.RowKit
set_option linter.unusedSimpArgs false
set_option linter.unusedVariables false
set_option synthInstance.maxSize 2000
set_option synthInstance.maxHeartbeats 400000
theorem ty3 : TyI Tryz.prog 3 false 1 8 [.int .i64 0] := ⟨by kernel_rfl, by kernel_rfl, by kernel_rfl, by kernel_rfl⟩
theorem ty4 : TyI Tryz.prog 4 false 1 1 [.bool false] := ⟨by kernel_rfl, by kernel_rfl, by kernel_rfl, by kernel_rfl⟩
theorem ty5 : TyI Tryz.prog 5 false 1 1 [.int .u8 0] := ⟨by kernel_rfl, by kernel_rfl, by kernel_rfl, by kernel_rfl⟩
theorem ty9 : TyI Tryz.prog 9 false 1 16 [.string ⟨#[]⟩] := ⟨by kernel_rfl, by kernel_rfl, by kernel_rfl, by kernel_rfl⟩
theorem ty22 : TyI Tryz.prog 22 false 1 24 [.slice none 0 0] := ⟨by kernel_rfl, by kernel_rfl, by kernel_rfl, by kernel_rfl⟩
theorem ty27 : TyI Tryz.prog 27 false 1 24 [.slice none 0 0] := ⟨by kernel_rfl, by kernel_rfl, by kernel_rfl, by kernel_rfl⟩
theorem ty29 : TyI Tryz.prog 29 true 2 32 [.int .i64 0, .slice none 0 0] := ⟨by kernel_rfl, by kernel_rfl, by kernel_rfl, by kernel_rfl⟩
theorem ty32 : TyI Tryz.prog 32 false 1 24 [.slice none 0 0] := ⟨by kernel_rfl, by kernel_rfl, by kernel_rfl, by kernel_rfl⟩
theorem ty33 : TyI Tryz.prog 33 false 1 8 [.int .i64 0] := ⟨by kernel_rfl, by kernel_rfl, by kernel_rfl, by kernel_rfl⟩
theorem ty45 : TyI Tryz.prog 45 true 1 8 [.int .i64 0] := ⟨by kernel_rfl, by kernel_rfl, by kernel_rfl, by kernel_rfl⟩
theorem ty51 : TyI Tryz.prog 51 false 1 24 [.slice none 0 0] := ⟨by kernel_rfl, by kernel_rfl, by kernel_rfl, by kernel_rfl⟩
theorem ty56 : TyI Tryz.prog 56 true 2 32 [.slice none 0 0, .int .i64 0] := ⟨by kernel_rfl, by kernel_rfl, by kernel_rfl, by kernel_rfl⟩
theorem ty60 : TyI Tryz.prog 60 false 1 24 [.slice none 0 0] := ⟨by kernel_rfl, by kernel_rfl, by kernel_rfl, by kernel_rfl⟩
theorem ty63 : TyI Tryz.prog 63 true 2 32 [.bool false, .slice none 0 0] := ⟨by kernel_rfl, by kernel_rfl, by kernel_rfl, by kernel_rfl⟩
theorem ty65 : TyI Tryz.prog 65 true 2 48 [.slice none 0 0, .slice none 0 0] := ⟨by kernel_rfl, by kernel_rfl, by kernel_rfl, by kernel_rfl⟩
theorem ty69 : TyI Tryz.prog 69 true 2 16 [.int .i64 0, .int .i64 0] := ⟨by kernel_rfl, by kernel_rfl, by kernel_rfl, by kernel_rfl⟩
theorem ty81 : TyI Tryz.prog 81 false 1 24 [.slice none 0 0] := ⟨by kernel_rfl, by kernel_rfl, by kernel_rfl, by kernel_rfl⟩
theorem ty121 : TyI Tryz.prog 121 true 2 32 [.slice none 0 0, .int .i64 0] := ⟨by kernel_rfl, by kernel_rfl, by kernel_rfl, by kernel_rfl⟩
theorem ty140 : TyI Tryz.prog 140 false 1 8 [.int .i64 0] := ⟨by kernel_rfl, by kernel_rfl, by kernel_rfl, by kernel_rfl⟩
theorem ty162 : TyI Tryz.prog 162 true 3 40 [.int .i64 0, .int .i64 0, .slice none 0 0] := ⟨by kernel_rfl, by kernel_rfl, by kernel_rfl, by kernel_rfl⟩
theorem ty168 : TyI Tryz.prog 168 true 2 16 [.int .i64 0, .int .i64 0] := ⟨by kernel_rfl, by kernel_rfl, by kernel_rfl, by kernel_rfl⟩
theorem ty207 : TyI Tryz.prog 207 true 2 32 [.slice none 0 0, .int .i64 0] := ⟨by kernel_rfl, by kernel_rfl, by kernel_rfl, by kernel_rfl⟩
theorem ty209 : TyI Tryz.prog 209 true 3 56 [.slice none 0 0, .int .i64 0, .slice none 0 0] := ⟨by kernel_rfl, by kernel_rfl, by kernel_rfl, by kernel_rfl⟩
theorem ty215 : TyI Tryz.prog 215 true 2 48 [.slice none 0 0, .slice none 0 0] := ⟨by kernel_rfl, by kernel_rfl, by kernel_rfl, by kernel_rfl⟩
theorem ty218 : TyI Tryz.prog 218 false 1 24 [.slice none 0 0] := ⟨by kernel_rfl, by kernel_rfl, by kernel_rfl, by kernel_rfl⟩
theorem ty220 : TyI Tryz.prog 220 true 2 16 [.int .i64 0, .bool false] := ⟨by kernel_rfl, by kernel_rfl, by kernel_rfl, by kernel_rfl⟩
theorem ty233 : TyI Tryz.prog 233 false 1 16 [.nilIface] := ⟨by kernel_rfl, by kernel_rfl, by kernel_rfl, by kernel_rfl⟩
theorem ty256 : TyI Tryz.prog 256 true 5 72 [.int .i64 0, .int .i64 0, .int .i64 0, .slice none 0 0, .slice none 0 0] := ⟨by kernel_rfl, by kernel_rfl, by kernel_rfl, by kernel_rfl⟩
theorem ty268 : TyI Tryz.prog 268 true 1 8 [.int .i64 0] := ⟨by kernel_rfl, by kernel_rfl, by kernel_rfl, by kernel_rfl⟩
theorem ty284 : TyI Tryz.prog 284 true 32 256 [.int .i64 0, .int .i64 0, .int .i64 0, .int .i64 0, .int .i64 0, .int .i64 0, .int .i64 0, .int .i64 0, .int .i64 0, .int .i64 0, .int .i64 0, .int .i64 0, .int .i64 0, .int .i64 0, .int .i64 0, .int .i64 0, .int .i64 0, .int .i64 0, .int .i64 0, .int .i64 0, .int .i64 0, .int .i64 0, .int .i64 0, .int .i64 0, .int .i64 0, .int .i64 0, .int .i64 0, .int .i64 0, .int .i64 0, .int .i64 0, .int .i64 0, .int .i64 0] := ⟨by kernel_rfl, by kernel_rfl, by kernel_rfl, by kernel_rfl⟩
theorem ty286 : TyI Tryz.prog 286 true 36 304 [.int .i64 0, .int .i64 0, .slice none 0 0, .int .i64 0, .int .i64 0, .int .i64 0, .int .i64 0, .int .i64 0, .int .i64 0, .int .i64 0, .int .i64 0, .int .i64 0, .int .i64 0, .int .i64 0, .int .i64 0, .int .i64 0, .int .i64 0, .int .i64 0, .int .i64 0, .int .i64 0, .int .i64 0, .int .i64 0, .int .i64 0, .int .i64 0, .int .i64 0, .int .i64 0, .int .i64 0, .int .i64 0, .int .i64 0, .int .i64 0, .int .i64 0, .int .i64 0, .int .i64 0, .int .i64 0, .int .i64 0, .int .i64 0] := ⟨by kernel_rfl, by kernel_rfl, by kernel_rfl, by kernel_rfl⟩
theorem fl29_0 : fldOf Tryz.prog 29 0 = some (0, 3) := by kernel_rfl
theorem fl29_1 : fldOf Tryz.prog 29 1 = some (1, 27) := by kernel_rfl
theorem fl45_0 : fldOf Tryz.prog 45 0 = some (0, 3) := by kernel_rfl
theorem fl56_0 : fldOf Tryz.prog 56 0 = some (0, 22) := by kernel_rfl
theorem fl56_1 : fldOf Tryz.prog 56 1 = some (1, 3) := by kernel_rfl
theorem fl63_0 : fldOf Tryz.prog 63 0 = some (0, 4) := by kernel_rfl
theorem fl63_1 : fldOf Tryz.prog 63 1 = some (1, 22) := by kernel_rfl
theorem fl65_0 : fldOf Tryz.prog 65 0 = some (0, 22) := by kernel_rfl
theorem fl69_0 : fldOf Tryz.prog 69 0 = some (0, 3) := by kernel_rfl
theorem fl69_1 : fldOf Tryz.prog 69 1 = some (1, 3) := by kernel_rfl
theorem fl121_0 : fldOf Tryz.prog 121 0 = some (0, 22) := by kernel_rfl
theorem fl121_1 : fldOf Tryz.prog 121 1 = some (1, 3) := by kernel_rfl
theorem fl162_0 : fldOf Tryz.prog 162 0 = some (0, 45) := by kernel_rfl
theorem fl162_1 : fldOf Tryz.prog 162 1 = some (1, 3) := by kernel_rfl
theorem fl162_2 : fldOf Tryz.prog 162 2 = some (2, 60) := by kernel_rfl
theorem fl168_0 : fldOf Tryz.prog 168 0 = some (0, 3) := by kernel_rfl
theorem fl168_1 : fldOf Tryz.prog 168 1 = some (1, 3) := by kernel_rfl
theorem fl207_0 : fldOf Tryz.prog 207 0 = some (0, 22) := by kernel_rfl
theorem fl207_1 : fldOf Tryz.prog 207 1 = some (1, 3) := by kernel_rfl
theorem fl209_0 : fldOf Tryz.prog 209 0 = some (0, 207) := by kernel_rfl
theorem fl209_1 : fldOf Tryz.prog 209 1 = some (2, 22) := by kernel_rfl
theorem fl215_0 : fldOf Tryz.prog 215 0 = some (0, 22) := by kernel_rfl
theorem fl215_1 : fldOf Tryz.prog 215 1 = some (1, 22) := by kernel_rfl
theorem fl220_0 : fldOf Tryz.prog 220 0 = some (0, 3) := by kernel_rfl
theorem fl220_1 : fldOf Tryz.prog 220 1 = some (1, 4) := by kernel_rfl
theorem fl256_0 : fldOf Tryz.prog 256 0 = some (0, 45) := by kernel_rfl
theorem fl256_1 : fldOf Tryz.prog 256 1 = some (1, 3) := by kernel_rfl
theorem fl256_2 : fldOf Tryz.prog 256 2 = some (2, 3) := by kernel_rfl
theorem fl256_3 : fldOf Tryz.prog 256 3 = some (3, 22) := by kernel_rfl
theorem fl256_4 : fldOf Tryz.prog 256 4 = some (4, 22) := by kernel_rfl
theorem fl286_0 : fldOf Tryz.prog 286 0 = some (0, 140) := by kernel_rfl
theorem fl286_1 : fldOf Tryz.prog 286 1 = some (1, 3) := by kernel_rfl
theorem fl286_2 : fldOf Tryz.prog 286 2 = some (2, 51) := by kernel_rfl
theorem fl286_3 : fldOf Tryz.prog 286 3 = some (3, 3) := by kernel_rfl
theorem fl286_4 : fldOf Tryz.prog 286 4 = some (4, 284) := by kernel_rfl
theorem pl29 : plOf Tryz.prog 29 = some [(0, 1), (1, 1)] := by kernel_rfl
theorem pl45 : plOf Tryz.prog 45 = some [(0, 1)] := by kernel_rfl
theorem pl56 : plOf Tryz.prog 56 = some [(0, 1), (1, 1)] := by kernel_rfl
theorem pl63 : plOf Tryz.prog 63 = some [(0, 1), (1, 1)] := by kernel_rfl
theorem pl65 : plOf Tryz.prog 65 = some [(0, 1), (1, 1)] := by kernel_rfl
theorem pl69 : plOf Tryz.prog 69 = some [(0, 1), (1, 1)] := by kernel_rfl
theorem pl121 : plOf Tryz.prog 121 = some [(0, 1), (1, 1)] := by kernel_rfl
theorem pl162 : plOf Tryz.prog 162 = some [(0, 1), (1, 1), (2, 1)] := by kernel_rfl
theorem pl168 : plOf Tryz.prog 168 = some [(0, 1), (1, 1)] := by kernel_rfl
theorem pl207 : plOf Tryz.prog 207 = some [(0, 1), (1, 1)] := by kernel_rfl
theorem pl209 : plOf Tryz.prog 209 = some [(0, 2), (2, 1)] := by kernel_rfl
theorem pl215 : plOf Tryz.prog 215 = some [(0, 1), (1, 1)] := by kernel_rfl
theorem pl220 : plOf Tryz.prog 220 = some [(0, 1), (1, 1)] := by kernel_rfl
theorem pl256 : plOf Tryz.prog 256 = some [(0, 1), (1, 1), (2, 1), (3, 1), (4, 1)] := by kernel_rfl
theorem pl268 : plOf Tryz.prog 268 = some [(0, 1)] := by kernel_rfl
theorem pl286 : plOf Tryz.prog 286 = some [(0, 1), (1, 1), (2, 1), (3, 1), (4, 32)] := by kernel_rfl
theorem sl22 : slOf Tryz.prog 22 = some 3 := by kernel_rfl
theorem sl27 : slOf Tryz.prog 27 = some 9 := by kernel_rfl
theorem sl32 : slOf Tryz.prog 32 = some 27 := by kernel_rfl
theorem sl51 : slOf Tryz.prog 51 = some 22 := by kernel_rfl
theorem sl60 : slOf Tryz.prog 60 = some 63 := by kernel_rfl
theorem sl81 : slOf Tryz.prog 81 = some 168 := by kernel_rfl
theorem sl123 : slOf Tryz.prog 123 = some 5 := by kernel_rfl
theorem sl218 : slOf Tryz.prog 218 = some 220 := by kernel_rfl
theorem ar284 : arOf Tryz.prog 284 = some (32, 3) := by kernel_rfl
theorem residue_Field_Mul_c {Fs : List Hp} {G : Hp} {x0 : Int} {x1 : Int} {x2 : Int} {r : Int} (hG : G ∈ Fs)  (h : residue_Field_Mul x0 x1 x2 = some r) : RetS Tryz.prog 77 #[.int .i64 x0, .int .i64 x1, .int .i64 x2] Fs [] [] (fun v bo so => v = .int .i64 r ∧ bo = [] ∧ so = []) := by
 unfold residue_Field_Mul at h
 try dsimp only at h
 refine RetS.of (vs := [_, _, _]) Tryz.func77 rfl Tryz.ntmps77 [(0, _), (1, _), (2, _)] ⟨rfl, rfl, rfl, trivial⟩ rfl hG fun w0 S0 hS0 B0 => ?_
 refine .seq ?_;refine .region rfl ?_;refine .av rfl rfl ?_;refine .re ?_;refine .seq ?_;refine .region rfl ?_;refine .mv rfl rfl ?_;refine .mv rfl rfl ?_;refine .q .ro (.mulw rfl rfl) rfl ?_
 refine .mv rfl rfl ?_
 obtain ⟨u1, hu1, r2⟩ := bind_some h; clear h
 refine .q .ro (.remt rfl rfl (nz_some hu1)) rfl ?_;refine .av rfl rfl ?_;refine .re ?_
 cases r2
 refine .retS (c := ⟨77, none⟩) (.inr ⟨_, rfl⟩) [.tmp 6] [_] rfl Tryz.func77 Tryz.results77 ⟨RV.tmp rfl, trivial⟩ mcm ⟨rfl, rfl, rfl⟩
theorem residue_Field_Add_c {Fs : List Hp} {G : Hp} {x0 : Int} {x1 : Int} {x2 : Int} {r : Int} (hG : G ∈ Fs)  (h : residue_Field_Add x0 x1 x2 = some r) : RetS Tryz.prog 80 #[.int .i64 x0, .int .i64 x1, .int .i64 x2] Fs [] [] (fun v bo so => v = .int .i64 r ∧ bo = [] ∧ so = []) := by
 unfold residue_Field_Add at h
 try dsimp only at h
 refine RetS.of (vs := [_, _, _]) Tryz.func80 rfl Tryz.ntmps80 [(0, _), (1, _), (2, _)] ⟨rfl, rfl, rfl, trivial⟩ rfl hG fun w0 S0 hS0 B0 => ?_
 refine .seq ?_;refine .region rfl ?_;refine .av rfl rfl ?_;refine .re ?_;refine .seq ?_;refine .region rfl ?_;refine .mv rfl rfl ?_;refine .mv rfl rfl ?_;refine .q .ro (.addw rfl rfl) rfl ?_
 refine .mv rfl rfl ?_
 obtain ⟨u1, hu1, r2⟩ := bind_some h; clear h
 refine .q .ro (.remt rfl rfl (nz_some hu1)) rfl ?_;refine .av rfl rfl ?_;refine .re ?_
 cases r2
 refine .retS (c := ⟨80, none⟩) (.inr ⟨_, rfl⟩) [.tmp 6] [_] rfl Tryz.func80 Tryz.results80 ⟨RV.tmp rfl, trivial⟩ mcm ⟨rfl, rfl, rfl⟩
theorem residue_Field_AddTimes_c {Fs : List Hp} {G : Hp} {x0 : Int} {a1 : Option Addr} {k1 : Nat} {x1 : List Int} {cc1 : List Value} {bb1 : Option Nat} {pre1 post1 : List Value} {x2 : Int} {a3 : Option Addr} {k3 : Nat} {x3 : List Int} {r : (List Int)} (hG : G ∈ Fs) (vva1 : VA a1 bb1 x1.length k1 pre1 cc1) (oo1 : OL (Rep.int .i64) G cc1 x1) (s3 : SlR (Rep.int .i64) G a3 k3 x3) (h : residue_Field_AddTimes x0 x1 x2 x3 = some r) : RetS Tryz.prog 67 #[.int .i64 x0, .slice a1 x1.length k1, .int .i64 x2, .slice a3 x3.length k3] Fs [] [.g (viewG bb1 3 pre1 cc1 post1)] (fun v bo so => ∃ lc0 : List Value, v = .tuple #[] ∧ bo = [] ∧ so = [.g (viewG bb1 3 pre1 lc0 post1)] ∧ OL (Rep.int .i64) G lc0 r ∧ r.length = x1.length) := by
 unfold residue_Field_AddTimes at h
 try dsimp only at h
 refine RetS.of (vs := [_, _, _, _]) Tryz.func67 rfl Tryz.ntmps67 [(0, _), (1, _), (2, _), (3, _)] ⟨rfl, rfl, rfl, rfl, trivial⟩ rfl hG fun w0 S0 hS0 B0 => ?_
 refine .seq ?_;refine .region rfl ?_;refine .mv rfl rfl ?_;refine .q .ro (.len_sl rfl rfl sl22) rfl ?_;refine .mv rfl rfl ?_;refine .re ?_;refine .block ?_
 refine .loop2 (α := Nat × List Int × List Int × List Value) (fun y => [(1, .slice a1 y.2.2.1.length k1), (12, .int .i64 (y.1 : Int))]) [(0, _), (2, _), (10, _), (11, _)] (fun y => []) (fun y => []) [] (fun y => [.g (viewG bb1 3 pre1 y.2.2.2 post1)]) [] (fun y => OL (Rep.int .i64) G y.2.2.2 y.2.2.1 ∧ VA a1 bb1 y.2.2.1.length k1 pre1 y.2.2.2 ∧ y.2.2.1.length = x1.length ∧ List.drop y.1 x3 = y.2.1 ∧ residue_Field_AddTimes_L1 x0 x2 y.2.1 y.1 y.2.2.1 = some r) (fun y => y.2.1.length) (0, x3, x1, cc1) ⟨oo1, vva1, rfl, rfl, h⟩ ⟨rfl, rfl, rfl, rfl, rfl, rfl, trivial⟩ rfl rfl rfl (fun y hI hb10 => ?_)
 obtain ⟨i11, w12, v13, cs14⟩ := y
 obtain ⟨o15, va16, hl17, g18, r19⟩ := hI
 try dsimp only at o15 va16 hl17 g18 r19
 refine .prune [(1, .slice a1 v13.length k1), (12, .int .i64 (i11 : Int)), (0, _), (2, _), (10, _), (11, _)] ⟨rfl, rfl, rfl, rfl, rfl, rfl, trivial⟩ ?_;refine .same (bl' := []) (sl' := [.g (viewG bb1 3 pre1 cs14 post1)]) (Fs' := G :: Fs) rfl rfl rfl ?_
 cases w12 with
 | nil =>
  rw [residue_Field_AddTimes_L1] at r19; try dsimp only at r19
  refine .seq ?_;refine .region rfl ?_;refine .q .ro (.lss rfl rfl) rfl ?_;refine .re ?_;refine .seq ?_
  refine .cond_dec rfl (fun c => absurd c (drop_nil g18)) (fun _ => ?_)
  refine .exit rfl ?_
  cases r19
  refine .retS (c := ⟨67, none⟩) (.inl rfl) [] [] rfl Tryz.func67 Tryz.results67 trivial mcm ⟨cs14, rfl, rfl, rfl, o15, hl17⟩
 | cons x20 xs21 =>
  have r23 : residue_Field_AddTimes_B1 x0 x2 (residue_Field_AddTimes_L1 x0 x2 xs21 (i11 + 1)) x20 i11 v13 = some r := r19; clear r19; unfold residue_Field_AddTimes_B1 at r23; try dsimp only at r23
  refine .seq ?_;refine .region rfl ?_;refine .q .ro (.lss rfl rfl) rfl ?_;refine .re ?_;refine .seq ?_
  refine .cond_dec rfl (fun _ => ?_) (fun c => absurd (drop_lt g18) c)
  refine .skip ?_;refine .seq ?_;refine .block ?_;refine .seq ?_;refine .region rfl ?_;refine .mv rfl rfl ?_
  obtain ⟨c24, p25, h26⟩ := SlR.get s3 (drop_idx g18)
  obtain rfl := h26
  refine .q .ro (.idxR s3 rfl rfl (drop_idx g18) sl22 ty3.sz) rfl ?_;refine .q .ro (.load_rp p25 List.mem_cons_self rfl ty3 rfl) rfl ?_;refine .av rfl rfl ?_;refine .av rfl rfl ?_;refine .re ?_;refine .drawL (.q 0 (.q 1 (.q 2 (.q 3 (.q 4 (.q 7 (.q 8 (.q 9 (.alt (.e 5 1 (.alt (.e 6 1 (.e 10 1 (.e 11 1 (.e 12 2 (.e 13 2 .nil))))) (.e 10 1 (.e 6 1 (.e 11 1 (.e 12 2 (.e 13 2 .nil))))))) (.e 10 1 (.e 5 1 (.e 6 1 (.e 11 1 (.e 12 2 (.e 13 2 .nil))))))))))))))) [] (by kernel_rfl) (by kernel_rfl) (pick_mem [] rfl) ?_
  obtain ⟨u27, hu27, r28⟩ := bind_some r23; clear r23
  obtain ⟨u29, hu29, r30⟩ := bind_some r28; clear r28
  obtain ⟨u31, hu31, r32⟩ := bind_some r30; clear r30
  obtain ⟨u33, hu33, r34⟩ := bind_some r32; clear r32
  obtain ⟨u35, hu35, r36⟩ := bind_some r34; clear r34
  refine .dq (.move rfl) rfl ?_;refine .dq (.move rfl) rfl ?_;refine .dq (.move rfl) rfl ?_;refine .dq (.move rfl) rfl ?_;refine .dq (.move rfl) rfl ?_;refine .dq (.move rfl) rfl ?_;refine .dq (.move rfl) rfl ?_;refine .dq (.move rfl) rfl ?_;refine .alt ?_ ?_
  ·obtain ⟨c37, p38, h39⟩ := OL.get o15 hu27
   obtain rfl := h39
   refine .q .d1 (.idxV 0 rfl va16 o15 rfl rfl hu27 sl22 ty3.sz rfl rfl) rfl ?_;refine .clsL (HpLe.refl _) (pick_mem [] rfl) ?_;refine .alt ?_ ?_
   ·refine .q .d1 (.loadV 0 0 rfl va16 o15 rfl rfl hu27 p38 rfl (.inl ⟨rfl, rfl⟩) ty3 rfl) rfl ?_
    refine .clsL (HpLe.refl _) (pick_mem [] rfl) ?_
    refine .callS (b1 := []) (b2 := []) (s1 := []) [_, _, _] [] .d1 rfl rfl Tryz.call77 rfl rfl (residue_Field_Mul_c (G := G) List.mem_cons_self  hu29) rfl (fun v40 bo so h41 => ?_)
    obtain ⟨rfl, rfl, rfl⟩ := h41
    refine .same (bl' := []) (sl' := [_]) rfl rfl rfl ?_;refine .clsL (HpLe.refl _) (pick_mem [] rfl) ?_
    refine .callS (b1 := []) (b2 := []) (s1 := []) [_, _, _] [] .d1 rfl rfl Tryz.call80 rfl rfl (residue_Field_Add_c (G := G) List.mem_cons_self  hu31) rfl (fun v42 bo so h43 => ?_)
    obtain ⟨rfl, rfl, rfl⟩ := h43
    refine .same (bl' := []) (sl' := [_]) rfl rfl rfl ?_;refine .clsL (HpLe.refl _) (pick_mem [] rfl) ?_
    obtain ⟨c44, p45, h46⟩ := OL.get o15 hu33
    obtain rfl := h46
    refine .q .d2 (.idxV 0 rfl va16 o15 rfl rfl hu33 sl22 ty3.sz rfl rfl) rfl ?_
    refine .storeV 0 0 (Q := (Rep.int .i64)) .d2 rfl va16 rfl rfl o15 hu35 rfl (.inl ⟨rfl, rfl⟩) rfl ty3 p45 ((Rep.intI .i64 u31) :) rfl rfl (fun cs47 hlcs47 o48 va49 => ?_)
    refine .reval 1 hlcs47 rfl ?_;refine .reval 17 hlcs47 rfl ?_;refine .reval 20 hlcs47 rfl ?_;refine .draw_end ?_;refine .prune [(1, _), (12, _), (0, _), (2, _), (10, _), (11, _)] ⟨rfl, rfl, rfl, rfl, rfl, rfl, trivial⟩ ?_;refine .inBlock ?_;refine .region rfl ?_;refine .q .ro (.addw rfl rfl) rfl ?_;refine .mv rfl rfl ?_
    refine .re ?_
    refine .prune _ ?_ (Cov.same rfl rfl rfl (hb10 ((i11 + 1), xs21, u35, cs47) ⟨o48, va49, (hlcs47.trans hl17), (drop_succ g18), r36⟩ (Nat.lt_succ_self _)))
    exact ⟨rfl, (congrArg (fun z => some (Value.int .i64 z)) (idx_wrap (SlR.len s3) g18)), rfl, rfl, rfl, rfl, trivial⟩
   ·refine .callS (b1 := []) (b2 := []) (s1 := []) [_, _, _] [] .d1 rfl rfl Tryz.call77 rfl rfl (residue_Field_Mul_c (G := G) List.mem_cons_self  hu29) rfl (fun v50 bo so h51 => ?_)
    obtain ⟨rfl, rfl, rfl⟩ := h51
    refine .same (bl' := []) (sl' := [_]) rfl rfl rfl ?_;refine .clsL (HpLe.refl _) (pick_mem [] rfl) ?_;refine .q .d1 (.loadV 0 0 rfl va16 o15 rfl rfl hu27 p38 rfl (.inl ⟨rfl, rfl⟩) ty3 rfl) rfl ?_;refine .clsL (HpLe.refl _) (pick_mem [] rfl) ?_
    refine .callS (b1 := []) (b2 := []) (s1 := []) [_, _, _] [] .d1 rfl rfl Tryz.call80 rfl rfl (residue_Field_Add_c (G := G) List.mem_cons_self  hu31) rfl (fun v52 bo so h53 => ?_)
    obtain ⟨rfl, rfl, rfl⟩ := h53
    refine .same (bl' := []) (sl' := [_]) rfl rfl rfl ?_;refine .clsL (HpLe.refl _) (pick_mem [] rfl) ?_
    obtain ⟨c54, p55, h56⟩ := OL.get o15 hu33
    obtain rfl := h56
    refine .q .d2 (.idxV 0 rfl va16 o15 rfl rfl hu33 sl22 ty3.sz rfl rfl) rfl ?_
    refine .storeV 0 0 (Q := (Rep.int .i64)) .d2 rfl va16 rfl rfl o15 hu35 rfl (.inl ⟨rfl, rfl⟩) rfl ty3 p55 ((Rep.intI .i64 u31) :) rfl rfl (fun cs57 hlcs57 o58 va59 => ?_)
    refine .reval 1 hlcs57 rfl ?_;refine .reval 17 hlcs57 rfl ?_;refine .reval 20 hlcs57 rfl ?_;refine .draw_end ?_;refine .prune [(1, _), (12, _), (0, _), (2, _), (10, _), (11, _)] ⟨rfl, rfl, rfl, rfl, rfl, rfl, trivial⟩ ?_;refine .inBlock ?_;refine .region rfl ?_;refine .q .ro (.addw rfl rfl) rfl ?_;refine .mv rfl rfl ?_
    refine .re ?_
    refine .prune _ ?_ (Cov.same rfl rfl rfl (hb10 ((i11 + 1), xs21, u35, cs57) ⟨o58, va59, (hlcs57.trans hl17), (drop_succ g18), r36⟩ (Nat.lt_succ_self _)))
    exact ⟨rfl, (congrArg (fun z => some (Value.int .i64 z)) (idx_wrap (SlR.len s3) g18)), rfl, rfl, rfl, rfl, trivial⟩
  ·refine .callS (b1 := []) (b2 := []) (s1 := []) [_, _, _] [] .d1 rfl rfl Tryz.call77 rfl rfl (residue_Field_Mul_c (G := G) List.mem_cons_self  hu29) rfl (fun v60 bo so h61 => ?_)
   obtain ⟨rfl, rfl, rfl⟩ := h61
   refine .same (bl' := []) (sl' := [_]) rfl rfl rfl ?_;refine .clsL (HpLe.refl _) (pick_mem [] rfl) ?_
   obtain ⟨c62, p63, h65⟩ := OL.get o15 hu27
   obtain rfl := h65
   refine .q .d1 (.idxV 0 rfl va16 o15 rfl rfl hu27 sl22 ty3.sz rfl rfl) rfl ?_;refine .clsL (HpLe.refl _) (pick_mem [] rfl) ?_;refine .q .d1 (.loadV 0 0 rfl va16 o15 rfl rfl hu27 p63 rfl (.inl ⟨rfl, rfl⟩) ty3 rfl) rfl ?_;refine .clsL (HpLe.refl _) (pick_mem [] rfl) ?_
   refine .callS (b1 := []) (b2 := []) (s1 := []) [_, _, _] [] .d1 rfl rfl Tryz.call80 rfl rfl (residue_Field_Add_c (G := G) List.mem_cons_self  hu31) rfl (fun v66 bo so h68 => ?_)
   obtain ⟨rfl, rfl, rfl⟩ := h68
   refine .same (bl' := []) (sl' := [_]) rfl rfl rfl ?_;refine .clsL (HpLe.refl _) (pick_mem [] rfl) ?_
   obtain ⟨c69, p70, h71⟩ := OL.get o15 hu33
   obtain rfl := h71
   refine .q .d2 (.idxV 0 rfl va16 o15 rfl rfl hu33 sl22 ty3.sz rfl rfl) rfl ?_
   refine .storeV 0 0 (Q := (Rep.int .i64)) .d2 rfl va16 rfl rfl o15 hu35 rfl (.inl ⟨rfl, rfl⟩) rfl ty3 p70 ((Rep.intI .i64 u31) :) rfl rfl (fun cs72 hlcs72 o73 va74 => ?_)
   refine .reval 1 hlcs72 rfl ?_;refine .reval 17 hlcs72 rfl ?_;refine .reval 20 hlcs72 rfl ?_;refine .draw_end ?_;refine .prune [(1, _), (12, _), (0, _), (2, _), (10, _), (11, _)] ⟨rfl, rfl, rfl, rfl, rfl, rfl, trivial⟩ ?_;refine .inBlock ?_;refine .region rfl ?_;refine .q .ro (.addw rfl rfl) rfl ?_;refine .mv rfl rfl ?_
   refine .re ?_
   refine .prune _ ?_ (Cov.same rfl rfl rfl (hb10 ((i11 + 1), xs21, u35, cs72) ⟨o73, va74, (hlcs72.trans hl17), (drop_succ g18), r36⟩ (Nat.lt_succ_self _)))
   exact ⟨rfl, (congrArg (fun z => some (Value.int .i64 z)) (idx_wrap (SlR.len s3) g18)), rfl, rfl, rfl, rfl, trivial⟩
theorem residue_Of_c {Fs : List Hp} {G : Hp} {x0_0 : Int} {r : (Int × Bool)} (hG : G ∈ Fs)  (h : residue_Of x0_0 = some r) : RetS Tryz.prog 72 #[.agg #[.int .i64 x0_0]] Fs [] [] (fun v bo so => v = .tuple #[.int .i64 r.1, .bool r.2] ∧ bo = [] ∧ so = []) := by
 unfold residue_Of at h
 try dsimp only at h
 refine RetS.of (vs := [_]) Tryz.func72 rfl Tryz.ntmps72 [(0, _)] ⟨rfl, trivial⟩ rfl hG fun w0 S0 hS0 B0 => ?_
 refine .seq ?_;refine .region rfl ?_
 refine .box [_] .ro rfl rfl rfl (fun b1 hb1 => ?_)
 refine .av rfl rfl ?_;refine .av rfl rfl ?_;refine .re ?_;refine .seq ?_;refine .seq ?_;refine .region rfl ?_;refine .q .ro (.fieldAddr 0 rfl fl45_0 ty3.sz rfl) rfl ?_;refine .q .ro (.load_own 0 rfl rfl ty3 rfl) rfl ?_;refine .q .ro (.lss rfl rfl) rfl ?_
 refine .mv rfl rfl ?_;refine .cutR 4 (β := Unit) (fun y => [(12, .bool (decide ((x0_0 < 2) ∨ (65521 < x0_0))))]) [(1, _)] (fun y => G :: Fs) (fun y => []) [_] (fun y => []) [] (fun y => True) ⟨rfl, trivial⟩ [0] rfl [] rfl ?_ ?_
 ·rintro _ _
  refine .prune [(12, .bool (decide ((x0_0 < 2) ∨ (65521 < x0_0)))), (1, _)] ⟨rfl, rfl, trivial⟩ ?_;refine .same (bl' := [_]) (sl' := []) (Fs' := G :: Fs) rfl rfl rfl ?_;refine .re ?_
  refine .cond_dec rfl (fun c6 => ?_) (fun c6 => ?_)
  ·have r7 := ifT h c6; clear h
   refine .seq ?_;refine .region rfl ?_;refine .av rfl rfl ?_;refine .av rfl rfl ?_;refine .re ?_
   cases r7
   refine .drop 1 0 [] _ rfl rfl ?_
   refine .retS (c := ⟨72, none⟩) (.inr ⟨_, rfl⟩) [.tmp 2, .tmp 3] [_, _] rfl Tryz.func72 Tryz.results72 ⟨RV.tmp rfl, RV.tmp rfl, trivial⟩ mcm ⟨rfl, rfl, rfl⟩
  ·have r8 := ifF h c6; clear h
   refine .skip ?_;refine .seq ?_;refine .seq ?_;refine .region rfl ?_;refine .av rfl rfl ?_;refine .re ?_;refine .cutB (β := Int) (fun y => []) [(1, _)] (fun y => G :: Fs) (fun y => [(b1, .cells #[.int .i64 y] 45 (0, 0))]) [] (fun y => []) [] (fun y => residue_Of_J1 y = some r) ⟨rfl, trivial⟩ [] rfl [] rfl ?_ ?_
   ·intro v36 hI
    have r38 := hI; clear hI
    refine .prune [(1, _)] ⟨rfl, trivial⟩ ?_;refine .same (bl' := [(b1, .cells #[.int .i64 v36] 45 (0, 0))]) (sl' := []) (Fs' := G :: Fs) rfl rfl rfl ?_
    unfold residue_Of_J1 at r38
    try dsimp only at r38
    refine .seq ?_;refine .region rfl ?_;refine .q .ro (.fieldAddr 0 rfl fl45_0 ty3.sz rfl) rfl ?_;refine .q .ro (.load_own 0 rfl rfl ty3 rfl) rfl ?_;refine .av rfl rfl ?_;refine .av rfl rfl ?_;refine .re ?_
    cases r38
    refine .drop 1 0 [] _ rfl rfl ?_
    refine .retS (c := ⟨72, none⟩) (.inr ⟨_, rfl⟩) [.tmp 2, .tmp 3] [_, _] rfl Tryz.func72 Tryz.results72 ⟨RV.tmp rfl, RV.tmp rfl, trivial⟩ mcm ⟨rfl, rfl, rfl⟩
   ·intro hb39
    refine .block ?_
    refine .loop2 (α := Nat × Int) (fun y => [(4, .int .i64 y.2)]) [(1, _)] (fun y => []) (fun y => []) [_] (fun y => []) [] (fun y => residue_Of_L2 residue_Of_J1 x0_0 y.1 y.2 = some r) (fun y => y.1) (big, 2) r8 ⟨rfl, rfl, trivial⟩ rfl rfl rfl (fun y hI hb55 => ?_)
    obtain ⟨n51, v53⟩ := y
    have r54 := hI; clear hI
    try dsimp only at r54
    refine .prune [(4, .int .i64 v53), (1, _)] ⟨rfl, rfl, trivial⟩ ?_;refine .same (bl' := [_]) (sl' := []) (Fs' := G :: Fs) rfl rfl rfl ?_
    obtain ⟨m58, rfl⟩ : ∃ m, n51 = m + 1 := by cases n51 with | zero => exact absurd (show (none : Option _) = some _ from r54) (by simp) | succ m => exact ⟨m, rfl⟩
    have r57 : residue_Of_B2 residue_Of_J1 x0_0 (residue_Of_L2 residue_Of_J1 x0_0 m58) v53 = some r := r54; clear r54; unfold residue_Of_B2 at r57; try dsimp only at r57
    refine .seq ?_;refine .seq ?_;refine .region rfl ?_;refine .mv rfl rfl ?_;refine .mv rfl rfl ?_;refine .q .ro (.mulw rfl rfl) rfl ?_;refine .q .ro (.fieldAddr 0 rfl fl45_0 ty3.sz rfl) rfl ?_;refine .q .ro (.load_own 0 rfl rfl ty3 rfl) rfl ?_;refine .q .ro (.leq rfl rfl) rfl ?_
    refine .re ?_
    refine .cond_dec rfl (fun c59 => ?_) (fun c59 => ?_)
    ·have r60 := ifT r57 c59; clear r57
     refine .skip ?_;refine .seq ?_;refine .block ?_;refine .seq ?_;refine .region rfl ?_;refine .q .ro (.fieldAddr 0 rfl fl45_0 ty3.sz rfl) rfl ?_;refine .q .ro (.load_own 0 rfl rfl ty3 rfl) rfl ?_;refine .mv rfl rfl ?_
     obtain ⟨u61, hu61, r62⟩ := bind_some r60; clear r60
     refine .q .ro (.remt rfl rfl (nz_some hu61)) rfl ?_;refine .q .ro (.eql rfl rfl) rfl ?_;refine .re ?_
     refine .cond_dec rfl (fun c63 => ?_) (fun c63 => ?_)
     ·have r64 := ifT r62 c63; clear r62
      refine .seq ?_;refine .region rfl ?_;refine .av rfl rfl ?_;refine .av rfl rfl ?_;refine .re ?_;refine .prune [(2, _), (3, _)] ⟨rfl, rfl, trivial⟩ ?_
      cases r64
      refine .drop 1 0 [] _ rfl rfl ?_
      refine .retS (c := ⟨72, none⟩) (.inr ⟨_, rfl⟩) [.tmp 2, .tmp 3] [_, _] rfl Tryz.func72 Tryz.results72 ⟨RV.tmp rfl, RV.tmp rfl, trivial⟩ mcm ⟨rfl, rfl, rfl⟩
     ·have r65 := ifF r62 c63; clear r62
      refine .skip ?_;refine .inBlock ?_;refine .region rfl ?_;refine .mv rfl rfl ?_;refine .q .ro (.addw rfl rfl) rfl ?_;refine .av rfl rfl ?_;refine .re ?_;refine .prune [(4, _), (1, _)] ⟨rfl, rfl, trivial⟩ ?_
      refine .prune _ ?_ (Cov.same rfl rfl rfl (hb55 (m58, (w64 (v53 + 1))) r65 (Nat.lt_succ_self _)))
      exact ⟨rfl, rfl, trivial⟩
    ·have r66 := ifF r57 c59; clear r57
     refine .exit rfl ?_
     refine .prune _ ?_ (Cov.same rfl rfl rfl (hb39 (x0_0) r66))
     exact ⟨rfl, trivial⟩
 ·intro hb3
  refine .split 8 rfl (fun c2 => ?_) (fun c2 => ?_)
  ·refine .g_off rfl rfl rfl ?_
   refine .g_off rfl rfl rfl ?_;refine .g_off rfl rfl rfl ?_;refine .q .ro (.pick_t rfl rfl) rfl ?_
   refine .prune _ ?_ (Cov.same rfl rfl rfl (hb3 () trivial))
   exact ⟨dor_t c2, rfl, trivial⟩
  ·refine .g_on rfl ?_
   refine .q .ro (.fieldAddr 0 rfl fl45_0 ty3.sz rfl) rfl ?_;refine .g_on rfl ?_;refine .q .ro (.load_own 0 rfl rfl ty3 rfl) rfl ?_;refine .g_on rfl ?_;refine .q .ro (.gtr rfl rfl) rfl ?_;refine .q .ro (.pick_f rfl rfl) rfl ?_
   refine .prune _ ?_ (Cov.same rfl rfl rfl (hb3 () trivial))
   exact ⟨dor_f c2, rfl, trivial⟩
theorem slices_IndexFunc_Lintint_c {Fs : List Hp} {G : Hp} {a0 : Option Addr} {k0 : Nat} {x0 : List Int} {F1 : FuncId} {c1 : List Value} {x1 : Int → Option Bool} {r : Int} (hG : G ∈ Fs) (s0 : SlR (Rep.int .i64) G a0 k0 x0) (hc1 : ∀ args w, (callFunc F1 args).run Tryz.prog w = .ok (.enter F1 args) w) (hf1 : ∀ (Fs' : List Hp) (G1 : Hp), HpLe G G1 → G1 ∈ Fs' → ∀ (y0 : Int) (r : Bool), x1 y0 = some r → RetS Tryz.prog F1 (([.int .i64 y0] : List Value) ++ c1).toArray Fs' [] [] (fun v bo so => v = .bool r ∧ bo = [] ∧ so = [])) (h : slices_IndexFunc_Lintint x0 x1 = some r) : RetS Tryz.prog 143 #[.slice a0 x0.length k0, .func (.func F1) #[] c1.toArray] Fs [] [] (fun v bo so => v = .int .i64 r ∧ bo = [] ∧ so = []) := by
 unfold slices_IndexFunc_Lintint at h
 try dsimp only at h
 refine RetS.of (vs := [_, _]) Tryz.func143 rfl Tryz.ntmps143 [(0, _), (1, _)] ⟨rfl, rfl, trivial⟩ rfl hG fun w0 S0 hS0 B0 => ?_
 refine .seq ?_;refine .region rfl ?_;refine .av rfl rfl ?_;refine .re ?_;refine .seq ?_;refine .seq ?_;refine .region rfl ?_;refine .mv rfl rfl ?_;refine .q .ro (.len_sl rfl rfl sl22) rfl ?_
 refine .mv rfl rfl ?_;refine .re ?_;refine .block ?_
 refine .loop2 (α := Nat × List Int) (fun y => [(8, .int .i64 (y.1 : Int))]) [(0, _), (1, _), (7, _)] (fun y => []) (fun y => []) [] (fun y => []) [] (fun y => List.drop y.1 x0 = y.2 ∧ slices_IndexFunc_Lintint_L1 x1 y.2 y.1  = some r) (fun y => y.2.length) (0, x0) ⟨rfl, h⟩ ⟨rfl, rfl, rfl, rfl, trivial⟩ rfl rfl rfl (fun y hI hb23 => ?_)
 obtain ⟨i19, w20⟩ := y
 obtain ⟨g21, r22⟩ := hI
 try dsimp only at g21 r22
 refine .prune [(8, .int .i64 (i19 : Int)), (0, _), (1, _), (7, _)] ⟨rfl, rfl, rfl, rfl, trivial⟩ ?_;refine .same (bl' := []) (sl' := []) (Fs' := G :: Fs) rfl rfl rfl ?_
 cases w20 with
 | nil =>
  rw [slices_IndexFunc_Lintint_L1] at r22; try dsimp only at r22
  refine .seq ?_;refine .region rfl ?_;refine .q .ro (.lss rfl rfl) rfl ?_;refine .re ?_;refine .seq ?_
  refine .cond_dec rfl (fun c => absurd c (drop_nil g21)) (fun _ => ?_)
  refine .exit rfl ?_;refine .seq ?_;refine .region rfl ?_;refine .av rfl rfl ?_;refine .re ?_
  cases r22
  refine .retS (c := ⟨143, none⟩) (.inr ⟨_, rfl⟩) [.tmp 4] [_] rfl Tryz.func143 Tryz.results143 ⟨RV.tmp rfl, trivial⟩ mcm ⟨rfl, rfl, rfl⟩
 | cons x28 xs29 =>
  have r27 : slices_IndexFunc_Lintint_B1 x1 (slices_IndexFunc_Lintint_L1 x1 xs29 (i19 + 1)) x28 i19  = some r := r22; clear r22; unfold slices_IndexFunc_Lintint_B1 at r27; try dsimp only at r27
  refine .seq ?_;refine .region rfl ?_;refine .q .ro (.lss rfl rfl) rfl ?_;refine .re ?_;refine .seq ?_
  refine .cond_dec rfl (fun _ => ?_) (fun c => absurd (drop_lt g21) c)
  refine .skip ?_;refine .seq ?_;refine .block ?_;refine .seq ?_;refine .region rfl ?_;refine .mv rfl rfl ?_;refine .av rfl rfl ?_;refine .re ?_;refine .seq ?_
  refine .region rfl ?_;refine .mv rfl rfl ?_;refine .mv rfl rfl ?_;refine .mv rfl rfl ?_
  obtain ⟨c30, p31, h32⟩ := SlR.get s0 (drop_idx g21)
  obtain rfl := h32
  refine .q .ro (.idxR s0 rfl rfl (drop_idx g21) sl22 ty3.sz) rfl ?_;refine .q .ro (.load_rp p31 List.mem_cons_self rfl ty3 rfl) rfl ?_
  obtain ⟨u33, hu33, r34⟩ := bind_some r27; clear r27
  refine .callS (b1 := []) (b2 := []) (s1 := []) [_] c1 .ro rfl rfl hc1 rfl rfl (hf1 _ G (HpLe.refl _) List.mem_cons_self _ _  hu33) rfl (fun v36 bo so h35 => ?_)
  obtain ⟨rfl, rfl, rfl⟩ := h35
  refine .same (bl' := []) (sl' := []) rfl rfl rfl ?_;refine .re ?_
  refine .cond rfl (fun c37 => ?_) (fun c37 => ?_)
  ·have r38 := ifT r34 c37; clear r34
   refine .seq ?_;refine .region rfl ?_;refine .mv rfl rfl ?_;refine .av rfl rfl ?_;refine .re ?_;refine .prune [(4, _)] ⟨rfl, trivial⟩ ?_
   cases r38
   refine .retS (c := ⟨143, none⟩) (.inr ⟨_, rfl⟩) [.tmp 4] [_] rfl Tryz.func143 Tryz.results143 ⟨RV.tmp rfl, trivial⟩ mcm ⟨rfl, rfl, rfl⟩
  ·have r39 := ifBF r34 c37; clear r34
   refine .skip ?_;refine .inBlock ?_;refine .region rfl ?_;refine .q .ro (.addw rfl rfl) rfl ?_;refine .mv rfl rfl ?_;refine .re ?_
   refine .prune _ ?_ (Cov.same rfl rfl rfl (hb23 ((i19 + 1), xs29) ⟨(drop_succ g21), r39⟩ (Nat.lt_succ_self _)))
   exact ⟨(congrArg (fun z => some (Value.int .i64 z)) (idx_wrap (SlR.len s0) g21)), rfl, rfl, rfl, trivial⟩
theorem slices_ContainsFunc_Lintint_c {Fs : List Hp} {G : Hp} {a0 : Option Addr} {k0 : Nat} {x0 : List Int} {F1 : FuncId} {c1 : List Value} {x1 : Int → Option Bool} {r : Bool} (hG : G ∈ Fs) (s0 : SlR (Rep.int .i64) G a0 k0 x0) (hc1 : ∀ args w, (callFunc F1 args).run Tryz.prog w = .ok (.enter F1 args) w) (hf1 : ∀ (Fs' : List Hp) (G1 : Hp), HpLe G G1 → G1 ∈ Fs' → ∀ (y0 : Int) (r : Bool), x1 y0 = some r → RetS Tryz.prog F1 (([.int .i64 y0] : List Value) ++ c1).toArray Fs' [] [] (fun v bo so => v = .bool r ∧ bo = [] ∧ so = [])) (h : slices_ContainsFunc_Lintint x0 x1 = some r) : RetS Tryz.prog 109 #[.slice a0 x0.length k0, .func (.func F1) #[] c1.toArray] Fs [] [] (fun v bo so => v = .bool r ∧ bo = [] ∧ so = []) := by
 unfold slices_ContainsFunc_Lintint at h
 try dsimp only at h
 refine RetS.of (vs := [_, _]) Tryz.func109 rfl Tryz.ntmps109 [(0, _), (1, _)] ⟨rfl, rfl, trivial⟩ rfl hG fun w0 S0 hS0 B0 => ?_
 refine .seq ?_;refine .region rfl ?_;refine .av rfl rfl ?_;refine .re ?_;refine .seq ?_;refine .region rfl ?_;refine .mv rfl rfl ?_;refine .mv rfl rfl ?_
 obtain ⟨u1, hu1, r2⟩ := bind_some h; clear h
 refine .callS (b1 := []) (b2 := []) (s1 := []) [_, _] [] .ro rfl rfl Tryz.call143 rfl rfl (slices_IndexFunc_Lintint_c (G := G) List.mem_cons_self s0 hc1 (fun Fs' G1 hle hm => hf1 Fs' G1 (HpLe.trans (HpLe.refl _) hle) hm) hu1) rfl (fun v4 bo so h3 => ?_)
 obtain ⟨rfl, rfl, rfl⟩ := h3
 refine .same (bl' := []) (sl' := []) rfl rfl rfl ?_;refine .q .ro (.geq rfl rfl) rfl ?_;refine .av rfl rfl ?_;refine .re ?_
 cases r2
 refine .retS (c := ⟨109, none⟩) (.inr ⟨_, rfl⟩) [.tmp 4] [_] rfl Tryz.func109 Tryz.results109 ⟨RV.tmp rfl, trivial⟩ mcm ⟨rfl, rfl, rfl⟩
theorem residue_Field_Has_c {Fs : List Hp} {G : Hp} {x0 : Int} {x1 : Int} {r : Bool} (hG : G ∈ Fs)  (h : residue_Field_Has x0 x1 = some r) : RetS Tryz.prog 126 #[.int .i64 x0, .int .i64 x1] Fs [] [] (fun v bo so => v = .bool r ∧ bo = [] ∧ so = []) := by
 unfold residue_Field_Has at h
 try dsimp only at h
 refine RetS.of (vs := [_, _]) Tryz.func126 rfl Tryz.ntmps126 [(0, _), (1, _)] ⟨rfl, rfl, trivial⟩ rfl hG fun w0 S0 hS0 B0 => ?_
 refine .seq ?_;refine .region rfl ?_;refine .av rfl rfl ?_;refine .re ?_;refine .seq ?_;refine .region rfl ?_;refine .mv rfl rfl ?_;refine .q .ro (.geq rfl rfl) rfl ?_;refine .mv rfl rfl ?_
 refine .cutR 4 (β := Unit) (fun y => [(11, .bool (decide ((0 ≤ x1) ∧ (x1 < x0))))]) [(4, _)] (fun y => G :: Fs) (fun y => []) [] (fun y => []) [] (fun y => True) ⟨rfl, trivial⟩ [] rfl [] rfl ?_ ?_
 ·rintro _ _
  refine .prune [(11, .bool (decide ((0 ≤ x1) ∧ (x1 < x0)))), (4, _)] ⟨rfl, rfl, trivial⟩ ?_;refine .same (bl' := []) (sl' := []) (Fs' := G :: Fs) rfl rfl rfl ?_;refine .av rfl rfl ?_;refine .re ?_
  cases h
  refine .retS (c := ⟨126, none⟩) (.inr ⟨_, rfl⟩) [.tmp 4] [_] rfl Tryz.func126 Tryz.results126 ⟨RV.tmp rfl, trivial⟩ mcm ⟨rfl, rfl, rfl⟩
 ·intro hb2
  refine .split 7 rfl (fun c1 => ?_) (fun c1 => ?_)
  ·refine .g_on rfl ?_
   refine .mv rfl rfl ?_;refine .g_on rfl ?_;refine .mv rfl rfl ?_;refine .g_on rfl ?_;refine .q .ro (.lss rfl rfl) rfl ?_;refine .q .ro (.pick_t rfl rfl) rfl ?_
   refine .prune _ ?_ (Cov.same rfl rfl rfl (hb2 () trivial))
   exact ⟨dand_t c1, rfl, trivial⟩
  ·refine .g_off rfl rfl rfl ?_
   refine .g_off rfl rfl rfl ?_;refine .g_off rfl rfl rfl ?_;refine .q .ro (.pick_f rfl rfl) rfl ?_
   refine .prune _ ?_ (Cov.same rfl rfl rfl (hb2 () trivial))
   exact ⟨dand_f c1, rfl, trivial⟩
theorem residue_Field_All_f1_c {Fs : List Hp} {G : Hp} {x0 : Int} {p1 : Value} {x1 : Int} {r : Bool} (hG : G ∈ Fs) (hp1 : Rp G p1 [.int .i64 x1]) (h : residue_Field_All_f1 x0 x1 = some r) : RetS Tryz.prog 125 #[.int .i64 x0, p1] Fs [] [] (fun v bo so => v = .bool r ∧ bo = [] ∧ so = []) := by
 unfold residue_Field_All_f1 at h
 try dsimp only at h
 refine RetS.of (vs := [_, _]) Tryz.func125 rfl Tryz.ntmps125 [(0, _), (1, _)] ⟨rfl, rfl, trivial⟩ rfl hG fun w0 S0 hS0 B0 => ?_
 refine .seq ?_;refine .region rfl ?_;refine .av rfl rfl ?_;refine .re ?_;refine .seq ?_;refine .region rfl ?_;refine .q .ro (.load_rp hp1 List.mem_cons_self rfl ty140 rfl) rfl ?_;refine .mv rfl rfl ?_
 obtain ⟨u1, hu1, r2⟩ := bind_some h; clear h
 refine .callS (b1 := []) (b2 := []) (s1 := []) [_, _] [] .ro rfl rfl Tryz.call126 rfl rfl (residue_Field_Has_c (G := G) List.mem_cons_self  hu1) rfl (fun v4 bo so h3 => ?_)
 obtain ⟨rfl, rfl, rfl⟩ := h3
 refine .same (bl' := []) (sl' := []) rfl rfl rfl ?_;refine .q .ro (.not rfl) rfl ?_;refine .av rfl rfl ?_;refine .re ?_
 cases r2
 refine .retS (c := ⟨125, none⟩) (.inr ⟨_, rfl⟩) [.tmp 3] [_] rfl Tryz.func125 Tryz.results125 ⟨RV.tmp rfl, trivial⟩ mcm ⟨rfl, rfl, rfl⟩
theorem residue_Field_All_c {Fs : List Hp} {G : Hp} {x0 : Int} {a1 : Option Addr} {k1 : Nat} {x1 : List Int} {r : Bool} (hG : G ∈ Fs) (s1 : SlR (Rep.int .i64) G a1 k1 x1) (h : residue_Field_All x0 x1 = some r) : RetS Tryz.prog 73 #[.int .i64 x0, .slice a1 x1.length k1] Fs [] [] (fun v bo so => v = .bool r ∧ bo = [] ∧ so = []) := by
 unfold residue_Field_All at h
 try dsimp only at h
 refine RetS.of (vs := [_, _]) Tryz.func73 rfl Tryz.ntmps73 [(0, _), (1, _)] ⟨rfl, rfl, trivial⟩ rfl hG fun w0 S0 hS0 B0 => ?_
 refine .seq ?_;refine .region rfl ?_
 refine .box [_] .ro rfl rfl rfl (fun b1 hb1 => ?_)
 refine .av rfl rfl ?_;refine .re ?_;refine .seq ?_;refine .region rfl ?_;refine .mv rfl rfl ?_;refine .q .ro (.makeFunc (vf := []) (vc := [_]) rfl rfl) rfl ?_
 refine .freezeBR 0 rfl [] rfl B0 (fun G2 e3 B4 p5 => ?_)
 obtain ⟨u7, hu7, r8⟩ := bind_some h; clear h
 refine .callS (b1 := []) (b2 := []) (s1 := []) [_, _] [] .ro rfl rfl Tryz.call109 rfl rfl (slices_ContainsFunc_Lintint_c (G := G2) List.mem_cons_self (SlR.mono e3 s1) Tryz.call125 (fun Fs' G1 hle hm y0 r  hr => residue_Field_All_f1_c (G := G1) hm  (Rp.mono hle p5) hr) hu7) rfl (fun v10 bo so h9 => ?_)
 obtain ⟨rfl, rfl, rfl⟩ := h9
 refine .same (bl' := []) (sl' := []) rfl rfl rfl ?_;refine .q .ro (.not rfl) rfl ?_;refine .av rfl rfl ?_;refine .re ?_
 cases r8
 refine .retS (c := ⟨73, none⟩) (.inr ⟨_, rfl⟩) [.tmp 4] [_] rfl Tryz.func73 Tryz.results73 ⟨RV.tmp rfl, trivial⟩ mcm ⟨rfl, rfl, rfl⟩
theorem vector_Combine_c {Fs : List Hp} {G : Hp} {x0_0 : Int} {a1 : Option Addr} {k1 : Nat} {x1 : List Int} {a2 : Option Addr} {k2 : Nat} {x2 : List (List Int)} {x3 : Int} {r : ((List Int) × Int)} (hG : G ∈ Fs) (s1 : SlR (Rep.int .i64) G a1 k1 x1) (s2 : SlR (Rep.sl (Rep.int .i64)) G a2 k2 x2) (h : vector_Combine x0_0 x1 x2 x3 = some r) : RetS Tryz.prog 71 #[.agg #[.int .i64 x0_0], .slice a1 x1.length k1, .slice a2 x2.length k2, .int .i64 x3] Fs [] [] (fun v bo so => ∃ (oa0 : Option Addr) (ok0 : Nat) (oc0 : List Value), v = .tuple #[.slice oa0 r.1.length ok0, .int .i64 r.2] ∧ bo = [] ∧ so = [.s (.slice oa0 r.1.length ok0) 3 1 r.1.length oc0] ∧ OL (Rep.int .i64) G oc0 r.1) := by
 unfold vector_Combine at h
 try dsimp only at h
 refine RetS.of (vs := [_, _, _, _]) Tryz.func71 rfl Tryz.ntmps71 [(0, _), (1, _), (2, _), (3, _)] ⟨rfl, rfl, rfl, rfl, trivial⟩ rfl hG fun w0 S0 hS0 B0 => ?_
 refine .seq ?_;refine .region rfl ?_
 refine .box [_] .ro rfl rfl rfl (fun b1 hb1 => ?_)
 refine .av rfl rfl ?_;refine .av rfl rfl ?_;refine .re ?_;refine .seq ?_;refine .region rfl ?_;refine .q .ro (.load_own_a 0 [_] rfl rfl ty45 rfl) rfl ?_
 obtain ⟨u2, hu2, r3⟩ := bind_some h; clear h
 refine .callS (b1 := []) (b2 := [_]) (s1 := []) [_] [] .ro rfl rfl Tryz.call72 rfl rfl (residue_Of_c (G := G) List.mem_cons_self  hu2) rfl (fun v5 bo so h4 => ?_)
 obtain ⟨rfl, rfl, rfl⟩ := h4
 refine .same (bl' := [_]) (sl' := []) rfl rfl rfl ?_;refine .mv rfl rfl ?_;refine .q .ro (.extract rfl rfl) rfl ?_;refine .q .ro (.extract rfl rfl) rfl ?_;refine .av rfl rfl ?_;refine .av rfl rfl ?_;refine .re ?_;refine .seq ?_;refine .seq ?_
 refine .region rfl ?_;refine .mv rfl rfl ?_;refine .q .ro (.not rfl) rfl ?_;refine .re ?_
 refine .cond rfl (fun c6 => ?_) (fun c6 => ?_)
 ·have r7 := ifT r3 c6; clear r3
  refine .seq ?_;refine .region rfl ?_;refine .av rfl rfl ?_;refine .av rfl rfl ?_;refine .re ?_;refine .prune [(8, _), (9, _)] ⟨rfl, rfl, trivial⟩ ?_;refine .own_nil 3 1 ?_
  cases r7
  refine .drop 1 0 [] _ rfl rfl ?_
  refine .retS (c := ⟨71, none⟩) (.inr ⟨_, rfl⟩) [.tmp 8, .tmp 9] [_, _] rfl Tryz.func71 Tryz.results71 ⟨RV.tmp rfl, RV.tmp rfl, trivial⟩ mcm ⟨none, 0, [], rfl, rfl, rfl, (OL.nil (Rp' := (Rep.int .i64)))⟩
 ·have r9 := ifBF r3 c6; clear r3
  refine .skip ?_;refine .seq ?_;refine .seq ?_;refine .region rfl ?_;refine .mv rfl rfl ?_;refine .q .ro (.lss rfl rfl) rfl ?_;refine .mv rfl rfl ?_;refine .cutR 3 (β := Unit) (fun y => [(30, .bool (decide ((x3 < 0) ∨ (64 < x3))))]) [(1, _), (2, _), (3, _), (10, _)] (fun y => G :: Fs) (fun y => []) [_] (fun y => []) [] (fun y => True) ⟨rfl, rfl, rfl, rfl, trivial⟩ [0] rfl [] rfl ?_ ?_
  ·rintro _ _
   refine .prune [(30, .bool (decide ((x3 < 0) ∨ (64 < x3)))), (1, _), (2, _), (3, _), (10, _)] ⟨rfl, rfl, rfl, rfl, rfl, trivial⟩ ?_;refine .same (bl' := [_]) (sl' := []) (Fs' := G :: Fs) rfl rfl rfl ?_;refine .re ?_
   refine .cond_dec rfl (fun c14 => ?_) (fun c14 => ?_)
   ·have r15 := ifT r9 c14; clear r9
    refine .seq ?_;refine .region rfl ?_;refine .av rfl rfl ?_;refine .av rfl rfl ?_;refine .re ?_;refine .own_nil 3 1 ?_
    cases r15
    refine .drop 1 0 [] _ rfl rfl ?_
    refine .retS (c := ⟨71, none⟩) (.inr ⟨_, rfl⟩) [.tmp 8, .tmp 9] [_, _] rfl Tryz.func71 Tryz.results71 ⟨RV.tmp rfl, RV.tmp rfl, trivial⟩ mcm ⟨none, 0, [], rfl, rfl, rfl, (OL.nil (Rp' := (Rep.int .i64)))⟩
   ·have r17 := ifF r9 c14; clear r9
    refine .skip ?_;refine .seq ?_;refine .seq ?_;refine .region rfl ?_;refine .mv rfl rfl ?_;refine .q .ro (.len_sl rfl rfl sl22) rfl ?_;refine .mv rfl rfl ?_;refine .q .ro (.len_sl rfl rfl sl51) rfl ?_;refine .q .ro (.neq rfl rfl) rfl ?_
    refine .re ?_
    refine .cond_dec rfl (fun c18 => ?_) (fun c18 => ?_)
    ·have r19 := ifT r17 c18; clear r17
     refine .seq ?_;refine .region rfl ?_;refine .av rfl rfl ?_;refine .av rfl rfl ?_;refine .re ?_;refine .own_nil 3 1 ?_
     cases r19
     refine .drop 1 0 [] _ rfl rfl ?_
     refine .retS (c := ⟨71, none⟩) (.inr ⟨_, rfl⟩) [.tmp 8, .tmp 9] [_, _] rfl Tryz.func71 Tryz.results71 ⟨RV.tmp rfl, RV.tmp rfl, trivial⟩ mcm ⟨none, 0, [], rfl, rfl, rfl, (OL.nil (Rp' := (Rep.int .i64)))⟩
    ·have r21 := ifF r17 c18; clear r17
     refine .skip ?_;refine .seq ?_;refine .region rfl ?_;refine .mv rfl rfl ?_;refine .mv rfl rfl ?_
     obtain ⟨u22, hu22, r23⟩ := bind_some r21; clear r21
     refine .callS (b1 := []) (b2 := [_]) (s1 := []) [_, _] [] .ro rfl rfl Tryz.call73 rfl rfl (residue_Field_All_c (G := G) List.mem_cons_self s1 hu22) rfl (fun v25 bo so h24 => ?_)
     obtain ⟨rfl, rfl, rfl⟩ := h24
     refine .same (bl' := [_]) (sl' := []) rfl rfl rfl ?_;refine .av rfl rfl ?_;refine .re ?_;refine .seq ?_;refine .seq ?_;refine .region rfl ?_;refine .mv rfl rfl ?_;refine .q .ro (.len_sl rfl rfl sl51) rfl ?_;refine .mv rfl rfl ?_
     refine .re ?_;refine .cutB (β := Bool × Int) (fun y => [(12, .bool y.1)]) [(1, _), (2, _), (3, _), (10, _)] (fun y => G :: Fs) (fun y => [(b1, .cells #[.int .i64 y.2] 45 (0, 0))]) [] (fun y => []) [] (fun y => (vector_Combine_J2 x1 x2 x3 u2.1) y.1 y.2 = some r) ⟨rfl, rfl, rfl, rfl, trivial⟩ [] rfl [] rfl ?_ ?_
     ·intro y hI
      obtain ⟨v12, v13⟩ := y
      have r16 := hI; clear hI
      try dsimp only at r16
      refine .prune [(12, .bool v12), (1, _), (2, _), (3, _), (10, _)] ⟨rfl, rfl, rfl, rfl, rfl, trivial⟩ ?_;refine .same (bl' := [(b1, .cells #[.int .i64 v13] 45 (0, 0))]) (sl' := []) (Fs' := G :: Fs) rfl rfl rfl ?_
      unfold vector_Combine_J2 at r16
      try dsimp only at r16
      refine .seq ?_;refine .seq ?_;refine .region rfl ?_;refine .mv rfl rfl ?_;refine .q .ro (.not rfl) rfl ?_;refine .re ?_
      refine .cond rfl (fun c20 => ?_) (fun c20 => ?_)
      ·have r26 := ifT r16 c20; clear r16
       refine .seq ?_;refine .region rfl ?_;refine .av rfl rfl ?_;refine .av rfl rfl ?_;refine .re ?_;refine .own_nil 3 1 ?_
       cases r26
       refine .drop 1 0 [] _ rfl rfl ?_
       refine .retS (c := ⟨71, none⟩) (.inr ⟨_, rfl⟩) [.tmp 8, .tmp 9] [_, _] rfl Tryz.func71 Tryz.results71 ⟨RV.tmp rfl, RV.tmp rfl, trivial⟩ mcm ⟨none, 0, [], rfl, rfl, rfl, (OL.nil (Rp' := (Rep.int .i64)))⟩
      ·have r27 := ifBF r16 c20; clear r16
       refine .skip ?_;refine .seq ?_;refine .region rfl ?_;refine .mv rfl rfl ?_
       obtain ⟨u28, hu28, r29⟩ := bind_some r27; clear r27
       refine .makeR (G := G) (Q := (Rep.int .i64)) .ro sl22 ty3 rfl rfl rfl ((Rep.intI .i64 0) :) rfl rfl hu28 rfl rfl (fun b30 cs31 hb30 o32 => ?_)
       refine .av rfl rfl ?_;refine .re ?_;refine .seq ?_;refine .seq ?_;refine .region rfl ?_;refine .mv rfl rfl ?_;refine .q .ro (.len_sl rfl rfl sl51) rfl ?_;refine .mv rfl rfl ?_;refine .re ?_
       refine .block ?_
       refine .loop2 (α := Nat × List (List Int) × List Int × Option Addr × Nat × List Value) (fun y => [(15, .slice y.2.2.2.1 y.2.2.1.length y.2.2.2.2.1), (62, .int .i64 (y.1 : Int))]) [(1, _), (10, _), (60, _), (61, _)] (fun y => []) (fun y => []) [_] (fun y => [.s (.slice y.2.2.2.1 y.2.2.1.length y.2.2.2.2.1) 3 1 y.2.2.1.length y.2.2.2.2.2]) [] (fun y => OL (Rep.int .i64) G y.2.2.2.2.2 y.2.2.1 ∧ List.drop y.1 x2 = y.2.1 ∧ vector_Combine_L1 x1 u2.1 y.2.1 y.1 y.2.2.1 = some r) (fun y => y.2.1.length) (0, x2, u28, (some ⟨b30, 0, none⟩), u28.length, cs31) ⟨o32, rfl, r29⟩ ⟨rfl, rfl, rfl, rfl, rfl, rfl, trivial⟩ rfl rfl rfl (fun y hI hb33 => ?_)
       obtain ⟨i34, w35, v36, a37, k38, cs39⟩ := y
       obtain ⟨o40, g41, r42⟩ := hI
       try dsimp only at o40 g41 r42
       refine .prune [(15, .slice a37 v36.length k38), (62, .int .i64 (i34 : Int)), (1, _), (10, _), (60, _), (61, _)] ⟨rfl, rfl, rfl, rfl, rfl, rfl, trivial⟩ ?_;refine .same (bl' := [_]) (sl' := [.s (.slice a37 v36.length k38) 3 1 v36.length cs39]) (Fs' := G :: Fs) rfl rfl rfl ?_
       cases w35 with
       | nil =>
        rw [vector_Combine_L1] at r42; try dsimp only at r42
        refine .seq ?_;refine .region rfl ?_;refine .q .ro (.lss rfl rfl) rfl ?_;refine .re ?_;refine .seq ?_
        refine .cond_dec rfl (fun c => absurd c (drop_nil g41)) (fun _ => ?_)
        refine .exit rfl ?_;refine .seq ?_;refine .region rfl ?_;refine .mv rfl rfl ?_;refine .av rfl rfl ?_;refine .av rfl rfl ?_;refine .re ?_
        cases r42
        refine .drop 1 0 [] _ rfl rfl ?_
        refine .retS (c := ⟨71, none⟩) (.inr ⟨_, rfl⟩) [.tmp 8, .tmp 9] [_, _] rfl Tryz.func71 Tryz.results71 ⟨RV.tmp rfl, RV.tmp rfl, trivial⟩ mcm ⟨a37, k38, cs39, rfl, rfl, rfl, o40⟩
       | cons x43 xs44 =>
        have r46 : vector_Combine_B1 x1 u2.1 (vector_Combine_L1 x1 u2.1 xs44 (i34 + 1)) x43 i34 v36 = some r := r42; clear r42; unfold vector_Combine_B1 at r46; try dsimp only at r46
        refine .seq ?_;refine .region rfl ?_;refine .q .ro (.lss rfl rfl) rfl ?_;refine .re ?_;refine .seq ?_
        refine .cond_dec rfl (fun _ => ?_) (fun c => absurd (drop_lt g41) c)
        refine .skip ?_;refine .seq ?_;refine .block ?_;refine .seq ?_;refine .region rfl ?_;refine .mv rfl rfl ?_
        obtain ⟨c47, p48, h49⟩ := SlR.get s2 (drop_idx g41)
        obtain ⟨a50, k52, rfl, s53⟩ := h49
        refine .q .ro (.idxR s2 rfl rfl (drop_idx g41) sl51 ty22.sz) rfl ?_;refine .q .ro (.load_rp p48 List.mem_cons_self rfl ty22 rfl) rfl ?_;refine .av rfl rfl ?_;refine .av rfl rfl ?_;refine .re ?_;refine .region rfl ?_;refine .mv rfl rfl ?_;refine .mv rfl rfl ?_;refine .mv rfl rfl ?_
        refine .mv rfl rfl ?_
        obtain ⟨u54, hu54, r55⟩ := bind_some r46; clear r46
        obtain ⟨c56, p57, h58⟩ := SlR.get s1 hu54
        obtain rfl := h58
        refine .q .ro (.idxR s1 rfl rfl hu54 sl22 ty3.sz) rfl ?_;refine .q .ro (.load_rp p57 List.mem_cons_self rfl ty3 rfl) rfl ?_;refine .mv rfl rfl ?_
        refine .toV 0 rfl (fun vb59 po60 va61 vb62 => ?_)
        obtain ⟨u63, hu63, r65⟩ := bind_some r55; clear r55
        refine .callS (b1 := []) (b2 := [_]) (s1 := [_]) [_, _, _, _] [] .ro rfl rfl Tryz.call67 rfl rfl (residue_Field_AddTimes_c (G := G) List.mem_cons_self va61 o40 s53 hu63) rfl (fun v66 bo so h68 => ?_)
        obtain ⟨cs69, rfl, rfl, rfl, o70, hl74⟩ := h68
        refine .same (bl' := [_]) (sl' := [_]) rfl rfl rfl ?_;refine .ofV 0 rfl vb62 hl74 o70 rfl ?_;refine .reval 15 hl74 rfl ?_;refine .reval 68 hl74 rfl ?_;refine .re ?_;refine .prune [(15, _), (62, _), (1, _), (10, _), (60, _), (61, _)] ⟨rfl, rfl, rfl, rfl, rfl, rfl, trivial⟩ ?_;refine .inBlock ?_;refine .region rfl ?_;refine .q .ro (.addw rfl rfl) rfl ?_
        refine .mv rfl rfl ?_;refine .re ?_
        refine .prune _ ?_ (Cov.same rfl rfl rfl (hb33 ((i34 + 1), xs44, u63, a37, k38, cs69) ⟨o70, (drop_succ g41), r65⟩ (Nat.lt_succ_self _)))
        exact ⟨rfl, (congrArg (fun z => some (Value.int .i64 z)) (idx_wrap (SlR.len s2) g41)), rfl, rfl, rfl, rfl, trivial⟩
     ·intro hb75
      refine .block ?_
      refine .loop2 (α := Nat × List (List Int) × Bool) (fun y => [(12, .bool y.2.2), (41, .int .i64 (y.1 : Int))]) [(1, _), (2, _), (3, _), (10, _), (39, _), (40, _)] (fun y => []) (fun y => []) [_] (fun y => []) [] (fun y => List.drop y.1 x2 = y.2.1 ∧ vector_Combine_L3 (vector_Combine_J2 x1 x2 x3 u2.1) x3 u2.1 x0_0 y.2.1 y.2.2 = some r) (fun y => y.2.1.length) (0, x2, u22) ⟨rfl, r23⟩ ⟨rfl, rfl, rfl, rfl, rfl, rfl, rfl, rfl, trivial⟩ rfl rfl rfl (fun y hI hb76 => ?_)
      obtain ⟨i77, w78, v79⟩ := y
      obtain ⟨g80, r81⟩ := hI
      try dsimp only at g80 r81
      refine .prune [(12, .bool v79), (41, .int .i64 (i77 : Int)), (1, _), (2, _), (3, _), (10, _), (39, _), (40, _)] ⟨rfl, rfl, rfl, rfl, rfl, rfl, rfl, rfl, trivial⟩ ?_;refine .same (bl' := [_]) (sl' := []) (Fs' := G :: Fs) rfl rfl rfl ?_
      cases w78 with
      | nil =>
       rw [vector_Combine_L3] at r81; try dsimp only at r81
       refine .seq ?_;refine .region rfl ?_;refine .q .ro (.lss rfl rfl) rfl ?_;refine .re ?_;refine .seq ?_
       refine .cond_dec rfl (fun c => absurd c (drop_nil g80)) (fun _ => ?_)
       refine .exit rfl ?_
       refine .prune _ ?_ (Cov.same rfl rfl rfl (hb75 (v79, x0_0) r81))
       exact ⟨rfl, rfl, rfl, rfl, rfl, trivial⟩
      | cons x82 xs83 =>
       have r84 : vector_Combine_B3 (vector_Combine_J2 x1 x2 x3 u2.1) x3 u2.1 x0_0 (vector_Combine_L3 (vector_Combine_J2 x1 x2 x3 u2.1) x3 u2.1 x0_0 xs83) x82 v79 = some r := r81; clear r81; unfold vector_Combine_B3 at r84; try dsimp only at r84
       refine .seq ?_;refine .region rfl ?_;refine .q .ro (.lss rfl rfl) rfl ?_;refine .re ?_;refine .seq ?_
       refine .cond_dec rfl (fun _ => ?_) (fun c => absurd (drop_lt g80) c)
       refine .skip ?_;refine .seq ?_;refine .block ?_;refine .seq ?_;refine .region rfl ?_
       obtain ⟨c85, p86, h87⟩ := SlR.get s2 (drop_idx g80)
       obtain ⟨a88, k89, rfl, s90⟩ := h87
       refine .q .ro (.idxR s2 rfl rfl (drop_idx g80) sl51 ty22.sz) rfl ?_;refine .q .ro (.load_rp p86 List.mem_cons_self rfl ty22 rfl) rfl ?_;refine .av rfl rfl ?_;refine .re ?_;refine .seq ?_;refine .seq ?_;refine .region rfl ?_;refine .mv rfl rfl ?_;refine .q .ro (.len_sl rfl rfl sl22) rfl ?_
       refine .mv rfl rfl ?_;refine .q .ro (.neq rfl rfl) rfl ?_;refine .re ?_
       refine .cond_dec rfl (fun c91 => ?_) (fun c91 => ?_)
       ·have r92 := ifT r84 c91; clear r84
        refine .seq ?_;refine .region rfl ?_;refine .av rfl rfl ?_;refine .av rfl rfl ?_;refine .re ?_;refine .prune [(8, _), (9, _)] ⟨rfl, rfl, trivial⟩ ?_;refine .own_nil 3 1 ?_
        cases r92
        refine .drop 1 0 [] _ rfl rfl ?_
        refine .retS (c := ⟨71, none⟩) (.inr ⟨_, rfl⟩) [.tmp 8, .tmp 9] [_, _] rfl Tryz.func71 Tryz.results71 ⟨RV.tmp rfl, RV.tmp rfl, trivial⟩ mcm ⟨none, 0, [], rfl, rfl, rfl, (OL.nil (Rp' := (Rep.int .i64)))⟩
       ·have r93 := ifF r84 c91; clear r84
        refine .skip ?_;refine .region rfl ?_;refine .mv rfl rfl ?_;refine .mv rfl rfl ?_
        obtain ⟨u94, h95, r96⟩ := bind_some r93; clear r93
        refine .cutR 4 (β := Unit) (fun y => [(54, .bool u94)]) [(12, _), (41, _), (1, _), (2, _), (3, _), (10, _), (39, _), (40, _)] (fun y => G :: Fs) (fun y => []) [_] (fun y => []) [] (fun y => True) ⟨rfl, rfl, rfl, rfl, rfl, rfl, rfl, rfl, trivial⟩ [0] rfl [] rfl ?_ ?_
        ·rintro _ _
         refine .prune [(54, .bool u94), (12, _), (41, _), (1, _), (2, _), (3, _), (10, _), (39, _), (40, _)] ⟨rfl, rfl, rfl, rfl, rfl, rfl, rfl, rfl, rfl, trivial⟩ ?_;refine .same (bl' := [_]) (sl' := []) (Fs' := G :: Fs) rfl rfl rfl ?_;refine .av rfl rfl ?_;refine .re ?_;refine .inBlock ?_;refine .region rfl ?_;refine .q .ro (.addw rfl rfl) rfl ?_;refine .mv rfl rfl ?_;refine .re ?_
         refine .prune _ ?_ (Cov.same rfl rfl rfl (hb76 ((i77 + 1), xs83, u94) ⟨(drop_succ g80), r96⟩ (Nat.lt_succ_self _)))
         exact ⟨rfl, (congrArg (fun z => some (Value.int .i64 z)) (idx_wrap (SlR.len s2) g80)), rfl, rfl, rfl, rfl, rfl, rfl, trivial⟩
        ·intro hb97
         refine .split_b 50 rfl (fun c98 => ?_) (fun c98 => ?_)
         ·have r99 := ifT h95 c98
          refine .g_on rfl ?_;refine .mv rfl rfl ?_;refine .g_on rfl ?_;refine .mv rfl rfl ?_;refine .g_on rfl ?_
          obtain ⟨u100, hu100, r101⟩ := bind_some r99; clear r99
          refine .callS (b1 := []) (b2 := [_]) (s1 := []) [_, _] [] .ro rfl rfl Tryz.call73 rfl rfl (residue_Field_All_c (G := G) List.mem_cons_self s90 hu100) rfl (fun v102 bo so h103 => ?_)
          obtain ⟨rfl, rfl, rfl⟩ := h103
          refine .same (bl' := [_]) (sl' := []) rfl rfl rfl ?_;refine .q .ro (.pick_t rfl rfl) rfl ?_
          refine .prune _ ?_ (Cov.same rfl rfl rfl (hb97 () trivial))
          exact ⟨sval r101, rfl, rfl, rfl, rfl, rfl, rfl, rfl, rfl, trivial⟩
         ·have r104 := ifBF h95 c98
          refine .g_off rfl rfl rfl ?_;refine .g_off rfl rfl rfl ?_;refine .g_off rfl rfl rfl ?_;refine .q .ro (.pick_f rfl rfl) rfl ?_
          refine .prune _ ?_ (Cov.same rfl rfl rfl (hb97 () trivial))
          exact ⟨sval r104, rfl, rfl, rfl, rfl, rfl, rfl, rfl, rfl, trivial⟩
  ·intro hb11
   refine .split 27 rfl (fun c10 => ?_) (fun c10 => ?_)
   ·refine .g_off rfl rfl rfl ?_
    refine .g_off rfl rfl rfl ?_;refine .q .ro (.pick_t rfl rfl) rfl ?_
    refine .prune _ ?_ (Cov.same rfl rfl rfl (hb11 () trivial))
    exact ⟨dor_t c10, rfl, rfl, rfl, rfl, trivial⟩
   ·refine .g_on rfl ?_
    refine .mv rfl rfl ?_;refine .g_on rfl ?_;refine .q .ro (.gtr rfl rfl) rfl ?_;refine .q .ro (.pick_f rfl rfl) rfl ?_
    refine .prune _ ?_ (Cov.same rfl rfl rfl (hb11 () trivial))
    exact ⟨dor_f c10, rfl, rfl, rfl, rfl, trivial⟩
theorem parity_Answer_c {Fs : List Hp} {G : Hp} {x0_0 : Int} {x1 : Int} {a2 : Option Addr} {k2 : Nat} {x2 : List (List Int)} {a3 : Option Addr} {k3 : Nat} {x3 : List Int} {r : ((List Int) × Int)} (hG : G ∈ Fs) (s2 : SlR (Rep.sl (Rep.int .i64)) G a2 k2 x2) (s3 : SlR (Rep.int .i64) G a3 k3 x3) (h : parity_Answer x0_0 x1 x2 x3 = some r) : RetS Tryz.prog 23 #[.agg #[.int .i64 x0_0], .int .i64 x1, .slice a2 x2.length k2, .slice a3 x3.length k3] Fs [] [] (fun v bo so => ∃ (oa0 : Option Addr) (ok0 : Nat) (oc0 : List Value), v = .tuple #[.slice oa0 r.1.length ok0, .int .i64 r.2] ∧ bo = [] ∧ so = [.s (.slice oa0 r.1.length ok0) 3 1 r.1.length oc0] ∧ OL (Rep.int .i64) G oc0 r.1) := by
 unfold parity_Answer at h
 try dsimp only at h
 refine RetS.of (vs := [_, _, _, _]) Tryz.func23 rfl Tryz.ntmps23 [(0, _), (1, _), (2, _), (3, _)] ⟨rfl, rfl, rfl, rfl, trivial⟩ rfl hG fun w0 S0 hS0 B0 => ?_
 refine .seq ?_;refine .region rfl ?_
 refine .box [_] .ro rfl rfl rfl (fun b1 hb1 => ?_)
 refine .av rfl rfl ?_;refine .av rfl rfl ?_;refine .re ?_;refine .seq ?_;refine .region rfl ?_;refine .q .ro (.load_own_a 0 [_] rfl rfl ty45 rfl) rfl ?_;refine .mv rfl rfl ?_;refine .mv rfl rfl ?_;refine .mv rfl rfl ?_
 obtain ⟨u2, hu2, r3⟩ := bind_some h; clear h
 refine .callS (b1 := []) (b2 := [_]) (s1 := []) [_, _, _, _] [] .ro rfl rfl Tryz.call71 rfl rfl (vector_Combine_c (G := G) List.mem_cons_self s3 s2 hu2) rfl (fun v5 bo so h4 => ?_)
 obtain ⟨a7, k8, cs9, rfl, rfl, rfl, o10⟩ := h4
 refine .same (bl' := [_]) (sl' := [_]) rfl rfl rfl ?_;refine .q .ro (.extract rfl rfl) rfl ?_;refine .q .ro (.extract rfl rfl) rfl ?_;refine .av rfl rfl ?_;refine .av rfl rfl ?_;refine .re ?_
 cases r3
 refine .drop 1 0 [] _ rfl rfl ?_
 refine .retS (c := ⟨23, none⟩) (.inr ⟨_, rfl⟩) [.tmp 8, .tmp 9] [_, _] rfl Tryz.func23 Tryz.results23 ⟨RV.tmp rfl, RV.tmp rfl, trivial⟩ mcm ⟨a7, k8, cs9, rfl, rfl, rfl, o10⟩
theorem ref04_Same_c {Fs : List Hp} {G : Hp} {a0 : Option Addr} {k0 : Nat} {x0 : List Int} {a1 : Option Addr} {k1 : Nat} {x1 : List Int} {r : Bool} (hG : G ∈ Fs) (s0 : SlR (Rep.int .i64) G a0 k0 x0) (s1 : SlR (Rep.int .i64) G a1 k1 x1) (h : ref04_Same x0 x1 = some r) : RetS Tryz.prog 31 #[.slice a0 x0.length k0, .slice a1 x1.length k1] Fs [] [] (fun v bo so => v = .bool r ∧ bo = [] ∧ so = []) := by
 unfold ref04_Same at h
 try dsimp only at h
 refine RetS.of (vs := [_, _]) Tryz.func31 rfl Tryz.ntmps31 [(0, _), (1, _)] ⟨rfl, rfl, trivial⟩ rfl hG fun w0 S0 hS0 B0 => ?_
 refine .seq ?_;refine .region rfl ?_;refine .av rfl rfl ?_;refine .re ?_;refine .seq ?_;refine .seq ?_;refine .region rfl ?_;refine .mv rfl rfl ?_;refine .q .ro (.len_sl rfl rfl sl22) rfl ?_
 refine .mv rfl rfl ?_;refine .q .ro (.len_sl rfl rfl sl22) rfl ?_;refine .q .ro (.neq rfl rfl) rfl ?_;refine .re ?_
 refine .cond_dec rfl (fun c1 => ?_) (fun c1 => ?_)
 ·have r2 := ifT h c1; clear h
  refine .seq ?_;refine .region rfl ?_;refine .av rfl rfl ?_;refine .re ?_
  cases r2
  refine .retS (c := ⟨31, none⟩) (.inr ⟨_, rfl⟩) [.tmp 4] [_] rfl Tryz.func31 Tryz.results31 ⟨RV.tmp rfl, trivial⟩ mcm ⟨rfl, rfl, rfl⟩
 ·have r3 := ifF h c1; clear h
  refine .skip ?_;refine .seq ?_;refine .seq ?_;refine .region rfl ?_;refine .mv rfl rfl ?_;refine .q .ro (.len_sl rfl rfl sl22) rfl ?_;refine .mv rfl rfl ?_;refine .re ?_;refine .block ?_
  refine .loop2 (α := Nat × List Int) (fun y => [(13, .int .i64 (y.1 : Int))]) [(0, _), (1, _), (12, _)] (fun y => []) (fun y => []) [] (fun y => []) [] (fun y => List.drop y.1 x0 = y.2 ∧ ref04_Same_L1 x1 y.2 y.1  = some r) (fun y => y.2.length) (0, x0) ⟨rfl, r3⟩ ⟨rfl, rfl, rfl, rfl, trivial⟩ rfl rfl rfl (fun y hI hb27 => ?_)
  obtain ⟨i23, w24⟩ := y
  obtain ⟨g25, r26⟩ := hI
  try dsimp only at g25 r26
  refine .prune [(13, .int .i64 (i23 : Int)), (0, _), (1, _), (12, _)] ⟨rfl, rfl, rfl, rfl, trivial⟩ ?_;refine .same (bl' := []) (sl' := []) (Fs' := G :: Fs) rfl rfl rfl ?_
  cases w24 with
  | nil =>
   rw [ref04_Same_L1] at r26; try dsimp only at r26
   refine .seq ?_;refine .region rfl ?_;refine .q .ro (.lss rfl rfl) rfl ?_;refine .re ?_;refine .seq ?_
   refine .cond_dec rfl (fun c => absurd c (drop_nil g25)) (fun _ => ?_)
   refine .exit rfl ?_;refine .seq ?_;refine .region rfl ?_;refine .av rfl rfl ?_;refine .re ?_
   cases r26
   refine .retS (c := ⟨31, none⟩) (.inr ⟨_, rfl⟩) [.tmp 4] [_] rfl Tryz.func31 Tryz.results31 ⟨RV.tmp rfl, trivial⟩ mcm ⟨rfl, rfl, rfl⟩
  | cons x32 xs33 =>
   have r31 : ref04_Same_B1 x1 (ref04_Same_L1 x1 xs33 (i23 + 1)) x32 i23  = some r := r26; clear r26; unfold ref04_Same_B1 at r31; try dsimp only at r31
   refine .seq ?_;refine .region rfl ?_;refine .q .ro (.lss rfl rfl) rfl ?_;refine .re ?_;refine .seq ?_
   refine .cond_dec rfl (fun _ => ?_) (fun c => absurd (drop_lt g25) c)
   refine .skip ?_;refine .seq ?_;refine .block ?_;refine .seq ?_;refine .region rfl ?_;refine .mv rfl rfl ?_;refine .av rfl rfl ?_;refine .re ?_;refine .seq ?_
   refine .drawL (.q 0 (.q 1 (.q 2 (.q 3 (.q 4 (.q 5 (.q 6 (.q 7 (.q 8 .nil))))))))) [] (by kernel_rfl) (by kernel_rfl) (pick_mem [] rfl) ?_;refine .dq (.move rfl) rfl ?_;refine .dq (.move rfl) rfl ?_
   obtain ⟨c34, p35, h36⟩ := SlR.get s0 (drop_idx g25)
   obtain rfl := h36
   refine .dq (.idxR s0 rfl rfl (drop_idx g25) sl22 ty3.sz) rfl ?_;refine .dq (.load_rp p35 List.mem_cons_self rfl ty3 rfl) rfl ?_;refine .dq (.move rfl) rfl ?_;refine .dq (.move rfl) rfl ?_
   obtain ⟨u37, hu37, r38⟩ := bind_some r31; clear r31
   obtain ⟨c39, p40, h41⟩ := SlR.get s1 hu37
   obtain rfl := h41
   refine .dq (.idxR s1 rfl rfl hu37 sl22 ty3.sz) rfl ?_;refine .dq (.load_rp p40 List.mem_cons_self rfl ty3 rfl) rfl ?_;refine .dq (.neq rfl rfl) rfl ?_;refine .draw_end ?_
   refine .cond_dec rfl (fun c42 => ?_) (fun c42 => ?_)
   ·have r43 := ifT r38 c42; clear r38
    refine .seq ?_;refine .region rfl ?_;refine .av rfl rfl ?_;refine .re ?_;refine .prune [(4, _)] ⟨rfl, trivial⟩ ?_
    cases r43
    refine .retS (c := ⟨31, none⟩) (.inr ⟨_, rfl⟩) [.tmp 4] [_] rfl Tryz.func31 Tryz.results31 ⟨RV.tmp rfl, trivial⟩ mcm ⟨rfl, rfl, rfl⟩
   ·have r44 := ifF r38 c42; clear r38
    refine .skip ?_;refine .inBlock ?_;refine .region rfl ?_;refine .q .ro (.addw rfl rfl) rfl ?_;refine .mv rfl rfl ?_;refine .re ?_;refine .prune [(13, _), (0, _), (1, _), (12, _)] ⟨rfl, rfl, rfl, rfl, trivial⟩ ?_
    refine .prune _ ?_ (Cov.same rfl rfl rfl (hb27 ((i23 + 1), xs33) ⟨(drop_succ g25), r44⟩ (Nat.lt_succ_self _)))
    exact ⟨(congrArg (fun z => some (Value.int .i64 z)) (idx_wrap (SlR.len s0) g25)), rfl, rfl, rfl, trivial⟩
theorem slices_Clone_Lintint_c {Fs : List Hp} {G : Hp} {a0 : Option Addr} {k0 : Nat} {x0 : List Int} {r : (List Int)} (hG : G ∈ Fs) (s0 : SlR (Rep.int .i64) G a0 k0 x0) (h : slices_Clone_Lintint x0 = some r) : RetS Tryz.prog 100 #[.slice a0 x0.length k0] Fs [] [] (fun v bo so => ∃ (oa0 : Option Addr) (ok0 : Nat) (oc0 : List Value), v = .slice oa0 r.length ok0 ∧ bo = [] ∧ so = [.s (.slice oa0 r.length ok0) 3 1 r.length oc0] ∧ OL (Rep.int .i64) G oc0 r) := by
 unfold slices_Clone_Lintint at h
 try dsimp only at h
 refine RetS.of (vs := [_]) Tryz.func100 rfl Tryz.ntmps100 [(0, _)] ⟨rfl, trivial⟩ rfl hG fun w0 S0 hS0 B0 => ?_
 refine .seq ?_;refine .region rfl ?_;refine .av rfl rfl ?_;refine .re ?_;refine .seq ?_;refine .seq ?_;refine .region rfl ?_;refine .mv rfl rfl ?_;refine .q .ro (.eqnil Tryz.underlying22 rfl rfl) rfl ?_
 refine .re ?_
 refine .cond rfl (fun c1 => ?_) (fun _ => ?_)
 ·have h2 := SlR.isnil s0 c1
  refine .seq ?_;refine .region rfl ?_;refine .av rfl rfl ?_;refine .re ?_;refine .own_nil 3 1 ?_
  obtain rfl := nil_clone h2 h
  refine .retS (c := ⟨100, none⟩) (.inr ⟨_, rfl⟩) [.tmp 2] [_] rfl Tryz.func100 Tryz.results100 ⟨RV.tmp rfl, trivial⟩ mcm ⟨none, 0, [], rfl, rfl, rfl, (OL.nil (Rp' := (Rep.int .i64)))⟩
 ·refine .skip ?_
  refine .seq ?_;refine .region rfl ?_
  refine .lit [] [] .ro sl22 ty3 rfl rfl rfl rfl rfl rfl (fun b4 hb4 => ?_)
  have o5 : OL (Rep.int .i64) G [] ([] : List Int) := ((OL.nil (Rp' := (Rep.int .i64))) :)
  refine .reval 5 (n' := ([] : List Int).length) rfl rfl ?_;refine .mv rfl rfl ?_
  obtain ⟨u11, hu11, r12⟩ := bind_some h; clear h
  refine .appR (Q := (Rep.int .i64)) 0 .ro sl22 ty3 rfl rfl rfl rfl rfl o5 rfl rfl s0 rfl List.mem_cons_self hu11 rfl (fun a7 k8 cs9 o10 => ?_)
  refine .av rfl rfl ?_;refine .re ?_
  cases r12
  refine .retS (c := ⟨100, none⟩) (.inr ⟨_, rfl⟩) [.tmp 2] [_] rfl Tryz.func100 Tryz.results100 ⟨RV.tmp rfl, trivial⟩ mcm ⟨a7, k8, cs9, rfl, rfl, rfl, o10⟩
theorem tape_valid_c {Fs : List Hp} {G : Hp} {a0_0 : Option Addr} {k0_0 : Nat} {x0_0 : List Int} {x0_1 : Int} {r : Bool} (hG : G ∈ Fs) (s0_0 : SlR (Rep.int .i64) G a0_0 k0_0 x0_0) (h : tape_valid (x0_0, x0_1) = some r) : RetS Tryz.prog 121 #[.agg #[.slice a0_0 x0_0.length k0_0, .int .i64 x0_1]] Fs [] [] (fun v bo so => v = .bool r ∧ bo = [] ∧ so = []) := by
 unfold tape_valid at h
 try dsimp only at h
 refine RetS.of (vs := [_]) Tryz.func121 rfl Tryz.ntmps121 [(0, _)] ⟨rfl, trivial⟩ rfl hG fun w0 S0 hS0 B0 => ?_
 refine .seq ?_;refine .region rfl ?_
 refine .box [_, _] .ro rfl rfl rfl (fun b1 hb1 => ?_)
 refine .av rfl rfl ?_;refine .re ?_;refine .seq ?_;refine .region rfl ?_;refine .q .ro (.fieldAddr 0 rfl fl56_0 ty22.sz rfl) rfl ?_;refine .q .ro (.load_own 0 rfl rfl ty22 rfl) rfl ?_;refine .q .ro (.len_sl rfl rfl sl22) rfl ?_;refine .q .ro (.leq rfl rfl) rfl ?_;refine .mv rfl rfl ?_
 refine .cutR 4 (β := Unit) (fun y => [(11, .bool (decide (((x0_0.length : Int) ≤ 16384) ∧ (0 ≤ x0_1))))]) [(1, _), (2, _)] (fun y => G :: Fs) (fun y => []) [_] (fun y => []) [] (fun y => True) ⟨rfl, rfl, trivial⟩ [0] rfl [] rfl ?_ ?_
 ·rintro _ _
  refine .prune [(11, .bool (decide (((x0_0.length : Int) ≤ 16384) ∧ (0 ≤ x0_1)))), (1, _), (2, _)] ⟨rfl, rfl, rfl, trivial⟩ ?_;refine .same (bl' := [_]) (sl' := []) (Fs' := G :: Fs) rfl rfl rfl ?_;refine .mv rfl rfl ?_;refine .cutR 7 (β := Unit) (fun y => [(19, .bool (decide ((((x0_0.length : Int) ≤ 16384) ∧ (0 ≤ x0_1)) ∧ (x0_1 ≤ (x0_0.length : Int)))))]) [(2, _)] (fun y => G :: Fs) (fun y => []) [_] (fun y => []) [] (fun y => True) ⟨rfl, trivial⟩ [0] rfl [] rfl ?_ ?_
  ·rintro _ _
   refine .prune [(19, .bool (decide ((((x0_0.length : Int) ≤ 16384) ∧ (0 ≤ x0_1)) ∧ (x0_1 ≤ (x0_0.length : Int))))), (2, _)] ⟨rfl, rfl, trivial⟩ ?_;refine .same (bl' := [_]) (sl' := []) (Fs' := G :: Fs) rfl rfl rfl ?_;refine .av rfl rfl ?_;refine .re ?_
   cases h
   refine .drop 1 0 [] _ rfl rfl ?_
   refine .retS (c := ⟨121, none⟩) (.inr ⟨_, rfl⟩) [.tmp 2] [_] rfl Tryz.func121 Tryz.results121 ⟨RV.tmp rfl, trivial⟩ mcm ⟨rfl, rfl, rfl⟩
  ·intro hb7
   refine .split 12 rfl (fun c6 => ?_) (fun c6 => ?_)
   ·refine .g_on rfl ?_
    refine .q .ro (.fieldAddr 1 rfl fl56_1 ty3.sz rfl) rfl ?_;refine .g_on rfl ?_;refine .q .ro (.load_own 0 rfl rfl ty3 rfl) rfl ?_;refine .g_on rfl ?_;refine .q .ro (.fieldAddr 0 rfl fl56_0 ty22.sz rfl) rfl ?_;refine .g_on rfl ?_;refine .q .ro (.load_own 0 rfl rfl ty22 rfl) rfl ?_;refine .g_on rfl ?_;refine .q .ro (.len_sl rfl rfl sl22) rfl ?_
    refine .g_on rfl ?_;refine .q .ro (.leq rfl rfl) rfl ?_;refine .q .ro (.pick_t rfl rfl) rfl ?_
    refine .prune _ ?_ (Cov.same rfl rfl rfl (hb7 () trivial))
    exact ⟨dand_t c6, rfl, trivial⟩
   ·refine .g_off rfl rfl rfl ?_
    refine .g_off rfl rfl rfl ?_;refine .g_off rfl rfl rfl ?_;refine .g_off rfl rfl rfl ?_;refine .g_off rfl rfl rfl ?_;refine .g_off rfl rfl rfl ?_;refine .q .ro (.pick_f rfl rfl) rfl ?_
    refine .prune _ ?_ (Cov.same rfl rfl rfl (hb7 () trivial))
    exact ⟨dand_f c6, rfl, trivial⟩
 ·intro hb3
  refine .split 7 rfl (fun c2 => ?_) (fun c2 => ?_)
  ·refine .g_on rfl ?_
   refine .q .ro (.fieldAddr 1 rfl fl56_1 ty3.sz rfl) rfl ?_;refine .g_on rfl ?_;refine .q .ro (.load_own 0 rfl rfl ty3 rfl) rfl ?_;refine .g_on rfl ?_;refine .q .ro (.geq rfl rfl) rfl ?_;refine .q .ro (.pick_t rfl rfl) rfl ?_
   refine .prune _ ?_ (Cov.same rfl rfl rfl (hb3 () trivial))
   exact ⟨dand_t c2, rfl, rfl, trivial⟩
  ·refine .g_off rfl rfl rfl ?_
   refine .g_off rfl rfl rfl ?_;refine .g_off rfl rfl rfl ?_;refine .q .ro (.pick_f rfl rfl) rfl ?_
   refine .prune _ ?_ (Cov.same rfl rfl rfl (hb3 () trivial))
   exact ⟨dand_f c2, rfl, rfl, trivial⟩
theorem tape_limit_c {Fs : List Hp} {G : Hp} {x0 : Int} {r : Bool} (hG : G ∈ Fs)  (h : tape_limit x0 = some r) : RetS Tryz.prog 122 #[.int .i64 x0] Fs [] [] (fun v bo so => v = .bool r ∧ bo = [] ∧ so = []) := by
 unfold tape_limit at h
 try dsimp only at h
 refine RetS.of (vs := [_]) Tryz.func122 rfl Tryz.ntmps122 [(0, _)] ⟨rfl, trivial⟩ rfl hG fun w0 S0 hS0 B0 => ?_
 refine .seq ?_;refine .region rfl ?_;refine .av rfl rfl ?_;refine .re ?_;refine .seq ?_;refine .region rfl ?_;refine .mv rfl rfl ?_;refine .q .ro (.geq rfl rfl) rfl ?_;refine .mv rfl rfl ?_
 refine .cutR 3 (β := Unit) (fun y => [(8, .bool (decide ((1 ≤ x0) ∧ (x0 ≤ 2147483647))))]) [(2, _)] (fun y => G :: Fs) (fun y => []) [] (fun y => []) [] (fun y => True) ⟨rfl, trivial⟩ [] rfl [] rfl ?_ ?_
 ·rintro _ _
  refine .prune [(8, .bool (decide ((1 ≤ x0) ∧ (x0 ≤ 2147483647)))), (2, _)] ⟨rfl, rfl, trivial⟩ ?_;refine .same (bl' := []) (sl' := []) (Fs' := G :: Fs) rfl rfl rfl ?_;refine .av rfl rfl ?_;refine .re ?_
  cases h
  refine .retS (c := ⟨122, none⟩) (.inr ⟨_, rfl⟩) [.tmp 2] [_] rfl Tryz.func122 Tryz.results122 ⟨RV.tmp rfl, trivial⟩ mcm ⟨rfl, rfl, rfl⟩
 ·intro hb2
  refine .split 5 rfl (fun c1 => ?_) (fun c1 => ?_)
  ·refine .g_on rfl ?_
   refine .mv rfl rfl ?_;refine .g_on rfl ?_;refine .q .ro (.leq rfl rfl) rfl ?_;refine .q .ro (.pick_t rfl rfl) rfl ?_
   refine .prune _ ?_ (Cov.same rfl rfl rfl (hb2 () trivial))
   exact ⟨dand_t c1, rfl, trivial⟩
  ·refine .g_off rfl rfl rfl ?_
   refine .g_off rfl rfl rfl ?_;refine .q .ro (.pick_f rfl rfl) rfl ?_
   refine .prune _ ?_ (Cov.same rfl rfl rfl (hb2 () trivial))
   exact ⟨dand_f c1, rfl, trivial⟩
theorem tape_position_next_c {Fs : List Hp} {G : Hp} {p0 : Nat} {a0_0 : Option Addr} {k0_0 : Nat} {x0_0 : List Int} {x0_1 : Int} {a0_2 : Option Addr} {k0_2 : Nat} {x0_2 : List Int} {cc0_2 : List Value} {x1 : Int} {r : (Int × Int × Int)} (hG : G ∈ Fs) (s0_0 : SlR (Rep.int .i64) G a0_0 k0_0 x0_0) (oo0_2 : OL (Rep.int .i64) G cc0_2 x0_2) (h : tape_position_next ((x0_0, x0_1), x0_2) x1 = some r) : RetS Tryz.prog 149 #[.pointer (some ⟨p0, 0, none⟩), .int .i64 x1] Fs [(p0, .cells #[.slice a0_0 x0_0.length k0_0, .int .i64 x0_1, .slice a0_2 x0_2.length k0_2] 209 (0, 0))] [.s (.slice a0_2 x0_2.length k0_2) 3 1 x0_2.length cc0_2] (fun v bo so => v = .tuple #[.int .i64 r.1, .int .i64 r.2.1] ∧ bo = [(p0, .cells #[.slice a0_0 x0_0.length k0_0, .int .i64 r.2.2, .slice a0_2 x0_2.length k0_2] 209 (0, 0))] ∧ so = [.s (.slice a0_2 x0_2.length k0_2) 3 1 x0_2.length cc0_2]) := by
 unfold tape_position_next at h
 try dsimp only at h
 refine RetS.of (vs := [_, _]) Tryz.func149 rfl Tryz.ntmps149 [(0, _), (1, _)] ⟨rfl, rfl, trivial⟩ rfl hG fun w0 S0 hS0 B0 => ?_
 refine .seq ?_;refine .region rfl ?_;refine .av rfl rfl ?_;refine .av rfl rfl ?_;refine .re ?_;refine .seq ?_;refine .seq ?_;refine .drawL (.q 0 (.q 1 (.q 2 (.q 3 (.q 4 (.q 5 (.q 6 (.q 7 (.q 8 (.q 9 .nil)))))))))) [_] (by kernel_rfl) (by kernel_rfl) (pick_mem [0] rfl) ?_;refine .dq (.move rfl) rfl ?_
 refine .dq (.nilCheck rfl rfl) rfl ?_;refine .dq (.fieldAddr 1 rfl fl207_1 ty3.sz rfl) rfl ?_;refine .dq (.load_own 0 rfl rfl ty3 rfl) rfl ?_;refine .dq (.move rfl) rfl ?_;refine .dq (.nilCheck rfl rfl) rfl ?_;refine .dq (.fieldAddr 0 rfl fl207_0 ty22.sz rfl) rfl ?_;refine .dq (.load_own 0 rfl rfl ty22 rfl) rfl ?_;refine .dq (.len_sl rfl rfl sl22) rfl ?_;refine .dq (.eql rfl rfl) rfl ?_
 refine .draw_end ?_
 refine .cond_dec rfl (fun c2 => ?_) (fun c2 => ?_)
 ·have r3 := ifT h c2; clear h
  refine .seq ?_;refine .region rfl ?_;refine .av rfl rfl ?_;refine .av rfl rfl ?_;refine .re ?_
  cases r3
  refine .retS (c := ⟨149, none⟩) (.inr ⟨_, rfl⟩) [.tmp 4, .tmp 5] [_, _] rfl Tryz.func149 Tryz.results149 ⟨RV.tmp rfl, RV.tmp rfl, trivial⟩ mcm ⟨rfl, rfl, rfl⟩
 ·have r4 := ifF h c2; clear h
  refine .skip ?_;refine .seq ?_;refine .drawL (.q 0 (.q 1 (.q 2 (.q 3 (.q 4 (.q 5 (.q 6 (.q 7 (.e 8 1 (.e 9 1 (.q 10 .nil))))))))))) [_] (by kernel_rfl) (by kernel_rfl) (pick_mem [0] rfl) ?_;refine .dq (.move rfl) rfl ?_;refine .dq (.nilCheck rfl rfl) rfl ?_;refine .dq (.fieldAddr 0 rfl fl207_0 ty22.sz rfl) rfl ?_;refine .dq (.load_own 0 rfl rfl ty22 rfl) rfl ?_;refine .dq (.move rfl) rfl ?_;refine .dq (.nilCheck rfl rfl) rfl ?_
  refine .dq (.fieldAddr 1 rfl fl207_1 ty3.sz rfl) rfl ?_;refine .dq (.load_own 0 rfl rfl ty3 rfl) rfl ?_
  obtain ⟨u5, hu5, r6⟩ := bind_some r4; clear r4
  obtain ⟨c7, p8, h9⟩ := SlR.get s0_0 hu5
  obtain rfl := h9
  refine .q .d1 (.idxR s0_0 rfl rfl hu5 sl22 ty3.sz) rfl ?_;refine .clsL (HpLe.refl _) (pick_mem [0] rfl) ?_;refine .q .d1 (.load_rp p8 List.mem_cons_self rfl ty3 rfl) rfl ?_;refine .clsL (HpLe.refl _) (pick_mem [0] rfl) ?_;refine .dq (.assign rfl) rfl ?_;refine .draw_end ?_;refine .prune [(0, _), (1, _), (6, _)] ⟨rfl, rfl, rfl, trivial⟩ ?_;refine .seq ?_;refine .seq ?_
  refine .region rfl ?_;refine .mv rfl rfl ?_;refine .q .ro (.lss rfl rfl) rfl ?_;refine .mv rfl rfl ?_;refine .cutR 4 (β := Unit) (fun y => [(33, .bool (decide ((u5 < 0) ∨ (x1 ≤ u5))))]) [(0, _), (6, _)] (fun y => G :: Fs) (fun y => []) [_] (fun y => []) [_] (fun y => True) ⟨rfl, rfl, trivial⟩ [0] rfl [0] rfl ?_ ?_
  ·rintro _ _
   refine .prune [(33, .bool (decide ((u5 < 0) ∨ (x1 ≤ u5)))), (0, _), (6, _)] ⟨rfl, rfl, rfl, trivial⟩ ?_;refine .same (bl' := [_]) (sl' := [_]) (Fs' := G :: Fs) rfl rfl rfl ?_;refine .re ?_
   refine .cond_dec rfl (fun c14 => ?_) (fun c14 => ?_)
   ·have r15 := ifT r6 c14; clear r6
    refine .seq ?_;refine .region rfl ?_;refine .av rfl rfl ?_;refine .av rfl rfl ?_;refine .re ?_
    cases r15
    refine .retS (c := ⟨149, none⟩) (.inr ⟨_, rfl⟩) [.tmp 4, .tmp 5] [_, _] rfl Tryz.func149 Tryz.results149 ⟨RV.tmp rfl, RV.tmp rfl, trivial⟩ mcm ⟨rfl, rfl, rfl⟩
   ·have r16 := ifF r6 c14; clear r6
    refine .skip ?_;refine .seq ?_;refine .region rfl ?_;refine .mv rfl rfl ?_;refine .q .ro (.nilCheck rfl rfl) rfl ?_;refine .q .ro (.fieldAddr 1 rfl fl207_1 ty3.sz rfl) rfl ?_;refine .q .ro (.load_own 0 rfl rfl ty3 rfl) rfl ?_;refine .q .ro (.addw rfl rfl) rfl ?_;refine .q .ro (.nilCheck rfl rfl) rfl ?_
    refine .q .ro (.fieldAddr 1 rfl fl207_1 ty3.sz rfl) rfl ?_;refine .store 0 [_, _, _] [_] .ro rfl rfl rfl ty3 rfl rfl rfl rfl ?_;refine .re ?_;refine .seq ?_;refine .region rfl ?_;refine .mv rfl rfl ?_;refine .av rfl rfl ?_;refine .av rfl rfl ?_;refine .re ?_
    cases r16
    refine .retS (c := ⟨149, none⟩) (.inr ⟨_, rfl⟩) [.tmp 4, .tmp 5] [_, _] rfl Tryz.func149 Tryz.results149 ⟨RV.tmp rfl, RV.tmp rfl, trivial⟩ mcm ⟨rfl, rfl, rfl⟩
  ·intro hb11
   refine .split 29 rfl (fun c10 => ?_) (fun c10 => ?_)
   ·refine .g_off rfl rfl rfl ?_
    refine .g_off rfl rfl rfl ?_;refine .g_off rfl rfl rfl ?_;refine .q .ro (.pick_t rfl rfl) rfl ?_
    refine .prune _ ?_ (Cov.same rfl rfl rfl (hb11 () trivial))
    exact ⟨dor_t c10, rfl, rfl, trivial⟩
   ·refine .g_on rfl ?_
    refine .mv rfl rfl ?_;refine .g_on rfl ?_;refine .mv rfl rfl ?_;refine .g_on rfl ?_;refine .q .ro (.geq rfl rfl) rfl ?_;refine .q .ro (.pick_f rfl rfl) rfl ?_
    refine .prune _ ?_ (Cov.same rfl rfl rfl (hb11 () trivial))
    exact ⟨dor_f c10, rfl, rfl, trivial⟩
theorem tape_drawing_draw_c {Fs : List Hp} {G : Hp} {p0 : Nat} {a0_0 : Option Addr} {k0_0 : Nat} {x0_0 : List Int} {x0_1 : Int} {a0_2 : Option Addr} {k0_2 : Nat} {x0_2 : List Int} {cc0_2 : List Value} {x1 : Int} {x2 : Int} {r : (Int × Int × (List Int))} (hG : G ∈ Fs) (s0_0 : SlR (Rep.int .i64) G a0_0 k0_0 x0_0) (oo0_2 : OL (Rep.int .i64) G cc0_2 x0_2) (h : tape_drawing_draw ((x0_0, x0_1), x0_2) x1 x2 = some r) : RetS Tryz.prog 123 #[.pointer (some ⟨p0, 0, none⟩), .int .i64 x1, .int .i64 x2] Fs [(p0, .cells #[.slice a0_0 x0_0.length k0_0, .int .i64 x0_1, .slice a0_2 x0_2.length k0_2] 209 (0, 0))] [.s (.slice a0_2 x0_2.length k0_2) 3 1 x0_2.length cc0_2] (fun v bo so => ∃ la0 : Option Addr, ∃ lk0 : Nat, ∃ lc0 : List Value, v = .int .i64 r.1 ∧ bo = [(p0, .cells #[.slice a0_0 x0_0.length k0_0, .int .i64 r.2.1, .slice la0 r.2.2.length lk0] 209 (0, 0))] ∧ so = [.s (.slice la0 r.2.2.length lk0) 3 1 r.2.2.length lc0] ∧ OL (Rep.int .i64) G lc0 r.2.2) := by
 unfold tape_drawing_draw at h
 try dsimp only at h
 refine RetS.of (vs := [_, _, _]) Tryz.func123 rfl Tryz.ntmps123 [(0, _), (1, _), (2, _)] ⟨rfl, rfl, rfl, trivial⟩ rfl hG fun w0 S0 hS0 B0 => ?_
 refine .seq ?_;refine .region rfl ?_;refine .av rfl rfl ?_;refine .re ?_;refine .seq ?_;refine .seq ?_;refine .region rfl ?_;refine .av rfl rfl ?_;refine .re ?_
 refine .block ?_
 refine .loop2 (α := Nat × Int × Int × List Int × Option Addr × Nat × List Value) (fun y => [(7, .int .i64 y.2.1)]) [(0, _), (1, _), (2, _)] (fun y => []) (fun y => [(p0, .cells #[.slice a0_0 x0_0.length k0_0, .int .i64 y.2.2.1, .slice y.2.2.2.2.1 y.2.2.2.1.length y.2.2.2.2.2.1] 209 (0, 0))]) [] (fun y => [.s (.slice y.2.2.2.2.1 y.2.2.2.1.length y.2.2.2.2.2.1) 3 1 y.2.2.2.1.length y.2.2.2.2.2.2]) [] (fun y => OL (Rep.int .i64) G y.2.2.2.2.2.2 y.2.2.2.1 ∧ tape_drawing_draw_L1 x1 x2 x0_0 y.1 y.2.1 y.2.2.1 y.2.2.2.1 = some r) (fun y => y.1) (big, 0, x0_1, x0_2, a0_2, k0_2, cc0_2) ⟨oo0_2, h⟩ ⟨rfl, rfl, rfl, rfl, trivial⟩ rfl rfl rfl (fun y hI hb36 => ?_)
 obtain ⟨n25, v27, v28, v29, a30, k31, cs32⟩ := y
 obtain ⟨o33, r35⟩ := hI
 try dsimp only at o33 r35
 refine .prune [(7, .int .i64 v27), (0, _), (1, _), (2, _)] ⟨rfl, rfl, rfl, rfl, trivial⟩ ?_;refine .same (bl' := [(p0, .cells #[.slice a0_0 x0_0.length k0_0, .int .i64 v28, .slice a30 v29.length k31] 209 (0, 0))]) (sl' := [.s (.slice a30 v29.length k31) 3 1 v29.length cs32]) (Fs' := G :: Fs) rfl rfl rfl ?_
 obtain ⟨m41, rfl⟩ : ∃ m, n25 = m + 1 := by cases n25 with | zero => exact absurd (show (none : Option _) = some _ from r35) (by simp) | succ m => exact ⟨m, rfl⟩
 have r40 : tape_drawing_draw_B1 x1 x2 x0_0 (tape_drawing_draw_L1 x1 x2 x0_0 m41) v27 v28 v29 = some r := r35; clear r35; unfold tape_drawing_draw_B1 at r40; try dsimp only at r40
 refine .seq ?_;refine .seq ?_;refine .region rfl ?_;refine .mv rfl rfl ?_;refine .mv rfl rfl ?_;refine .q .ro (.lss rfl rfl) rfl ?_;refine .re ?_
 refine .cond_dec rfl (fun c42 => ?_) (fun c42 => ?_)
 ·have r43 := ifT r40 c42; clear r40
  refine .skip ?_;refine .seq ?_;refine .block ?_;refine .seq ?_;refine .region rfl ?_;refine .mv rfl rfl ?_;refine .q .ro (.nilCheck rfl rfl) rfl ?_;refine .q .ro (.fieldAddr 0 rfl fl209_0 ty207.sz rfl) rfl ?_;refine .mv rfl rfl ?_
  obtain ⟨u44, hu44, r45⟩ := bind_some r43; clear r43
  refine .callS (b1 := [_]) (b2 := []) (s1 := [_]) [_, _] [] .ro rfl rfl Tryz.call149 rfl rfl (tape_position_next_c (G := G) List.mem_cons_self s0_0 o33 hu44) rfl (fun v47 bo so h46 => ?_)
  obtain ⟨rfl, rfl, rfl⟩ := h46
  refine .same (bl' := [_]) (sl' := [_]) rfl rfl rfl ?_;refine .mv rfl rfl ?_;refine .q .ro (.extract rfl rfl) rfl ?_;refine .q .ro (.extract rfl rfl) rfl ?_;refine .av rfl rfl ?_;refine .av rfl rfl ?_;refine .re ?_;refine .seq ?_;refine .seq ?_
  refine .region rfl ?_;refine .mv rfl rfl ?_;refine .q .ro (.neq rfl rfl) rfl ?_;refine .re ?_
  refine .cond_dec rfl (fun c48 => ?_) (fun c48 => ?_)
  ·have r49 := ifT r45 c48; clear r45
   refine .seq ?_;refine .region rfl ?_;refine .mv rfl rfl ?_;refine .av rfl rfl ?_;refine .re ?_;refine .prune [(6, _)] ⟨rfl, trivial⟩ ?_
   cases r49
   refine .retS (c := ⟨123, none⟩) (.inr ⟨_, rfl⟩) [.tmp 6] [_] rfl Tryz.func123 Tryz.results123 ⟨RV.tmp rfl, trivial⟩ mcm ⟨a30, k31, cs32, rfl, rfl, rfl, o33⟩
  ·have r50 := ifF r45 c48; clear r45
   refine .skip ?_;refine .region rfl ?_;refine .mv rfl rfl ?_;refine .mv rfl rfl ?_;refine .q .ro (.nilCheck rfl rfl) rfl ?_;refine .q .ro (.fieldAddr 2 rfl fl209_1 ty22.sz rfl) rfl ?_;refine .q .ro (.load_own 0 rfl rfl ty22 rfl) rfl ?_;refine .mv rfl rfl ?_
   refine .lit [_] [(0, _)] .ro sl22 ty3 rfl rfl rfl rfl rfl rfl (fun b51 hb51 => ?_)
   have o52 : OL (Rep.int .i64) G [.int .i64 u44.1] ([u44.1] : List Int) := ((OL.cons rfl (Rep.intI .i64 u44.1) (OL.nil (Rp' := (Rep.int .i64)))) :)
   refine .reval 32 (n' := ([u44.1] : List Int).length) rfl rfl ?_
   obtain ⟨u58, hu58, r59⟩ := bind_some r50; clear r50
   refine .appO (Q := (Rep.int .i64)) 0 .ro sl22 ty3 rfl rfl rfl rfl rfl rfl o33 o52 rfl rfl rfl B0 hu58 rfl (fun a54 k55 cs56 o57 => ?_)
   refine .q .ro (.nilCheck rfl rfl) rfl ?_;refine .q .ro (.fieldAddr 2 rfl fl209_1 ty22.sz rfl) rfl ?_;refine .store 0 [_, _, _] [_] .ro rfl rfl rfl ty22 rfl rfl rfl rfl ?_;refine .re ?_;refine .prune [(7, _), (0, _), (1, _), (2, _)] ⟨rfl, rfl, rfl, rfl, trivial⟩ ?_;refine .inBlock ?_;refine .region rfl ?_;refine .mv rfl rfl ?_;refine .q .ro (.addw rfl rfl) rfl ?_
   refine .av rfl rfl ?_;refine .re ?_
   refine .prune _ ?_ (Cov.same rfl rfl rfl (hb36 (m41, (w64 (v27 + 1)), u44.2.2, u58, a54, k55, cs56) ⟨o57, r59⟩ (Nat.lt_succ_self _)))
   exact ⟨rfl, rfl, rfl, rfl, trivial⟩
 ·have r61 := ifF r40 c42; clear r40
  refine .exit rfl ?_;refine .seq ?_;refine .region rfl ?_;refine .av rfl rfl ?_;refine .re ?_
  cases r61
  refine .retS (c := ⟨123, none⟩) (.inr ⟨_, rfl⟩) [.tmp 6] [_] rfl Tryz.func123 Tryz.results123 ⟨RV.tmp rfl, trivial⟩ mcm ⟨a30, k31, cs32, rfl, rfl, rfl, o33⟩
theorem tape_Draws_c {Fs : List Hp} {G : Hp} {a0_0 : Option Addr} {k0_0 : Nat} {x0_0 : List Int} {x0_1 : Int} {x1 : Int} {x2 : Int} {r : (((List Int) × Int) × (List Int) × Int)} (hG : G ∈ Fs) (s0_0 : SlR (Rep.int .i64) G a0_0 k0_0 x0_0) (h : tape_Draws (x0_0, x0_1) x1 x2 = some r) : RetW Tryz.prog 65 #[.agg #[.slice a0_0 x0_0.length k0_0, .int .i64 x0_1], .int .i64 x1, .int .i64 x2] Fs [] [] (fun v bo so G => ∃ a0 : Option Addr, ∃ k0 : Nat, ∃ (oa0 : Option Addr) (ok0 : Nat) (oc0 : List Value), v = .tuple #[.agg #[.slice a0 r.1.1.length k0, .int .i64 r.1.2], .slice oa0 r.2.1.length ok0, .int .i64 r.2.2] ∧ bo = [] ∧ so = [.s (.slice oa0 r.2.1.length ok0) 3 1 r.2.1.length oc0] ∧ SlR (Rep.int .i64) G a0 k0 r.1.1 ∧ OL (Rep.int .i64) G oc0 r.2.1) := by
 unfold tape_Draws at h
 try dsimp only at h
 refine RetW.of (vs := [_, _, _]) Tryz.func65 rfl Tryz.ntmps65 [(0, _), (1, _), (2, _)] ⟨rfl, rfl, rfl, trivial⟩ rfl hG fun w0 S0 hS0 B0 => ?_
 refine .seq ?_;refine .region rfl ?_
 refine .box [_, _] .ro rfl rfl rfl (fun b1 hb1 => ?_)
 refine .alloc .ro ty56 rfl (fun b2 hb2 => ?_)
 refine .av rfl rfl ?_;refine .av rfl rfl ?_;refine .re ?_;refine .seq ?_;refine .seq ?_;refine .region rfl ?_;refine .q .ro (.load_own_a 1 [_, _] rfl rfl ty56 rfl) rfl ?_
 obtain ⟨u3, hu3, r4⟩ := bind_some h; clear h
 refine .callS (b1 := []) (b2 := [_, _]) (s1 := []) [_] [] .ro rfl rfl Tryz.call121 rfl rfl (tape_valid_c (G := G) List.mem_cons_self s0_0 hu3) rfl (fun v6 bo so h5 => ?_)
 obtain ⟨rfl, rfl, rfl⟩ := h5
 refine .same (bl' := [_, _]) (sl' := []) rfl rfl rfl ?_;refine .q .ro (.not rfl) rfl ?_;refine .re ?_
 refine .cond rfl (fun c7 => ?_) (fun c7 => ?_)
 ·have r8 := ifT r4 c7; clear r4
  refine .seq ?_;refine .region rfl ?_;refine .q .ro (.build [_, _] [] ty56 pl56 rfl rfl) rfl ?_;refine .store 0 [_, _] [_, _] .ro rfl rfl rfl ty56 rfl rfl rfl rfl ?_;refine .av rfl rfl ?_;refine .av rfl rfl ?_;refine .re ?_;refine .own_nil 3 1 ?_
  cases r8
  refine .retWD 2 (c := ⟨65, none⟩) (.inr ⟨_, rfl⟩) [.cell 6 56, .tmp 7, .tmp 8] [_, _, _] rfl Tryz.func65 Tryz.results65 ⟨RV.cell_a 0 [_, _] rfl rfl ty56 rfl, RV.tmp rfl, RV.tmp rfl, trivial⟩ mcm List.mem_cons_self B0 (by subst hS0; simp [blks]) (fun G' hg => ⟨none, 0, none, 0, [], rfl, rfl, rfl, (SlR.mono hg (SlR.nil (Rp' := (Rep.int .i64)))), (OL.mono hg (OL.nil (Rp' := (Rep.int .i64))))⟩)
 ·have r10 := ifBF r4 c7; clear r4
  refine .skip ?_;refine .seq ?_;refine .seq ?_;refine .region rfl ?_;refine .mv rfl rfl ?_
  obtain ⟨u11, hu11, r12⟩ := bind_some r10; clear r10
  refine .callS (b1 := []) (b2 := [_, _]) (s1 := []) [_] [] .ro rfl rfl Tryz.call122 rfl rfl (tape_limit_c (G := G) List.mem_cons_self  hu11) rfl (fun v14 bo so h13 => ?_)
  obtain ⟨rfl, rfl, rfl⟩ := h13
  refine .same (bl' := [_, _]) (sl' := []) rfl rfl rfl ?_;refine .q .ro (.not rfl) rfl ?_;refine .mv rfl rfl ?_;refine .cutR 3 (β := Unit) (fun y => [(21, .bool (decide (((!u11) = true) ∨ (x2 < 0))))]) [(1, _), (2, _), (3, _), (6, _)] (fun y => G :: Fs) (fun y => []) [_, _] (fun y => []) [] (fun y => True) ⟨rfl, rfl, rfl, rfl, trivial⟩ [0, 1] rfl [] rfl ?_ ?_
  ·rintro _ _
   refine .prune [(21, .bool (decide (((!u11) = true) ∨ (x2 < 0)))), (1, _), (2, _), (3, _), (6, _)] ⟨rfl, rfl, rfl, rfl, rfl, trivial⟩ ?_;refine .same (bl' := [_, _]) (sl' := []) (Fs' := G :: Fs) rfl rfl rfl ?_;refine .re ?_
   refine .cond_dec rfl (fun c19 => ?_) (fun c19 => ?_)
   ·have r20 := ifT r12 c19; clear r12
    refine .seq ?_;refine .region rfl ?_;refine .q .ro (.build [_, _] [] ty56 pl56 rfl rfl) rfl ?_;refine .store 0 [_, _] [_, _] .ro rfl rfl rfl ty56 rfl rfl rfl rfl ?_;refine .av rfl rfl ?_;refine .av rfl rfl ?_;refine .re ?_;refine .own_nil 3 1 ?_
    cases r20
    refine .retWD 2 (c := ⟨65, none⟩) (.inr ⟨_, rfl⟩) [.cell 6 56, .tmp 7, .tmp 8] [_, _, _] rfl Tryz.func65 Tryz.results65 ⟨RV.cell_a 0 [_, _] rfl rfl ty56 rfl, RV.tmp rfl, RV.tmp rfl, trivial⟩ mcm List.mem_cons_self B0 (by subst hS0; simp [blks]) (fun G' hg => ⟨none, 0, none, 0, [], rfl, rfl, rfl, (SlR.mono hg (SlR.nil (Rp' := (Rep.int .i64)))), (OL.mono hg (OL.nil (Rp' := (Rep.int .i64))))⟩)
   ·have r22 := ifF r12 c19; clear r12
    refine .skip ?_;refine .seq ?_;refine .region rfl ?_;refine .q .ro (.fieldAddr 0 rfl fl56_0 ty22.sz rfl) rfl ?_;refine .q .ro (.load_own 1 rfl rfl ty22 rfl) rfl ?_;refine .q .ro (.fieldAddr 1 rfl fl56_1 ty3.sz rfl) rfl ?_;refine .q .ro (.load_own 1 rfl rfl ty3 rfl) rfl ?_;refine .q .ro (.build [_, _] [(0, _), (1, _)] ty207 pl207 rfl rfl) rfl ?_;refine .q .ro (.build [_, _, _] [(0, _)] ty209 pl209 rfl rfl) rfl ?_
    refine .box [_, _, _] .ro rfl rfl rfl (fun b23 hb23 => ?_)
    refine .av rfl rfl ?_;refine .re ?_;refine .seq ?_;refine .seq ?_;refine .region rfl ?_;refine .mv rfl rfl ?_;refine .mv rfl rfl ?_;refine .mv rfl rfl ?_;refine .own_nil 3 1 ?_
    obtain ⟨u25, hu25, r26⟩ := bind_some r22; clear r22
    refine .callS (b1 := [_]) (b2 := [_, _]) (s1 := [_]) [_, _, _] [] .ro rfl rfl Tryz.call123 rfl rfl (tape_drawing_draw_c (G := G) List.mem_cons_self s0_0 (OL.nil (Rp' := (Rep.int .i64))) hu25) rfl (fun v28 bo so h27 => ?_)
    obtain ⟨a31, k32, cs29, rfl, rfl, rfl, o30⟩ := h27
    refine .same (bl' := [_, _, _]) (sl' := [_]) rfl rfl rfl ?_;refine .av rfl rfl ?_;refine .re ?_;refine .prune [(3, _), (6, _), (9, _), (10, _)] ⟨rfl, rfl, rfl, rfl, trivial⟩ ?_;refine .seq ?_;refine .region rfl ?_;refine .mv rfl rfl ?_;refine .q .ro (.neq rfl rfl) rfl ?_;refine .re ?_
    refine .cond_dec rfl (fun c34 => ?_) (fun c34 => ?_)
    ·have r35 := ifT r26 c34; clear r26
     refine .seq ?_;refine .region rfl ?_;refine .q .ro (.build [_, _] [] ty56 pl56 rfl rfl) rfl ?_;refine .mv rfl rfl ?_;refine .store 1 [_, _] [_, _, _] .ro rfl rfl rfl ty56 rfl rfl rfl rfl ?_;refine .av rfl rfl ?_;refine .av rfl rfl ?_;refine .re ?_;refine .own_nil 3 1 ?_
     cases r35
     refine .pullS 1 rfl [_, _] rfl ?_;refine .drop 0 1 _ [_] rfl rfl ?_
     refine .retWD 3 (c := ⟨65, none⟩) (.inr ⟨_, rfl⟩) [.cell 6 56, .tmp 7, .tmp 8] [_, _, _] rfl Tryz.func65 Tryz.results65 ⟨RV.cell_a 1 [_, _] rfl rfl ty56 rfl, RV.tmp rfl, RV.tmp rfl, trivial⟩ mcm List.mem_cons_self B0 (by subst hS0; simp [blks]) (fun G' hg => ⟨none, 0, none, 0, [], rfl, rfl, rfl, (SlR.mono hg (SlR.nil (Rp' := (Rep.int .i64)))), (OL.mono hg (OL.nil (Rp' := (Rep.int .i64))))⟩)
    ·have r37 := ifF r26 c34; clear r26
     refine .skip ?_;refine .seq ?_;refine .drawL (.q 0 (.q 1 (.q 3 (.q 4 (.q 5 (.q 6 (.q 7 (.q 9 (.q 10 (.q 11 (.q 12 (.e 2 1 (.q 8 (.e 13 1 (.q 14 (.q 15 .nil)))))))))))))))) [_, _] (by kernel_rfl) (by kernel_rfl) (pick_mem [0, 2] rfl) ?_;refine .dq (.fieldAddr 0 rfl fl56_0 ty22.sz rfl) rfl ?_;refine .dq (.load_own 1 rfl rfl ty22 rfl) rfl ?_;refine .dq (.move rfl) rfl ?_;refine .dq (.nilCheck rfl rfl) rfl ?_;refine .dq (.fieldAddr 0 rfl fl209_0 ty207.sz rfl) rfl ?_;refine .dq (.fieldAddr 1 rfl fl207_1 ty3.sz rfl) rfl ?_
     refine .dq (.load_own 0 rfl rfl ty3 rfl) rfl ?_;refine .dq (.move rfl) rfl ?_;refine .dq (.nilCheck rfl rfl) rfl ?_;refine .dq (.fieldAddr 2 rfl fl209_1 ty22.sz rfl) rfl ?_;refine .dq (.load_own 0 rfl rfl ty22 rfl) rfl ?_
     obtain ⟨u38, hu38, r39⟩ := bind_some r37; clear r37
     refine .callS (b1 := []) (b2 := [_, _, _]) (s1 := []) [_] [] .d1 rfl rfl Tryz.call100 rfl rfl (slices_Clone_Lintint_c (G := G) List.mem_cons_self s0_0 hu38) rfl (fun v41 bo so h40 => ?_)
     obtain ⟨a43, k44, cs45, rfl, rfl, rfl, o46⟩ := h40
     refine .same (bl' := [_, _, _]) (sl' := [_, _]) rfl rfl rfl ?_;refine .clsL (HpLe.refl _) (pick_mem [0, 2] rfl) ?_;refine .dq (.build [_, _] [(0, _), (1, _)] ty56 pl56 rfl rfl) rfl ?_;refine .store 1 [_, _] [_, _, _] .d1 rfl rfl rfl ty56 rfl rfl rfl rfl ?_;refine .clsL (HpLe.refl _) (pick_mem [0, 2] rfl) ?_;refine .dq (.assign rfl) rfl ?_;refine .dq (.assign rfl) rfl ?_;refine .draw_end ?_;refine .prune [(6, _), (7, _), (8, _)] ⟨rfl, rfl, rfl, trivial⟩ ?_
     refine .freezeR 0 rfl rfl o46 [_] rfl B0 (fun G47 e48 B49 s50 => ?_)
     cases r39
     refine .retWD 3 (c := ⟨65, none⟩) (.inr ⟨_, rfl⟩) [.cell 6 56, .tmp 7, .tmp 8] [_, _, _] rfl Tryz.func65 Tryz.results65 ⟨RV.cell_a 1 [_, _] rfl rfl ty56 rfl, RV.tmp rfl, RV.tmp rfl, trivial⟩ mcm List.mem_cons_self B49 (by subst hS0; simp [blks]) (fun G' hg => ⟨a43, k44, a31, k32, cs29, rfl, rfl, rfl, (SlR.mono hg s50), (OL.mono hg (OL.mono e48 o30))⟩)
  ·intro hb16
   refine .split_b 18 rfl (fun c15 => ?_) (fun c15 => ?_)
   ·refine .g_off rfl rfl rfl ?_
    refine .g_off rfl rfl rfl ?_;refine .q .ro (.pick_t rfl rfl) rfl ?_
    refine .prune _ ?_ (Cov.same rfl rfl rfl (hb16 () trivial))
    exact ⟨dor_t c15, rfl, rfl, rfl, rfl, trivial⟩
   ·refine .g_on rfl ?_
    refine .mv rfl rfl ?_;refine .g_on rfl ?_;refine .q .ro (.lss rfl rfl) rfl ?_;refine .q .ro (.pick_f rfl rfl) rfl ?_
    refine .prune _ ?_ (Cov.same rfl rfl rfl (hb16 () trivial))
    exact ⟨dor_f (bne_of c15), rfl, rfl, rfl, rfl, trivial⟩
theorem curve_valid_c {Fs : List Hp} {G : Hp} {x0_0 : Int} {x0_1 : Int} {r : Bool} (hG : G ∈ Fs)  (h : curve_valid (x0_0, x0_1) = some r) : RetS Tryz.prog 146 #[.agg #[.int .i64 x0_0, .int .i64 x0_1]] Fs [] [] (fun v bo so => v = .bool r ∧ bo = [] ∧ so = []) := by
 unfold curve_valid at h
 try dsimp only at h
 refine RetS.of (vs := [_]) Tryz.func146 rfl Tryz.ntmps146 [(0, _)] ⟨rfl, trivial⟩ rfl hG fun w0 S0 hS0 B0 => ?_
 refine .seq ?_;refine .region rfl ?_
 refine .box [_, _] .ro rfl rfl rfl (fun b1 hb1 => ?_)
 refine .av rfl rfl ?_;refine .re ?_;refine .seq ?_;refine .region rfl ?_;refine .q .ro (.fieldAddr 0 rfl fl69_0 ty3.sz rfl) rfl ?_;refine .q .ro (.load_own 0 rfl rfl ty3 rfl) rfl ?_;refine .q .ro (.geq rfl rfl) rfl ?_;refine .mv rfl rfl ?_;refine .cutR 4 (β := Unit) (fun y => [(10, .bool (decide ((2 ≤ x0_0) ∧ (x0_0 ≤ 10))))]) [(1, _), (2, _)] (fun y => G :: Fs) (fun y => []) [_] (fun y => []) [] (fun y => True) ⟨rfl, rfl, trivial⟩ [0] rfl [] rfl ?_ ?_
 ·rintro _ _
  refine .prune [(10, .bool (decide ((2 ≤ x0_0) ∧ (x0_0 ≤ 10)))), (1, _), (2, _)] ⟨rfl, rfl, rfl, trivial⟩ ?_;refine .same (bl' := [_]) (sl' := []) (Fs' := G :: Fs) rfl rfl rfl ?_;refine .mv rfl rfl ?_;refine .cutR 4 (β := Unit) (fun y => [(15, .bool (decide (((2 ≤ x0_0) ∧ (x0_0 ≤ 10)) ∧ (1 ≤ x0_1))))]) [(1, _), (2, _)] (fun y => G :: Fs) (fun y => []) [_] (fun y => []) [] (fun y => True) ⟨rfl, rfl, trivial⟩ [0] rfl [] rfl ?_ ?_
  ·rintro _ _
   refine .prune [(15, .bool (decide (((2 ≤ x0_0) ∧ (x0_0 ≤ 10)) ∧ (1 ≤ x0_1)))), (1, _), (2, _)] ⟨rfl, rfl, rfl, trivial⟩ ?_;refine .same (bl' := [_]) (sl' := []) (Fs' := G :: Fs) rfl rfl rfl ?_;refine .mv rfl rfl ?_;refine .cutR 6 (β := Unit) (fun y => [(22, .bool (decide ((((2 ≤ x0_0) ∧ (x0_0 ≤ 10)) ∧ (1 ≤ x0_1)) ∧ (x0_1 < x0_0))))]) [(2, _)] (fun y => G :: Fs) (fun y => []) [_] (fun y => []) [] (fun y => True) ⟨rfl, trivial⟩ [0] rfl [] rfl ?_ ?_
   ·rintro _ _
    refine .prune [(22, .bool (decide ((((2 ≤ x0_0) ∧ (x0_0 ≤ 10)) ∧ (1 ≤ x0_1)) ∧ (x0_1 < x0_0)))), (2, _)] ⟨rfl, rfl, trivial⟩ ?_;refine .same (bl' := [_]) (sl' := []) (Fs' := G :: Fs) rfl rfl rfl ?_;refine .av rfl rfl ?_;refine .re ?_
    cases h
    refine .drop 1 0 [] _ rfl rfl ?_
    refine .retS (c := ⟨146, none⟩) (.inr ⟨_, rfl⟩) [.tmp 2] [_] rfl Tryz.func146 Tryz.results146 ⟨RV.tmp rfl, trivial⟩ mcm ⟨rfl, rfl, rfl⟩
   ·intro hb11
    refine .split 16 rfl (fun c10 => ?_) (fun c10 => ?_)
    ·refine .g_on rfl ?_
     refine .q .ro (.fieldAddr 1 rfl fl69_1 ty3.sz rfl) rfl ?_;refine .g_on rfl ?_;refine .q .ro (.load_own 0 rfl rfl ty3 rfl) rfl ?_;refine .g_on rfl ?_;refine .q .ro (.fieldAddr 0 rfl fl69_0 ty3.sz rfl) rfl ?_;refine .g_on rfl ?_;refine .q .ro (.load_own 0 rfl rfl ty3 rfl) rfl ?_;refine .g_on rfl ?_;refine .q .ro (.lss rfl rfl) rfl ?_
     refine .q .ro (.pick_t rfl rfl) rfl ?_
     refine .prune _ ?_ (Cov.same rfl rfl rfl (hb11 () trivial))
     exact ⟨dand_t c10, rfl, trivial⟩
    ·refine .g_off rfl rfl rfl ?_
     refine .g_off rfl rfl rfl ?_;refine .g_off rfl rfl rfl ?_;refine .g_off rfl rfl rfl ?_;refine .g_off rfl rfl rfl ?_;refine .q .ro (.pick_f rfl rfl) rfl ?_
     refine .prune _ ?_ (Cov.same rfl rfl rfl (hb11 () trivial))
     exact ⟨dand_f c10, rfl, trivial⟩
  ·intro hb7
   refine .split 11 rfl (fun c6 => ?_) (fun c6 => ?_)
   ·refine .g_on rfl ?_
    refine .q .ro (.fieldAddr 1 rfl fl69_1 ty3.sz rfl) rfl ?_;refine .g_on rfl ?_;refine .q .ro (.load_own 0 rfl rfl ty3 rfl) rfl ?_;refine .g_on rfl ?_;refine .q .ro (.geq rfl rfl) rfl ?_;refine .q .ro (.pick_t rfl rfl) rfl ?_
    refine .prune _ ?_ (Cov.same rfl rfl rfl (hb7 () trivial))
    exact ⟨dand_t c6, rfl, rfl, trivial⟩
   ·refine .g_off rfl rfl rfl ?_
    refine .g_off rfl rfl rfl ?_;refine .g_off rfl rfl rfl ?_;refine .q .ro (.pick_f rfl rfl) rfl ?_
    refine .prune _ ?_ (Cov.same rfl rfl rfl (hb7 () trivial))
    exact ⟨dand_f c6, rfl, rfl, trivial⟩
 ·intro hb3
  refine .split 6 rfl (fun c2 => ?_) (fun c2 => ?_)
  ·refine .g_on rfl ?_
   refine .q .ro (.fieldAddr 0 rfl fl69_0 ty3.sz rfl) rfl ?_;refine .g_on rfl ?_;refine .q .ro (.load_own 0 rfl rfl ty3 rfl) rfl ?_;refine .g_on rfl ?_;refine .q .ro (.leq rfl rfl) rfl ?_;refine .q .ro (.pick_t rfl rfl) rfl ?_
   refine .prune _ ?_ (Cov.same rfl rfl rfl (hb3 () trivial))
   exact ⟨dand_t c2, rfl, rfl, trivial⟩
  ·refine .g_off rfl rfl rfl ?_
   refine .g_off rfl rfl rfl ?_;refine .g_off rfl rfl rfl ?_;refine .q .ro (.pick_f rfl rfl) rfl ?_
   refine .prune _ ?_ (Cov.same rfl rfl rfl (hb3 () trivial))
   exact ⟨dand_f c2, rfl, rfl, trivial⟩
theorem curve_Check_c {Fs : List Hp} {G : Hp} {x0_0 : Int} {x1_0 : Int} {x1_1 : Int} {r : Int} (hG : G ∈ Fs)  (h : curve_Check x0_0 (x1_0, x1_1) = some r) : RetS Tryz.prog 113 #[.agg #[.int .i64 x0_0], .agg #[.int .i64 x1_0, .int .i64 x1_1]] Fs [] [] (fun v bo so => v = .int .i64 r ∧ bo = [] ∧ so = []) := by
 unfold curve_Check at h
 try dsimp only at h
 refine RetS.of (vs := [_, _]) Tryz.func113 rfl Tryz.ntmps113 [(0, _), (1, _)] ⟨rfl, rfl, trivial⟩ rfl hG fun w0 S0 hS0 B0 => ?_
 refine .seq ?_;refine .region rfl ?_
 refine .box [_] .ro rfl rfl rfl (fun b1 hb1 => ?_)
 refine .box [_, _] .ro rfl rfl rfl (fun b2 hb2 => ?_)
 refine .av rfl rfl ?_;refine .re ?_;refine .seq ?_;refine .seq ?_;refine .region rfl ?_;refine .q .ro (.load_own_a 1 [_] rfl rfl ty45 rfl) rfl ?_
 obtain ⟨u3, hu3, r4⟩ := bind_some h; clear h
 refine .callS (b1 := []) (b2 := [_, _]) (s1 := []) [_] [] .ro rfl rfl Tryz.call72 rfl rfl (residue_Of_c (G := G) List.mem_cons_self  hu3) rfl (fun v6 bo so h5 => ?_)
 obtain ⟨rfl, rfl, rfl⟩ := h5
 refine .same (bl' := [_, _]) (sl' := []) rfl rfl rfl ?_;refine .mv rfl rfl ?_;refine .q .ro (.extract rfl rfl) rfl ?_;refine .q .ro (.extract rfl rfl) rfl ?_;refine .av rfl rfl ?_;refine .av rfl rfl ?_;refine .re ?_;refine .seq ?_;refine .region rfl ?_
 refine .mv rfl rfl ?_;refine .q .ro (.not rfl) rfl ?_;refine .re ?_
 refine .cond rfl (fun c7 => ?_) (fun c7 => ?_)
 ·have r8 := ifT r4 c7; clear r4
  refine .seq ?_;refine .region rfl ?_;refine .av rfl rfl ?_;refine .re ?_;refine .prune [(4, _)] ⟨rfl, trivial⟩ ?_
  cases r8
  refine .drop 2 0 [] _ rfl rfl ?_
  refine .retS (c := ⟨113, none⟩) (.inr ⟨_, rfl⟩) [.tmp 4] [_] rfl Tryz.func113 Tryz.results113 ⟨RV.tmp rfl, trivial⟩ mcm ⟨rfl, rfl, rfl⟩
 ·have r9 := ifBF r4 c7; clear r4
  refine .skip ?_;refine .seq ?_;refine .seq ?_;refine .region rfl ?_;refine .q .ro (.load_own_a 0 [_, _] rfl rfl ty69 rfl) rfl ?_
  obtain ⟨u10, hu10, r11⟩ := bind_some r9; clear r9
  refine .callS (b1 := []) (b2 := [_, _]) (s1 := []) [_] [] .ro rfl rfl Tryz.call146 rfl rfl (curve_valid_c (G := G) List.mem_cons_self  hu10) rfl (fun v13 bo so h12 => ?_)
  obtain ⟨rfl, rfl, rfl⟩ := h12
  refine .same (bl' := [_, _]) (sl' := []) rfl rfl rfl ?_;refine .q .ro (.not rfl) rfl ?_;refine .mv rfl rfl ?_;refine .cutR 6 (β := Unit) (fun y => [(23, .bool (decide (((!u10) = true) ∨ (x0_0 ≤ x1_0))))]) [] (fun y => G :: Fs) (fun y => []) [_, _] (fun y => []) [] (fun y => True) trivial [0, 1] rfl [] rfl ?_ ?_
  ·rintro _ _
   refine .prune [(23, .bool (decide (((!u10) = true) ∨ (x0_0 ≤ x1_0))))] ⟨rfl, trivial⟩ ?_;refine .same (bl' := [_, _]) (sl' := []) (Fs' := G :: Fs) rfl rfl rfl ?_;refine .re ?_
   refine .cond_dec rfl (fun c18 => ?_) (fun c18 => ?_)
   ·have r19 := ifT r11 c18; clear r11
    refine .seq ?_;refine .region rfl ?_;refine .av rfl rfl ?_;refine .re ?_
    cases r19
    refine .drop 2 0 [] _ rfl rfl ?_
    refine .retS (c := ⟨113, none⟩) (.inr ⟨_, rfl⟩) [.tmp 4] [_] rfl Tryz.func113 Tryz.results113 ⟨RV.tmp rfl, trivial⟩ mcm ⟨rfl, rfl, rfl⟩
   ·have r20 := ifF r11 c18; clear r11
    refine .skip ?_;refine .seq ?_;refine .region rfl ?_;refine .av rfl rfl ?_;refine .re ?_
    cases r20
    refine .drop 2 0 [] _ rfl rfl ?_
    refine .retS (c := ⟨113, none⟩) (.inr ⟨_, rfl⟩) [.tmp 4] [_] rfl Tryz.func113 Tryz.results113 ⟨RV.tmp rfl, trivial⟩ mcm ⟨rfl, rfl, rfl⟩
  ·intro hb15
   refine .split_b 17 rfl (fun c14 => ?_) (fun c14 => ?_)
   ·refine .g_off rfl rfl rfl ?_
    refine .g_off rfl rfl rfl ?_;refine .g_off rfl rfl rfl ?_;refine .g_off rfl rfl rfl ?_;refine .g_off rfl rfl rfl ?_;refine .q .ro (.pick_t rfl rfl) rfl ?_
    refine .prune _ ?_ (Cov.same rfl rfl rfl (hb15 () trivial))
    exact ⟨dor_t c14, trivial⟩
   ·refine .g_on rfl ?_
    refine .q .ro (.fieldAddr 0 rfl fl69_0 ty3.sz rfl) rfl ?_;refine .g_on rfl ?_;refine .q .ro (.load_own 0 rfl rfl ty3 rfl) rfl ?_;refine .g_on rfl ?_;refine .q .ro (.fieldAddr 0 rfl fl45_0 ty3.sz rfl) rfl ?_;refine .g_on rfl ?_;refine .q .ro (.load_own 1 rfl rfl ty3 rfl) rfl ?_;refine .g_on rfl ?_;refine .q .ro (.geq rfl rfl) rfl ?_
    refine .q .ro (.pick_f rfl rfl) rfl ?_
    refine .prune _ ?_ (Cov.same rfl rfl rfl (hb15 () trivial))
    exact ⟨dor_f (bne_of c14), trivial⟩
theorem curve_check_c {Fs : List Hp} {G : Hp} {x0_0 : Int} {x1_0 : Int} {x1_1 : Int} {x2 : Int} {r : Int} (hG : G ∈ Fs)  (h : curve_check x0_0 (x1_0, x1_1) x2 = some r) : RetS Tryz.prog 111 #[.agg #[.int .i64 x0_0], .agg #[.int .i64 x1_0, .int .i64 x1_1], .int .i64 x2] Fs [] [] (fun v bo so => v = .int .i64 r ∧ bo = [] ∧ so = []) := by
 unfold curve_check at h
 try dsimp only at h
 refine RetS.of (vs := [_, _, _]) Tryz.func111 rfl Tryz.ntmps111 [(0, _), (1, _), (2, _)] ⟨rfl, rfl, rfl, trivial⟩ rfl hG fun w0 S0 hS0 B0 => ?_
 refine .seq ?_;refine .region rfl ?_
 refine .box [_] .ro rfl rfl rfl (fun b1 hb1 => ?_)
 refine .box [_, _] .ro rfl rfl rfl (fun b2 hb2 => ?_)
 refine .av rfl rfl ?_;refine .re ?_;refine .seq ?_;refine .region rfl ?_;refine .q .ro (.load_own_a 1 [_] rfl rfl ty45 rfl) rfl ?_;refine .q .ro (.load_own_a 0 [_, _] rfl rfl ty69 rfl) rfl ?_
 obtain ⟨u3, hu3, r4⟩ := bind_some h; clear h
 refine .callS (b1 := []) (b2 := [_, _]) (s1 := []) [_, _] [] .ro rfl rfl Tryz.call113 rfl rfl (curve_Check_c (G := G) List.mem_cons_self  hu3) rfl (fun v6 bo so h5 => ?_)
 obtain ⟨rfl, rfl, rfl⟩ := h5
 refine .same (bl' := [_, _]) (sl' := []) rfl rfl rfl ?_;refine .av rfl rfl ?_;refine .re ?_;refine .seq ?_;refine .seq ?_;refine .region rfl ?_;refine .mv rfl rfl ?_;refine .q .ro (.eql rfl rfl) rfl ?_;refine .mv rfl rfl ?_
 refine .cutR 7 (β := Unit) (fun y => [(20, .bool (decide ((u3 = 0) ∧ ((x2 < 1) ∨ (1024 < x2)))))]) [(7, _)] (fun y => G :: Fs) (fun y => []) [_, _] (fun y => []) [] (fun y => True) ⟨rfl, trivial⟩ [0, 1] rfl [] rfl ?_ ?_
 ·rintro _ _
  refine .prune [(20, .bool (decide ((u3 = 0) ∧ ((x2 < 1) ∨ (1024 < x2))))), (7, _)] ⟨rfl, rfl, trivial⟩ ?_;refine .same (bl' := [_, _]) (sl' := []) (Fs' := G :: Fs) rfl rfl rfl ?_;refine .re ?_
  refine .cond_dec rfl (fun c15 => ?_) (fun c15 => ?_)
  ·have r16 := ifT r4 c15; clear r4
   refine .seq ?_;refine .region rfl ?_;refine .av rfl rfl ?_;refine .re ?_
   cases r16
   refine .drop 2 0 [] _ rfl rfl ?_
   refine .retS (c := ⟨111, none⟩) (.inr ⟨_, rfl⟩) [.tmp 6] [_] rfl Tryz.func111 Tryz.results111 ⟨RV.tmp rfl, trivial⟩ mcm ⟨rfl, rfl, rfl⟩
  ·have r17 := ifF r4 c15; clear r4
   refine .skip ?_;refine .seq ?_;refine .region rfl ?_;refine .mv rfl rfl ?_;refine .av rfl rfl ?_;refine .re ?_
   cases r17
   refine .drop 2 0 [] _ rfl rfl ?_
   refine .retS (c := ⟨111, none⟩) (.inr ⟨_, rfl⟩) [.tmp 6] [_] rfl Tryz.func111 Tryz.results111 ⟨RV.tmp rfl, trivial⟩ mcm ⟨rfl, rfl, rfl⟩
 ·intro hb12
  refine .split 13 rfl (fun c11 => ?_) (fun c11 => ?_)
  ·refine .g_on rfl ?_
   refine .mv rfl rfl ?_;refine .g_on rfl ?_;refine .q .ro (.lss rfl rfl) rfl ?_;refine .g_on rfl ?_;refine .mv rfl rfl ?_;refine .cutR 3 (β := Unit) (fun y => [(19, .bool (decide ((x2 < 1) ∨ (1024 < x2))))]) [(7, _), (13, _)] (fun y => G :: Fs) (fun y => []) [_, _] (fun y => []) [] (fun y => True) ⟨rfl, rfl, trivial⟩ [0, 1] rfl [] rfl ?_ ?_
   ·rintro _ _
    refine .prune [(19, .bool (decide ((x2 < 1) ∨ (1024 < x2)))), (7, _), (13, _)] ⟨rfl, rfl, rfl, trivial⟩ ?_;refine .same (bl' := [_, _]) (sl' := []) (Fs' := G :: Fs) rfl rfl rfl ?_;refine .q .ro (.pick_t rfl rfl) rfl ?_
    refine .prune _ ?_ (Cov.same rfl rfl rfl (hb12 () trivial))
    exact ⟨dand_t c11, rfl, trivial⟩
   ·intro hb19
    refine .split 16 rfl (fun c18 => ?_) (fun c18 => ?_)
    ·refine .g_off rfl rfl rfl ?_
     refine .g_off rfl rfl rfl ?_;refine .g_on rfl ?_;refine .q .ro (.pick_t rfl rfl) rfl ?_
     refine .prune _ ?_ (Cov.same rfl rfl rfl (hb19 () trivial))
     exact ⟨dor_t c18, rfl, rfl, trivial⟩
    ·refine .g_on rfl ?_
     refine .mv rfl rfl ?_;refine .g_on rfl ?_;refine .q .ro (.gtr rfl rfl) rfl ?_;refine .g_on rfl ?_;refine .q .ro (.pick_f rfl rfl) rfl ?_
     refine .prune _ ?_ (Cov.same rfl rfl rfl (hb19 () trivial))
     exact ⟨dor_f c18, rfl, rfl, trivial⟩
  ·refine .g_off rfl rfl rfl ?_
   refine .g_off rfl rfl rfl ?_;refine .g_off rfl rfl rfl ?_;refine .gu_off rfl rfl ?_;refine .gu_off rfl rfl ?_;refine .g_off rfl rfl rfl ?_;refine .q .ro (.pick_f rfl rfl) rfl ?_
   refine .prune _ ?_ (Cov.same rfl rfl rfl (hb12 () trivial))
   exact ⟨dand_f c11, rfl, trivial⟩
theorem share_threshold_c {Fs : List Hp} {G : Hp} {x0 : Int} {r : Bool} (hG : G ∈ Fs)  (h : share_threshold x0 = some r) : RetS Tryz.prog 144 #[.int .i64 x0] Fs [] [] (fun v bo so => v = .bool r ∧ bo = [] ∧ so = []) := by
 unfold share_threshold at h
 try dsimp only at h
 refine RetS.of (vs := [_]) Tryz.func144 rfl Tryz.ntmps144 [(0, _)] ⟨rfl, trivial⟩ rfl hG fun w0 S0 hS0 B0 => ?_
 refine .seq ?_;refine .region rfl ?_;refine .av rfl rfl ?_;refine .re ?_;refine .seq ?_;refine .region rfl ?_;refine .mv rfl rfl ?_;refine .q .ro (.geq rfl rfl) rfl ?_;refine .mv rfl rfl ?_
 refine .cutR 3 (β := Unit) (fun y => [(8, .bool (decide ((0 ≤ x0) ∧ (x0 ≤ 9))))]) [(2, _)] (fun y => G :: Fs) (fun y => []) [] (fun y => []) [] (fun y => True) ⟨rfl, trivial⟩ [] rfl [] rfl ?_ ?_
 ·rintro _ _
  refine .prune [(8, .bool (decide ((0 ≤ x0) ∧ (x0 ≤ 9)))), (2, _)] ⟨rfl, rfl, trivial⟩ ?_;refine .same (bl' := []) (sl' := []) (Fs' := G :: Fs) rfl rfl rfl ?_;refine .av rfl rfl ?_;refine .re ?_
  cases h
  refine .retS (c := ⟨144, none⟩) (.inr ⟨_, rfl⟩) [.tmp 2] [_] rfl Tryz.func144 Tryz.results144 ⟨RV.tmp rfl, trivial⟩ mcm ⟨rfl, rfl, rfl⟩
 ·intro hb2
  refine .split 5 rfl (fun c1 => ?_) (fun c1 => ?_)
  ·refine .g_on rfl ?_
   refine .mv rfl rfl ?_;refine .g_on rfl ?_;refine .q .ro (.leq rfl rfl) rfl ?_;refine .q .ro (.pick_t rfl rfl) rfl ?_
   refine .prune _ ?_ (Cov.same rfl rfl rfl (hb2 () trivial))
   exact ⟨dand_t c1, rfl, trivial⟩
  ·refine .g_off rfl rfl rfl ?_
   refine .g_off rfl rfl rfl ?_;refine .q .ro (.pick_f rfl rfl) rfl ?_
   refine .prune _ ?_ (Cov.same rfl rfl rfl (hb2 () trivial))
   exact ⟨dand_f c1, rfl, trivial⟩
theorem slices_Backward_Lintint_f1_i {Fs : List Hp} {G : Hp} {p1 : Value} {a1 : Option Addr} {k1 : Nat} {x1 : List Int} {l : (List (Int × Int))} (hG : G ∈ Fs) (hp1 : Rp G p1 [.slice a1 x1.length k1]) (s1 : SlR (Rep.int .i64) G a1 k1 x1) (h : slices_Backward_Lintint_f1 x1 = some l) : IterX Tryz.prog 142 [p1] Fs l.length (fun i v => ∃ x, l[i]? = some x ∧ (Yr.pair (Yr.v (Rep.int .i64)) (Yr.v (Rep.int .i64))).r G v x) := by
 unfold slices_Backward_Lintint_f1 at h
 try dsimp only at h
 intro y 𝒢 ℰ R0 hy hR0
 refine RetG.of (vs := [_, _]) Tryz.func142 rfl Tryz.ntmps142 [(0, _), (1, _)] ⟨rfl, rfl, trivial⟩ rfl fun w0 => Cov.dup hG ?_
 have B0 : Bd w0 (blks [] [.g R0]) Fs G := Bd.fin hG
 generalize hS0 : blks [] [.g R0] = S0 at B0 ⊢
 replace h : _ = some (List.drop 0 l) := h
 refine .seq ?_;refine .region rfl ?_;refine .q .ro (.load_rp hp1 List.mem_cons_self rfl ty22 rfl) rfl ?_;refine .q .ro (.len_sl rfl rfl sl22) rfl ?_;refine .q .ro (.subw rfl rfl) rfl ?_;refine .av rfl rfl ?_;refine .re ?_;refine .block ?_
 refine .loop2 (α := Nat × Guest × Nat × Int) (fun y => [(3, .int .i64 y.2.2.2)]) [(0, _), (1, _)] (fun y => []) (fun y => []) [] (fun y => [.g y.2.1]) [] (fun y => 𝒢 y.2.2.1 y.2.1 ∧ y.2.2.1 ≤ l.length ∧ slices_Backward_Lintint_f1_L1 x1 y.1 y.2.2.2 = some (List.drop y.2.2.1 l)) (fun y => y.1) (big, R0, 0, (w64 ((x1.length : Int) - 1))) ⟨hR0, (Nat.zero_le _), h⟩ ⟨rfl, rfl, rfl, trivial⟩ rfl rfl rfl (fun y hI hb25 => ?_)
 obtain ⟨n17, R19, i20, v23⟩ := y
 obtain ⟨hR21, le22, r24⟩ := hI
 try dsimp only at hR21 le22 r24
 refine .prune [(3, .int .i64 v23), (0, _), (1, _)] ⟨rfl, rfl, rfl, trivial⟩ ?_;refine .same (bl' := []) (sl' := [.g R19]) (Fs' := G :: Fs) rfl rfl rfl ?_
 obtain ⟨m28, rfl⟩ : ∃ m, n17 = m + 1 := by cases n17 with | zero => exact absurd (show (none : Option _) = some _ from r24) (by simp) | succ m => exact ⟨m, rfl⟩
 have r27 : slices_Backward_Lintint_f1_B1 x1 (slices_Backward_Lintint_f1_L1 x1 m28) v23 = some (List.drop i20 l) := r24; clear r24; unfold slices_Backward_Lintint_f1_B1 at r27; try dsimp only at r27
 refine .seq ?_;refine .seq ?_;refine .region rfl ?_;refine .mv rfl rfl ?_;refine .q .ro (.geq rfl rfl) rfl ?_;refine .re ?_
 refine .cond_dec rfl (fun c29 => ?_) (fun c29 => ?_)
 ·have r30 := ifT r27 c29; clear r27
  refine .skip ?_;refine .seq ?_;refine .block ?_;refine .seq ?_;refine .region rfl ?_;refine .mv rfl rfl ?_;refine .mv rfl rfl ?_;refine .q .ro (.load_rp hp1 List.mem_cons_self rfl ty22 rfl) rfl ?_;refine .mv rfl rfl ?_
  obtain ⟨u31, hu31, r32⟩ := bind_some r30; clear r30
  obtain ⟨c33, p34, h35⟩ := SlR.get s1 hu31
  obtain rfl := h35
  refine .q .ro (.idxR s1 rfl rfl hu31 sl22 ty3.sz) rfl ?_;refine .q .ro (.load_rp p34 List.mem_cons_self rfl ty3 rfl) rfl ?_
  obtain ⟨h36, r37⟩ := yc_some r32; clear r32
  refine .yieldX hy ⟨_, h36, ⟨[_], _, rfl, ⟨_, rfl, ((Rep.intI .i64 v23) :)⟩, ⟨_, rfl, ((Rep.intI .i64 u31) :)⟩⟩⟩ hR21 mcm rfl rfl rfl (fun R38 hR39 => ?_) (fun R40 hE41 => ?_)
  ·refine .q .ro (.not_t rfl) rfl ?_
   refine .re ?_;refine .cond_false rfl ?_;refine .skip ?_;refine .inBlock ?_;refine .region rfl ?_;refine .mv rfl rfl ?_;refine .q .ro (.subw rfl rfl) rfl ?_;refine .av rfl rfl ?_;refine .re ?_
   refine .prune _ ?_ (Cov.same rfl rfl rfl (hb25 (m28, R38, (i20 + 1), (w64 (v23 - 1))) ⟨hR39, (yc_le h36), r37⟩ (Nat.lt_succ_self _)))
   exact ⟨rfl, rfl, rfl, trivial⟩
  ·refine .q .ro (.not_f rfl) rfl ?_
   refine .re ?_;refine .cond_true rfl ?_
   refine .leave (c := ⟨142, none⟩) (.inr ⟨_, rfl⟩) [] [] rfl Tryz.func142 Tryz.results142 trivial mcm (.inl rfl) (fresh_emp _) ⟨rfl, R40, .inr hE41, rfl⟩
 ·have r42 := ifF r27 c29; clear r27
  refine .exit rfl ?_
  have hi := yc_end r42 le22
  refine .leave (c := ⟨142, none⟩) (.inl rfl) [] [] rfl Tryz.func142 Tryz.results142 trivial mcm (.inl rfl) (fresh_emp _) ⟨rfl, R19, .inl (hi ▸ hR21), rfl⟩
theorem slices_Backward_Lintint_c {Fs : List Hp} {G : Hp} {a0 : Option Addr} {k0 : Nat} {x0 : List Int} {r : (List (Int × Int))} (hG : G ∈ Fs) (s0 : SlR (Rep.int .i64) G a0 k0 x0) (h : slices_Backward_Lintint x0 = some r) : RetW Tryz.prog 108 #[.slice a0 x0.length k0] Fs [] [] (fun v bo so G => ∃ (Fi0 : FuncId) (ci0 : List Value), v = .func (.func Fi0) #[] ci0.toArray ∧ bo = [] ∧ so = [] ∧ (∀ args w, (callFunc Fi0 args).run Tryz.prog w = .ok (.enter Fi0 args) w) ∧ IterRX Tryz.prog (Yr.pair (Yr.v (Rep.int .i64)) (Yr.v (Rep.int .i64))) Fi0 ci0 G r) := by
 unfold slices_Backward_Lintint at h
 try dsimp only at h
 refine RetW.of (vs := [_]) Tryz.func108 rfl Tryz.ntmps108 [(0, _)] ⟨rfl, trivial⟩ rfl hG fun w0 S0 hS0 B0 => ?_
 refine .seq ?_;refine .region rfl ?_
 refine .box [_] .ro rfl rfl rfl (fun b1 hb1 => ?_)
 refine .av rfl rfl ?_;refine .re ?_;refine .seq ?_;refine .region rfl ?_;refine .q .ro (.makeFunc (vf := []) (vc := [_]) rfl rfl) rfl ?_;refine .av rfl rfl ?_;refine .re ?_
 refine .freezeBR 0 rfl [] rfl B0 (fun G2 e3 B4 p5 => ?_)
 obtain ⟨u7, hu7, r8⟩ := bind_some h; clear h
 cases r8
 refine .retW (c := ⟨108, none⟩) (.inr ⟨_, rfl⟩) [.tmp 2] [_] rfl Tryz.func108 Tryz.results108 ⟨RV.tmp rfl, trivial⟩ mcm List.mem_cons_self B4 (by subst hS0; simp [blks]) (fun G' hg => ⟨_, _, rfl, rfl, rfl, Tryz.call142, (fun Fs' G1 hle hm => slices_Backward_Lintint_f1_i (G := G1) hm (Rp.mono (HpLe.trans hg hle) p5) (SlR.mono (HpLe.trans hg hle) (SlR.mono e3 s0)) hu7)⟩)
theorem residue_Field_Value_c {Fs : List Hp} {G : Hp} {x0 : Int} {a1 : Option Addr} {k1 : Nat} {x1 : List Int} {x2 : Int} {r : Int} (hG : G ∈ Fs) (s1 : SlR (Rep.int .i64) G a1 k1 x1) (h : residue_Field_Value x0 x1 x2 = some r) : RetS Tryz.prog 79 #[.int .i64 x0, .slice a1 x1.length k1, .int .i64 x2] Fs [] [] (fun v bo so => v = .int .i64 r ∧ bo = [] ∧ so = []) := by
 unfold residue_Field_Value at h
 try dsimp only at h
 refine RetS.of (vs := [_, _, _]) Tryz.func79 rfl Tryz.ntmps79 [(0, _), (1, _), (2, _)] ⟨rfl, rfl, rfl, trivial⟩ rfl hG fun w0 S0 hS0 B0 => ?_
 refine .marks0 ?_;refine .seq ?_;refine .region rfl ?_
 refine .box [_] .ro rfl rfl rfl (fun b1 hb1 => ?_)
 refine .box [_] .ro rfl rfl rfl (fun b2 hb2 => ?_)
 refine .av rfl rfl ?_;refine .re ?_;refine .seq ?_;refine .region rfl ?_
 refine .alloc .ro ty3 rfl (fun b3 hb3 => ?_)
 refine .store 0 [_] [_, _, _] .ro rfl rfl rfl ty3 rfl rfl rfl rfl ?_;refine .re ?_;refine .seq ?_;refine .seq ?_;refine .region rfl ?_;refine .mv rfl rfl ?_
 obtain ⟨u4, hu4, r5⟩ := bind_some h; clear h
 refine .callW (b1 := []) (b2 := [_, _, _]) (s1 := []) [_] [] .ro rfl rfl Tryz.call108 rfl rfl (slices_Backward_Lintint_c (G := G) List.mem_cons_self s1 hu4) rfl B0 (fun v7 bo so G8 e9 B10 h6 => ?_)
 obtain ⟨F12, c13, rfl, rfl, rfl, hc14, hi15⟩ := h6
 refine .same (bl' := [_, _, _]) (sl' := [_]) rfl rfl rfl ?_;refine .re ?_;refine .cutBD (β := MK × Int) (fun y => mks y.1.1) (fun y => []) [(7, _)] (fun y => G8 :: Fs) (fun y => [(b3, .cells #[.int .i64 y.2] 3 (0, 0))]) [_, _] (fun y => [.g (marksG y.1)]) [] (fun y => residue_Field_Value_J1 y.2 = some r) ⟨rfl, trivial⟩ [1, 2] rfl [] rfl ?_ ?_
 ·intro y hI
  obtain ⟨mk67, v68⟩ := y
  have r70 := hI; clear hI
  try dsimp only at r70
  refine .prune [(7, _)] ⟨rfl, trivial⟩ ?_;refine .same (bl' := [(b3, .cells #[.int .i64 v68] 3 (0, 0)), _, _]) (sl' := [.g (marksG mk67)]) (Fs' := G8 :: Fs) rfl rfl rfl ?_
  unfold residue_Field_Value_J1 at r70
  try dsimp only at r70
  refine .seq ?_;refine .region rfl ?_;refine .q .ro (.load_own 0 rfl rfl ty3 rfl) rfl ?_;refine .av rfl rfl ?_;refine .re ?_
  cases r70
  refine .drop 3 0 [] _ rfl rfl ?_
  refine .out (.inr ⟨_, rfl⟩) rfl (Cov.unmarkAll _ _ ?_)
  refine .outS (c := ⟨79, none⟩) [.tmp 6] [_] Tryz.func79 Tryz.results79 ⟨RV.tmp rfl, trivial⟩ mcm ⟨rfl, rfl, rfl⟩
 ·intro hb73
  refine .block ?_;refine .pull 2 rfl [_, _, _] rfl ?_;refine .pull 2 rfl [_, _, _] rfl ?_;refine .pull 2 rfl [_, _, _] rfl ?_
  refine .rangeX (α := Int) (β := Unit) (fun y => []) (fun y => [(b3, .cells #[.int .i64 y] 3 (0, 0)), (b2, .cells #[.int .i64 x2] 3 (0, 0)), (b1, .cells #[.int .i64 x0] 140 (0, 0))]) (fun y => []) (fun _ => []) (fun _ => []) (fun _ => []) (fun _ => .skip) (fun i y => residue_Field_Value_L2 residue_Field_Value_J1 x0 x2 (List.drop i u4) y = some r) (fun _ => False) (0)  c13 rfl rfl hc14 rfl (by simp) rfl rfl (hi15 _ G8 (HpLe.refl _) List.mem_cons_self) (fun _ _ hv => by obtain ⟨_, _, hv⟩ := hv; exact (Yr.len _ hv).trans rfl) (by kernel_rfl) r5 ?_ ?_ (fun _ _ h => h.elim)
  ·intro l92 tm93 D94 i95 v89 v96 hV97 hI w99 S11 hw16
   have r91 := hI; clear hI
   obtain ⟨x17, h18, h19⟩ := hV97
   refine .dup (G := G8) List.mem_cons_self ?_
   obtain ⟨_, _, rfl, h20, h21⟩ := h19
   obtain ⟨v22, rfl, h23⟩ := h20
   obtain ⟨rfl, _⟩ := List.cons.inj h23
   obtain ⟨v24, rfl, h25⟩ := h21
   obtain ⟨rfl, _⟩ := List.cons.inj h25
   rw [drop_cons h18] at r91
   have r26 : residue_Field_Value_B2 residue_Field_Value_J1 x0 x2 (residue_Field_Value_L2 residue_Field_Value_J1 x0 x2 (List.drop (i95 + 1) u4)) x17 v89 = some r := r91; clear r91; unfold residue_Field_Value_B2 at r26; try dsimp only at r26
   refine .prune [(12, .int .i64 x17.1), (13, .int .i64 x17.2), (3, _), (5, _), (7, _)] ⟨rfl, rfl, rfl, rfl, rfl, trivial⟩ ?_;refine .same (bl' := [(b3, .cells #[.int .i64 v89] 3 (0, 0)), (b2, .cells #[.int .i64 x2] 3 (0, 0)), (b1, .cells #[.int .i64 x0] 140 (0, 0)), _]) (sl' := []) (Fs' := G8 :: (G8 :: Fs)) rfl rfl rfl ?_;refine .region rfl ?_;refine .av rfl rfl ?_;refine .re ?_;refine .beginRound 3 rfl rfl [_, _, _, _] rfl ?_;refine .block ?_;refine .drawL (.q 0 (.q 1 (.q 2 (.q 3 (.q 5 (.e 4 1 (.e 6 2 (.e 7 2 .nil)))))))) [_, _, _, _] (by kernel_rfl) (by kernel_rfl) (pick_mem [0, 1, 2, 3] rfl) ?_;refine .dq (.load_own 2 rfl rfl ty140 rfl) rfl ?_
   refine .dq (.load_own 2 rfl rfl ty140 rfl) rfl ?_;refine .dq (.load_own 0 rfl rfl ty3 rfl) rfl ?_;refine .dq (.load_own 1 rfl rfl ty3 rfl) rfl ?_;refine .dq (.move rfl) rfl ?_
   obtain ⟨u27, hu27, r28⟩ := bind_some r26; clear r26
   refine .callS (b1 := []) (b2 := [_, _, _, _]) (s1 := []) [_, _, _] [] .d1 rfl rfl Tryz.call77 rfl rfl (residue_Field_Mul_c (G := G8) List.mem_cons_self  hu27) rfl (fun v29 bo so h30 => ?_)
   obtain ⟨rfl, rfl, rfl⟩ := h30
   refine .same (bl' := [_, _, _, _]) (sl' := []) rfl rfl rfl ?_;refine .clsL (HpLe.refl _) (pick_mem [0, 1, 2, 3] rfl) ?_
   obtain ⟨u31, hu31, r32⟩ := bind_some r28; clear r28
   refine .callS (b1 := []) (b2 := [_, _, _, _]) (s1 := []) [_, _, _] [] .d2 rfl rfl Tryz.call80 rfl rfl (residue_Field_Add_c (G := G8) List.mem_cons_self  hu31) rfl (fun v33 bo so h34 => ?_)
   obtain ⟨rfl, rfl, rfl⟩ := h34
   refine .same (bl' := [_, _, _, _]) (sl' := []) rfl rfl rfl ?_;refine .store 0 [_] [_, _, _, _] .d2 rfl rfl rfl ty3 rfl rfl rfl rfl ?_;refine .draw_end ?_;refine .prune [] trivial ?_;refine .inBlock ?_
   refine .round_endX (u31) 3 rfl rfl r32 rfl rfl (fun F hF => List.mem_cons_of_mem _ hF) (by simp)
  ·intro q35 v89 hI hb36
   have r91 := hI; clear hI
   refine .prune [(7, _)] ⟨rfl, trivial⟩ ?_;refine .same (bl' := [(b3, .cells #[.int .i64 v89] 3 (0, 0)), (b2, .cells #[.int .i64 x2] 3 (0, 0)), (b1, .cells #[.int .i64 x0] 140 (0, 0)), _]) (sl' := [_]) (Fs' := G8 :: Fs) rfl rfl rfl ?_
   refine .mkmerge 3 rfl [_, _, _] rfl (fun mk37 => ?_)
   rw [List.drop_length] at r91; rw [residue_Field_Value_L2] at r91; try dsimp only at r91
   refine .inBlock ?_
   refine .prune _ ?_ (Cov.same rfl rfl rfl (hb73 (mk37, v89) r91))
   exact ⟨rfl, trivial⟩
theorem share_shares_c {Fs : List Hp} {G : Hp} {x0 : Int} {a1 : Option Addr} {k1 : Nat} {x1 : List Int} {a2 : Option Addr} {k2 : Nat} {x2 : List Int} {r : (List (Int × Int))} (hG : G ∈ Fs) (s1 : SlR (Rep.int .i64) G a1 k1 x1) (s2 : SlR (Rep.int .i64) G a2 k2 x2) (h : share_shares x0 x1 x2 = some r) : RetS Tryz.prog 145 #[.int .i64 x0, .slice a1 x1.length k1, .slice a2 x2.length k2] Fs [] [] (fun v bo so => ∃ (oa0 : Option Addr) (ok0 : Nat) (oc0 : List Value), v = .slice oa0 r.length ok0 ∧ bo = [] ∧ so = [.s (.slice oa0 r.length ok0) 168 2 r.length oc0] ∧ OL (Rep.pair (Rep.int .i64) (Rep.int .i64)) G oc0 r) := by
 unfold share_shares at h
 try dsimp only at h
 refine RetS.of (vs := [_, _, _]) Tryz.func145 rfl Tryz.ntmps145 [(0, _), (1, _), (2, _)] ⟨rfl, rfl, rfl, trivial⟩ rfl hG fun w0 S0 hS0 B0 => ?_
 refine .seq ?_;refine .region rfl ?_;refine .av rfl rfl ?_;refine .re ?_;refine .seq ?_;refine .region rfl ?_;refine .av rfl rfl ?_;refine .re ?_;refine .seq ?_
 refine .seq ?_;refine .region rfl ?_;refine .mv rfl rfl ?_;refine .q .ro (.len_sl rfl rfl sl22) rfl ?_;refine .mv rfl rfl ?_;refine .re ?_;refine .block ?_;refine .own_nil 168 2 ?_
 refine .loop2 (α := Nat × List Int × (List (Int × Int)) × Option Addr × Nat × List Value) (fun y => [(7, .slice y.2.2.2.1 y.2.2.1.length y.2.2.2.2.1), (12, .int .i64 (y.1 : Int))]) [(0, _), (1, _), (10, _), (11, _)] (fun y => []) (fun y => []) [] (fun y => [.s (.slice y.2.2.2.1 y.2.2.1.length y.2.2.2.2.1) 168 2 y.2.2.1.length y.2.2.2.2.2]) [] (fun y => OL (Rep.pair (Rep.int .i64) (Rep.int .i64)) G y.2.2.2.2.2 y.2.2.1 ∧ List.drop y.1 x2 = y.2.1 ∧ share_shares_L1 x0 x1 y.2.1 y.2.2.1 = some r) (fun y => y.2.1.length) (0, x2, ([] : List (Int × Int)), none, 0, []) ⟨(OL.nil (Rp' := (Rep.pair (Rep.int .i64) (Rep.int .i64)))), rfl, h⟩ ⟨rfl, rfl, rfl, rfl, rfl, rfl, trivial⟩ rfl rfl rfl (fun y hI hb65 => ?_)
 obtain ⟨i55, w56, v58, a59, k60, cs61⟩ := y
 obtain ⟨o62, g57, r64⟩ := hI
 try dsimp only at o62 g57 r64
 refine .prune [(7, .slice a59 v58.length k60), (12, .int .i64 (i55 : Int)), (0, _), (1, _), (10, _), (11, _)] ⟨rfl, rfl, rfl, rfl, rfl, rfl, trivial⟩ ?_;refine .same (bl' := []) (sl' := [.s (.slice a59 v58.length k60) 168 2 v58.length cs61]) (Fs' := G :: Fs) rfl rfl rfl ?_
 cases w56 with
 | nil =>
  rw [share_shares_L1] at r64; try dsimp only at r64
  refine .seq ?_;refine .region rfl ?_;refine .q .ro (.lss rfl rfl) rfl ?_;refine .re ?_;refine .seq ?_
  refine .cond_dec rfl (fun c => absurd c (drop_nil g57)) (fun _ => ?_)
  refine .exit rfl ?_;refine .seq ?_;refine .region rfl ?_;refine .mv rfl rfl ?_;refine .av rfl rfl ?_;refine .re ?_
  cases r64
  refine .retS (c := ⟨145, none⟩) (.inr ⟨_, rfl⟩) [.tmp 6] [_] rfl Tryz.func145 Tryz.results145 ⟨RV.tmp rfl, trivial⟩ mcm ⟨a59, k60, cs61, rfl, rfl, rfl, o62⟩
 | cons x71 xs72 =>
  have r70 : share_shares_B1 x0 x1 (share_shares_L1 x0 x1 xs72) x71 v58 = some r := r64; clear r64; unfold share_shares_B1 at r70; try dsimp only at r70
  refine .seq ?_;refine .region rfl ?_;refine .q .ro (.lss rfl rfl) rfl ?_;refine .re ?_;refine .seq ?_
  refine .cond_dec rfl (fun _ => ?_) (fun c => absurd (drop_lt g57) c)
  refine .skip ?_;refine .seq ?_;refine .block ?_;refine .seq ?_;refine .region rfl ?_
  obtain ⟨c73, p74, h75⟩ := SlR.get s2 (drop_idx g57)
  obtain rfl := h75
  refine .q .ro (.idxR s2 rfl rfl (drop_idx g57) sl22 ty3.sz) rfl ?_;refine .q .ro (.load_rp p74 List.mem_cons_self rfl ty3 rfl) rfl ?_;refine .av rfl rfl ?_;refine .re ?_;refine .region rfl ?_;refine .mv rfl rfl ?_;refine .mv rfl rfl ?_;refine .mv rfl rfl ?_;refine .mv rfl rfl ?_
  refine .mv rfl rfl ?_
  obtain ⟨u76, hu76, r77⟩ := bind_some r70; clear r70
  refine .callS (b1 := []) (b2 := []) (s1 := []) [_, _, _] [] .ro rfl rfl Tryz.call79 rfl rfl (residue_Field_Value_c (G := G) List.mem_cons_self s1 hu76) rfl (fun v79 bo so h78 => ?_)
  obtain ⟨rfl, rfl, rfl⟩ := h78
  refine .same (bl' := []) (sl' := [_]) rfl rfl rfl ?_;refine .q .ro (.build [_, _] [(0, _), (1, _)] ty168 pl168 rfl rfl) rfl ?_
  refine .lit [_, _] [(0, _)] .ro sl81 ty168 rfl rfl rfl rfl rfl rfl (fun b80 hb80 => ?_)
  have o81 : OL (Rep.pair (Rep.int .i64) (Rep.int .i64)) G [.int .i64 x71, .int .i64 u76] ([(x71, u76)] : List (Int × Int)) := ((OL.cons rfl (Rep.pairI (Rep.intI .i64 x71) (Rep.intI .i64 u76)) (OL.nil (Rp' := (Rep.pair (Rep.int .i64) (Rep.int .i64))))) :)
  refine .reval 23 (n' := ([(x71, u76)] : List (Int × Int)).length) rfl rfl ?_
  obtain ⟨u87, hu87, r88⟩ := bind_some r77; clear r77
  refine .appO (Q := (Rep.pair (Rep.int .i64) (Rep.int .i64))) 0 .ro sl81 ty168 rfl rfl rfl rfl rfl rfl o62 o81 rfl rfl rfl B0 hu87 rfl (fun a83 k84 cs85 o86 => ?_)
  refine .av rfl rfl ?_;refine .re ?_;refine .prune [(7, _), (12, _), (0, _), (1, _), (10, _), (11, _)] ⟨rfl, rfl, rfl, rfl, rfl, rfl, trivial⟩ ?_;refine .inBlock ?_;refine .region rfl ?_;refine .q .ro (.addw rfl rfl) rfl ?_;refine .mv rfl rfl ?_;refine .re ?_
  refine .prune _ ?_ (Cov.same rfl rfl rfl (hb65 ((i55 + 1), xs72, u87, a83, k84, cs85) ⟨o86, (drop_succ g57), r88⟩ (Nat.lt_succ_self _)))
  exact ⟨rfl, (congrArg (fun z => some (Value.int .i64 z)) (idx_wrap (SlR.len s2) g57)), rfl, rfl, rfl, rfl, trivial⟩
theorem share_Split_c {Fs : List Hp} {G : Hp} {x0_0 : Int} {x1 : Int} {x2 : Int} {x3 : Int} {a4_0 : Option Addr} {k4_0 : Nat} {x4_0 : List Int} {x4_1 : Int} {r : ((List (Int × Int)) × ((List Int) × Int) × Int)} (hG : G ∈ Fs) (s4_0 : SlR (Rep.int .i64) G a4_0 k4_0 x4_0) (h : share_Split x0_0 x1 x2 x3 (x4_0, x4_1) = some r) : RetW Tryz.prog 112 #[.agg #[.int .i64 x0_0], .int .i64 x1, .int .i64 x2, .int .i64 x3, .agg #[.slice a4_0 x4_0.length k4_0, .int .i64 x4_1]] Fs [] [] (fun v bo so G => ∃ a0 : Option Addr, ∃ k0 : Nat, ∃ (oa0 : Option Addr) (ok0 : Nat) (oc0 : List Value), v = .tuple #[.slice oa0 r.1.length ok0, .agg #[.slice a0 r.2.1.1.length k0, .int .i64 r.2.1.2], .int .i64 r.2.2] ∧ bo = [] ∧ so = [.s (.slice oa0 r.1.length ok0) 168 2 r.1.length oc0] ∧ SlR (Rep.int .i64) G a0 k0 r.2.1.1 ∧ OL (Rep.pair (Rep.int .i64) (Rep.int .i64)) G oc0 r.1) := by
 unfold share_Split at h
 try dsimp only at h
 refine RetW.of (vs := [_, _, _, _, _]) Tryz.func112 rfl Tryz.ntmps112 [(0, _), (1, _), (2, _), (3, _), (4, _)] ⟨rfl, rfl, rfl, rfl, rfl, trivial⟩ rfl hG fun w0 S0 hS0 B0 => ?_
 refine .seq ?_;refine .region rfl ?_
 refine .box [_] .ro rfl rfl rfl (fun b1 hb1 => ?_)
 refine .box [_, _] .ro rfl rfl rfl (fun b2 hb2 => ?_)
 refine .av rfl rfl ?_
 refine .alloc .ro ty56 rfl (fun b3 hb3 => ?_)
 refine .av rfl rfl ?_;refine .re ?_;refine .seq ?_;refine .region rfl ?_;refine .q .ro (.load_own_a 2 [_] rfl rfl ty45 rfl) rfl ?_
 obtain ⟨u4, hu4, r5⟩ := bind_some h; clear h
 refine .callS (b1 := []) (b2 := [_, _, _]) (s1 := []) [_] [] .ro rfl rfl Tryz.call72 rfl rfl (residue_Of_c (G := G) List.mem_cons_self  hu4) rfl (fun v7 bo so h6 => ?_)
 obtain ⟨rfl, rfl, rfl⟩ := h6
 refine .same (bl' := [_, _, _]) (sl' := []) rfl rfl rfl ?_;refine .mv rfl rfl ?_;refine .q .ro (.extract rfl rfl) rfl ?_;refine .q .ro (.extract rfl rfl) rfl ?_;refine .av rfl rfl ?_;refine .av rfl rfl ?_;refine .re ?_;refine .seq ?_;refine .block ?_
 refine .seq ?_;refine .region rfl ?_;refine .mv rfl rfl ?_;refine .q .ro (.not rfl) rfl ?_;refine .mv rfl rfl ?_
 obtain ⟨u14, h15, r16⟩ := bind_some r5; clear r5
 refine .cutR 5 (β := Unit) (fun y => [(32, .bool u14)]) [(1, _), (2, _), (3, _), (5, _), (9, _), (11, _), (13, _)] (fun y => G :: Fs) (fun y => []) [_, _, _] (fun y => []) [] (fun y => True) ⟨rfl, rfl, rfl, rfl, rfl, rfl, rfl, trivial⟩ [0, 1, 2] rfl [] rfl ?_ ?_
 ·rintro _ _
  refine .prune [(32, .bool u14), (1, _), (2, _), (3, _), (5, _), (9, _), (11, _), (13, _)] ⟨rfl, rfl, rfl, rfl, rfl, rfl, rfl, rfl, trivial⟩ ?_;refine .same (bl' := [_, _, _]) (sl' := []) (Fs' := G :: Fs) rfl rfl rfl ?_;refine .av rfl rfl ?_;refine .re ?_
  refine .cond rfl (fun c19 => ?_) (fun c19 => ?_)
  ·have r20 := ifT r16 c19; clear r16
   refine .seq ?_;refine .region rfl ?_;refine .q .ro (.build [_, _] [] ty56 pl56 rfl rfl) rfl ?_;refine .av rfl rfl ?_;refine .store 0 [_, _] [_, _, _] .ro rfl rfl rfl ty56 rfl rfl rfl rfl ?_;refine .av rfl rfl ?_;refine .re ?_;refine .own_nil 168 2 ?_
   cases r20
   refine .retWD 3 (c := ⟨112, none⟩) (.inr ⟨_, rfl⟩) [.tmp 10, .cell 11 56, .tmp 12] [_, _, _] rfl Tryz.func112 Tryz.results112 ⟨RV.tmp rfl, RV.cell_a 0 [_, _] rfl rfl ty56 rfl, RV.tmp rfl, trivial⟩ mcm List.mem_cons_self B0 (by subst hS0; simp [blks]) (fun G' hg => ⟨none, 0, none, 0, [], rfl, rfl, rfl, (SlR.mono hg (SlR.nil (Rp' := (Rep.int .i64)))), (OL.mono hg (OL.nil (Rp' := (Rep.pair (Rep.int .i64) (Rep.int .i64)))))⟩)
  ·have r22 := ifBF r16 c19; clear r16
   refine .seq ?_;refine .region rfl ?_;refine .mv rfl rfl ?_
   obtain ⟨u23, hu23, r24⟩ := bind_some r22; clear r22
   refine .callS (b1 := []) (b2 := [_, _, _]) (s1 := []) [_] [] .ro rfl rfl Tryz.call144 rfl rfl (share_threshold_c (G := G) List.mem_cons_self  hu23) rfl (fun v26 bo so h25 => ?_)
   obtain ⟨rfl, rfl, rfl⟩ := h25
   refine .same (bl' := [_, _, _]) (sl' := []) rfl rfl rfl ?_;refine .q .ro (.not rfl) rfl ?_;refine .mv rfl rfl ?_;refine .cutR 3 (β := Unit) (fun y => [(41, .bool (decide (((!u23) = true) ∨ (x3 < 1))))]) [(1, _), (2, _), (3, _), (5, _), (9, _), (11, _), (13, _)] (fun y => G :: Fs) (fun y => []) [_, _, _] (fun y => []) [] (fun y => True) ⟨rfl, rfl, rfl, rfl, rfl, rfl, rfl, trivial⟩ [0, 1, 2] rfl [] rfl ?_ ?_
   ·rintro _ _
    refine .prune [(41, .bool (decide (((!u23) = true) ∨ (x3 < 1)))), (1, _), (2, _), (3, _), (5, _), (9, _), (11, _), (13, _)] ⟨rfl, rfl, rfl, rfl, rfl, rfl, rfl, rfl, trivial⟩ ?_;refine .same (bl' := [_, _, _]) (sl' := []) (Fs' := G :: Fs) rfl rfl rfl ?_;refine .mv rfl rfl ?_;refine .cutR 5 (β := Unit) (fun y => [(47, .bool (decide ((((!u23) = true) ∨ (x3 < 1)) ∨ (x0_0 ≤ x3))))]) [(1, _), (2, _), (3, _), (5, _), (9, _), (11, _), (13, _)] (fun y => G :: Fs) (fun y => []) [_, _, _] (fun y => []) [] (fun y => True) ⟨rfl, rfl, rfl, rfl, rfl, rfl, rfl, trivial⟩ [0, 1, 2] rfl [] rfl ?_ ?_
    ·rintro _ _
     refine .prune [(47, .bool (decide ((((!u23) = true) ∨ (x3 < 1)) ∨ (x0_0 ≤ x3)))), (1, _), (2, _), (3, _), (5, _), (9, _), (11, _), (13, _)] ⟨rfl, rfl, rfl, rfl, rfl, rfl, rfl, rfl, trivial⟩ ?_;refine .same (bl' := [_, _, _]) (sl' := []) (Fs' := G :: Fs) rfl rfl rfl ?_;refine .mv rfl rfl ?_;refine .cutR 3 (β := Unit) (fun y => [(51, .bool (decide (((((!u23) = true) ∨ (x3 < 1)) ∨ (x0_0 ≤ x3)) ∨ (512 < x3))))]) [(1, _), (2, _), (3, _), (5, _), (9, _), (11, _), (13, _)] (fun y => G :: Fs) (fun y => []) [_, _, _] (fun y => []) [] (fun y => True) ⟨rfl, rfl, rfl, rfl, rfl, rfl, rfl, trivial⟩ [0, 1, 2] rfl [] rfl ?_ ?_
     ·rintro _ _
      refine .prune [(51, .bool (decide (((((!u23) = true) ∨ (x3 < 1)) ∨ (x0_0 ≤ x3)) ∨ (512 < x3)))), (1, _), (2, _), (3, _), (5, _), (9, _), (11, _), (13, _)] ⟨rfl, rfl, rfl, rfl, rfl, rfl, rfl, rfl, trivial⟩ ?_;refine .same (bl' := [_, _, _]) (sl' := []) (Fs' := G :: Fs) rfl rfl rfl ?_;refine .av rfl rfl ?_;refine .re ?_
      refine .cond_dec rfl (fun c39 => ?_) (fun c39 => ?_)
      ·have r40 := ifT r24 c39; clear r24
       refine .seq ?_;refine .region rfl ?_;refine .q .ro (.build [_, _] [] ty56 pl56 rfl rfl) rfl ?_;refine .av rfl rfl ?_;refine .store 0 [_, _] [_, _, _] .ro rfl rfl rfl ty56 rfl rfl rfl rfl ?_;refine .av rfl rfl ?_;refine .re ?_;refine .own_nil 168 2 ?_
       cases r40
       refine .retWD 3 (c := ⟨112, none⟩) (.inr ⟨_, rfl⟩) [.tmp 10, .cell 11 56, .tmp 12] [_, _, _] rfl Tryz.func112 Tryz.results112 ⟨RV.tmp rfl, RV.cell_a 0 [_, _] rfl rfl ty56 rfl, RV.tmp rfl, trivial⟩ mcm List.mem_cons_self B0 (by subst hS0; simp [blks]) (fun G' hg => ⟨none, 0, none, 0, [], rfl, rfl, rfl, (SlR.mono hg (SlR.nil (Rp' := (Rep.int .i64)))), (OL.mono hg (OL.nil (Rp' := (Rep.pair (Rep.int .i64) (Rep.int .i64)))))⟩)
      ·have r42 := ifF r24 c39; clear r24
       refine .skip ?_;refine .inBlock ?_;refine .seq ?_;refine .region rfl ?_;refine .q .ro (.load_own_a 1 [_, _] rfl rfl ty56 rfl) rfl ?_;refine .q .ro (.fieldAddr 0 rfl fl45_0 ty3.sz rfl) rfl ?_;refine .q .ro (.load_own 2 rfl rfl ty3 rfl) rfl ?_;refine .mv rfl rfl ?_
       obtain ⟨u43, hu43, r44⟩ := bind_some r42; clear r42
       refine .callW (b1 := []) (b2 := [_, _, _]) (s1 := []) [_, _, _] [] .ro rfl rfl Tryz.call65 rfl rfl (tape_Draws_c (G := G) List.mem_cons_self s4_0 hu43) rfl B0 (fun v46 bo so G47 e48 B49 h45 => ?_)
       obtain ⟨a51, k52, a55, k56, cs57, rfl, rfl, rfl, s53, o58⟩ := h45
       refine .same (bl' := [_, _, _]) (sl' := [_]) rfl rfl rfl ?_;refine .mv rfl rfl ?_;refine .q .ro (.extract rfl rfl) rfl ?_;refine .q .ro (.extract rfl rfl) rfl ?_;refine .q .ro (.extract rfl rfl) rfl ?_;refine .store 1 [_, _] [_, _, _] .ro rfl rfl rfl ty56 rfl rfl rfl rfl ?_;refine .av rfl rfl ?_;refine .av rfl rfl ?_;refine .re ?_
       refine .prune [(1, _), (3, _), (9, _), (11, _), (13, _), (15, _), (16, _)] ⟨rfl, rfl, rfl, rfl, rfl, rfl, rfl, trivial⟩ ?_;refine .seq ?_;refine .seq ?_;refine .region rfl ?_;refine .mv rfl rfl ?_;refine .q .ro (.neq rfl rfl) rfl ?_;refine .re ?_
       refine .cond_dec rfl (fun c59 => ?_) (fun c59 => ?_)
       ·have r60 := ifT r44 c59; clear r44
        refine .seq ?_;refine .region rfl ?_;refine .q .ro (.build [_, _] [] ty56 pl56 rfl rfl) rfl ?_;refine .mv rfl rfl ?_;refine .av rfl rfl ?_;refine .store 0 [_, _] [_, _, _] .ro rfl rfl rfl ty56 rfl rfl rfl rfl ?_;refine .av rfl rfl ?_;refine .re ?_;refine .own_nil 168 2 ?_
        cases r60
        refine .pullS 1 rfl [_, _] rfl ?_;refine .drop 0 1 _ [_] rfl rfl ?_
        refine .retWD 3 (c := ⟨112, none⟩) (.inr ⟨_, rfl⟩) [.tmp 10, .cell 11 56, .tmp 12] [_, _, _] rfl Tryz.func112 Tryz.results112 ⟨RV.tmp rfl, RV.cell_a 0 [_, _] rfl rfl ty56 rfl, RV.tmp rfl, trivial⟩ mcm List.mem_cons_self B49 (by subst hS0; simp [blks]) (fun G' hg => ⟨none, 0, none, 0, [], rfl, rfl, rfl, (SlR.mono hg (SlR.nil (Rp' := (Rep.int .i64)))), (OL.mono hg (OL.nil (Rp' := (Rep.pair (Rep.int .i64) (Rep.int .i64)))))⟩)
       ·have r62 := ifF r44 c59; clear r44
        refine .skip ?_;refine .seq ?_;refine .region rfl ?_;refine .av rfl rfl ?_;refine .re ?_;refine .seq ?_;refine .seq ?_;refine .region rfl ?_;refine .mv rfl rfl ?_
        refine .mv rfl rfl ?_;refine .re ?_;refine .cutB (β := List Int × Option Addr × Nat × List Value × Int × Int × Int) (fun y => [(17, .slice y.2.1 y.1.length y.2.2.1)]) [(1, _), (9, _), (11, _), (13, _), (15, _)] (fun y => G47 :: Fs) (fun y => [(b3, .cells #[.slice none 0 0, .int .i64 y.2.2.2.2.1] 56 (0, 0)), (b2, .cells #[.slice a51 u43.1.1.length k52, .int .i64 y.2.2.2.2.2.1] 56 (0, 0)), (b1, .cells #[.int .i64 y.2.2.2.2.2.2] 45 (0, 0))]) [] (fun y => [.s (.slice y.2.1 y.1.length y.2.2.1) 3 1 y.1.length y.2.2.2.1]) [_] (fun y => OL (Rep.int .i64) G47 y.2.2.2.1 y.1 ∧ (share_Split_J1 x1 u4.1 u43.1.1 u43.2.1) y.1 y.2.2.2.2.1 y.2.2.2.2.2.1 y.2.2.2.2.2.2 = some r) ⟨rfl, rfl, rfl, rfl, rfl, trivial⟩ [] rfl [0] rfl ?_ ?_
        ·intro y hI
         obtain ⟨v10, a11, k17, cs18, v21, v29, v30⟩ := y
         obtain ⟨o33, r34⟩ := hI
         try dsimp only at o33 r34
         refine .prune [(17, .slice a11 v10.length k17), (1, _), (9, _), (11, _), (13, _), (15, _)] ⟨rfl, rfl, rfl, rfl, rfl, rfl, trivial⟩ ?_;refine .same (bl' := [(b3, .cells #[.slice none 0 0, .int .i64 v21] 56 (0, 0)), (b2, .cells #[.slice a51 u43.1.1.length k52, .int .i64 v29] 56 (0, 0)), (b1, .cells #[.int .i64 v30] 45 (0, 0))]) (sl' := [.s (.slice a11 v10.length k17) 3 1 v10.length cs18, _]) (Fs' := G47 :: Fs) rfl rfl rfl ?_
         unfold share_Split_J1 at r34
         try dsimp only at r34
         refine .seq ?_
         refine .freezeR 1 rfl rfl o58 [_] rfl B49 (fun G37 e38 B41 s50 => ?_)
         refine .freezeR 0 rfl rfl (OL.mono e38 o33) [] rfl B41 (fun G54 e61 B63 s66 => ?_)
         refine .drawL (.q 0 (.q 1 (.q 3 (.q 5 (.q 7 (.e 2 1 (.e 4 1 (.e 6 1 (.q 8 (.e 9 1 (.q 10 .nil))))))))))) [_, _] (by kernel_rfl) (by kernel_rfl) (pick_mem [1, 2] rfl) ?_;refine .dq (.move rfl) rfl ?_;refine .dq (.move rfl) rfl ?_;refine .dq (.move rfl) rfl ?_;refine .dq (.move rfl) rfl ?_;refine .dq (.load_own_a 0 [_, _] rfl rfl ty56 rfl) rfl ?_
         refine .lit [_] [(0, _)] .d1 sl22 ty3 rfl rfl rfl rfl rfl rfl (fun b67 hb67 => ?_)
         have o68 : OL (Rep.int .i64) G54 [.int .i64 x1] ([x1] : List Int) := ((OL.cons rfl (Rep.intI .i64 x1) (OL.nil (Rp' := (Rep.int .i64)))) :)
         refine .reval 78 (n' := ([x1] : List Int).length) rfl rfl ?_;refine .clsL (HpLe.refl _) (pick_mem [1, 2] rfl) ?_
         obtain ⟨u69, hu69, r70⟩ := bind_some r34; clear r34
         refine .appR (Q := (Rep.int .i64)) 0 .d1 sl22 ty3 rfl rfl rfl rfl rfl o68 rfl rfl (SlR.mono e61 s50) rfl List.mem_cons_self hu69 rfl (fun a71 k73 cs74 o75 => ?_)
         refine .clsL (HpLe.refl _) (pick_mem [1, 2] rfl) ?_
         refine .freezeR 0 rfl rfl o75 [] rfl B63 (fun G76 e77 B78 s79 => ?_)
         obtain ⟨u80, hu80, r81⟩ := bind_some r70; clear r70
         refine .callS (b1 := []) (b2 := [_, _, _]) (s1 := []) [_, _, _] [] .d1 rfl rfl Tryz.call145 rfl rfl (share_shares_c (G := G76) List.mem_cons_self s79 (SlR.mono e77 s66) hu80) rfl (fun v82 bo so h83 => ?_)
         obtain ⟨a84, k85, cs86, rfl, rfl, rfl, o87⟩ := h83
         refine .same (bl' := [_, _, _]) (sl' := [_]) rfl rfl rfl ?_;refine .clsL e77 (pick_mem [1, 2] rfl) ?_;refine .dq (.assign rfl) rfl ?_;refine .store 0 [_, _] [_, _, _] .d1 rfl rfl rfl ty56 rfl rfl rfl rfl ?_;refine .clsL e77 (pick_mem [1, 2] rfl) ?_;refine .dq (.assign rfl) rfl ?_;refine .draw_end ?_;refine .prune [(11, _), (10, _), (12, _)] ⟨rfl, rfl, rfl, trivial⟩ ?_
         cases r81
         refine .retWD 3 (c := ⟨112, none⟩) (.inr ⟨_, rfl⟩) [.tmp 10, .cell 11 56, .tmp 12] [_, _, _] rfl Tryz.func112 Tryz.results112 ⟨RV.tmp rfl, RV.cell_a 0 [_, _] rfl rfl ty56 rfl, RV.tmp rfl, trivial⟩ mcm List.mem_cons_self B78 (by subst hS0; simp [blks]) (fun G' hg => ⟨a51, k52, a84, k85, cs86, rfl, rfl, rfl, (SlR.mono hg (SlR.mono (HpLe.trans (HpLe.trans e38 e61) e77) s53)), (OL.mono hg o87)⟩)
        ·intro hb88
         refine .block ?_;refine .own_nil 3 1 ?_
         refine .loop2 (α := Nat × List Int × Option Addr × Nat × List Value × Int) (fun y => [(17, .slice y.2.2.1 y.2.1.length y.2.2.2.1), (67, .int .i64 y.2.2.2.2.2)]) [(1, _), (9, _), (11, _), (13, _), (15, _), (66, _)] (fun y => []) (fun y => []) [_, _, _] (fun y => [.s (.slice y.2.2.1 y.2.1.length y.2.2.2.1) 3 1 y.2.1.length y.2.2.2.2.1]) [_] (fun y => OL (Rep.int .i64) G47 y.2.2.2.2.1 y.2.1 ∧ share_Split_L2 (share_Split_J1 x1 u4.1 u43.1.1 u43.2.1) x3 u43.1.2 x0_0 y.1 y.2.1 y.2.2.2.2.2 = some r) (fun y => y.1) (big, ([] : List Int), none, 0, [], 0) ⟨(OL.nil (Rp' := (Rep.int .i64))), r62⟩ ⟨rfl, rfl, rfl, rfl, rfl, rfl, rfl, rfl, trivial⟩ rfl rfl rfl (fun y hI hb89 => ?_)
         obtain ⟨n90, v91, a92, k93, cs94, v95⟩ := y
         obtain ⟨o96, r97⟩ := hI
         try dsimp only at o96 r97
         refine .prune [(17, .slice a92 v91.length k93), (67, .int .i64 v95), (1, _), (9, _), (11, _), (13, _), (15, _), (66, _)] ⟨rfl, rfl, rfl, rfl, rfl, rfl, rfl, rfl, trivial⟩ ?_;refine .same (bl' := [_, _, _]) (sl' := [.s (.slice a92 v91.length k93) 3 1 v91.length cs94, _]) (Fs' := G47 :: Fs) rfl rfl rfl ?_
         obtain ⟨m98, rfl⟩ : ∃ m, n90 = m + 1 := by cases n90 with | zero => exact absurd (show (none : Option _) = some _ from r97) (by simp) | succ m => exact ⟨m, rfl⟩
         have r99 : share_Split_B2 (share_Split_J1 x1 u4.1 u43.1.1 u43.2.1) x3 u43.1.2 x0_0 (share_Split_L2 (share_Split_J1 x1 u4.1 u43.1.1 u43.2.1) x3 u43.1.2 x0_0 m98) v91 v95 = some r := r97; clear r97; unfold share_Split_B2 at r99; try dsimp only at r99
         refine .seq ?_;refine .region rfl ?_;refine .q .ro (.lss rfl rfl) rfl ?_;refine .re ?_;refine .seq ?_
         refine .cond_dec rfl (fun c100 => ?_) (fun c100 => ?_)
         ·have r101 := ifT r99 c100; clear r99
          refine .skip ?_;refine .seq ?_;refine .block ?_;refine .seq ?_;refine .region rfl ?_;refine .mv rfl rfl ?_;refine .av rfl rfl ?_;refine .re ?_;refine .region rfl ?_
          refine .mv rfl rfl ?_;refine .mv rfl rfl ?_;refine .q .ro (.addw rfl rfl) rfl ?_
          refine .lit [_] [(0, _)] .ro sl22 ty3 rfl rfl rfl rfl rfl rfl (fun b102 hb102 => ?_)
          have o103 : OL (Rep.int .i64) G47 [.int .i64 (w64 (v95 + 1))] ([(w64 (v95 + 1))] : List Int) := ((OL.cons rfl (Rep.intI .i64 (w64 (v95 + 1))) (OL.nil (Rp' := (Rep.int .i64)))) :)
          refine .reval 73 (n' := ([(w64 (v95 + 1))] : List Int).length) rfl rfl ?_
          obtain ⟨u104, hu104, r105⟩ := bind_some r101; clear r101
          refine .appO (Q := (Rep.int .i64)) 0 .ro sl22 ty3 rfl rfl rfl rfl rfl rfl o96 o103 rfl rfl rfl B49 hu104 rfl (fun a106 k107 cs108 o109 => ?_)
          refine .av rfl rfl ?_;refine .re ?_;refine .inBlock ?_;refine .region rfl ?_;refine .q .ro (.addw rfl rfl) rfl ?_;refine .mv rfl rfl ?_;refine .re ?_
          refine .prune _ ?_ (Cov.same rfl rfl rfl (hb89 (m98, u104, a106, k107, cs108, (w64 (v95 + 1))) ⟨o109, r105⟩ (Nat.lt_succ_self _)))
          exact ⟨rfl, rfl, rfl, rfl, rfl, rfl, rfl, rfl, trivial⟩
         ·have r110 := ifF r99 c100; clear r99
          refine .exit rfl ?_
          refine .prune _ ?_ (Cov.same rfl rfl rfl (hb88 (v91, a92, k93, cs94, 0, u43.1.2, x0_0) ⟨o96, r110⟩))
          exact ⟨rfl, rfl, rfl, rfl, rfl, rfl, trivial⟩
     ·intro hb36
      refine .split 48 rfl (fun c35 => ?_) (fun c35 => ?_)
      ·refine .g_off rfl rfl rfl ?_
       refine .g_off rfl rfl rfl ?_;refine .q .ro (.pick_t rfl rfl) rfl ?_
       refine .prune _ ?_ (Cov.same rfl rfl rfl (hb36 () trivial))
       exact ⟨dor_t c35, rfl, rfl, rfl, rfl, rfl, rfl, rfl, trivial⟩
      ·refine .g_on rfl ?_
       refine .mv rfl rfl ?_;refine .g_on rfl ?_;refine .q .ro (.gtr rfl rfl) rfl ?_;refine .q .ro (.pick_f rfl rfl) rfl ?_
       refine .prune _ ?_ (Cov.same rfl rfl rfl (hb36 () trivial))
       exact ⟨dor_f c35, rfl, rfl, rfl, rfl, rfl, rfl, rfl, trivial⟩
    ·intro hb32
     refine .split 42 rfl (fun c31 => ?_) (fun c31 => ?_)
     ·refine .g_off rfl rfl rfl ?_
      refine .g_off rfl rfl rfl ?_;refine .g_off rfl rfl rfl ?_;refine .g_off rfl rfl rfl ?_;refine .q .ro (.pick_t rfl rfl) rfl ?_
      refine .prune _ ?_ (Cov.same rfl rfl rfl (hb32 () trivial))
      exact ⟨dor_t c31, rfl, rfl, rfl, rfl, rfl, rfl, rfl, trivial⟩
     ·refine .g_on rfl ?_
      refine .mv rfl rfl ?_;refine .g_on rfl ?_;refine .q .ro (.fieldAddr 0 rfl fl45_0 ty3.sz rfl) rfl ?_;refine .g_on rfl ?_;refine .q .ro (.load_own 2 rfl rfl ty3 rfl) rfl ?_;refine .g_on rfl ?_;refine .q .ro (.geq rfl rfl) rfl ?_;refine .q .ro (.pick_f rfl rfl) rfl ?_
      refine .prune _ ?_ (Cov.same rfl rfl rfl (hb32 () trivial))
      exact ⟨dor_f c31, rfl, rfl, rfl, rfl, rfl, rfl, rfl, trivial⟩
   ·intro hb28
    refine .split_b 38 rfl (fun c27 => ?_) (fun c27 => ?_)
    ·refine .g_off rfl rfl rfl ?_
     refine .g_off rfl rfl rfl ?_;refine .q .ro (.pick_t rfl rfl) rfl ?_
     refine .prune _ ?_ (Cov.same rfl rfl rfl (hb28 () trivial))
     exact ⟨dor_t c27, rfl, rfl, rfl, rfl, rfl, rfl, rfl, trivial⟩
    ·refine .g_on rfl ?_
     refine .mv rfl rfl ?_;refine .g_on rfl ?_;refine .q .ro (.lss rfl rfl) rfl ?_;refine .q .ro (.pick_f rfl rfl) rfl ?_
     refine .prune _ ?_ (Cov.same rfl rfl rfl (hb28 () trivial))
     exact ⟨dor_f (bne_of c27), rfl, rfl, rfl, rfl, rfl, rfl, rfl, trivial⟩
 ·intro hb13
  refine .split_b 27 rfl (fun c12 => ?_) (fun c12 => ?_)
  ·have r111 := ifT h15 c12
   refine .g_off rfl rfl rfl ?_;refine .g_off rfl rfl rfl ?_;refine .g_off rfl rfl rfl ?_;refine .g_off rfl rfl rfl ?_;refine .q .ro (.pick_t rfl rfl) rfl ?_
   refine .prune _ ?_ (Cov.same rfl rfl rfl (hb13 () trivial))
   exact ⟨sval r111, rfl, rfl, rfl, rfl, rfl, rfl, rfl, trivial⟩
  ·have r113 := ifBF h15 c12
   refine .g_on rfl ?_;refine .mv rfl rfl ?_;refine .g_on rfl ?_;refine .mv rfl rfl ?_;refine .g_on rfl ?_
   obtain ⟨u114, hu114, r115⟩ := bind_some r113; clear r113
   refine .callS (b1 := []) (b2 := [_, _, _]) (s1 := []) [_, _] [] .ro rfl rfl Tryz.call126 rfl rfl (residue_Field_Has_c (G := G) List.mem_cons_self  hu114) rfl (fun v116 bo so h117 => ?_)
   obtain ⟨rfl, rfl, rfl⟩ := h117
   refine .same (bl' := [_, _, _]) (sl' := []) rfl rfl rfl ?_;refine .g_on rfl ?_;refine .q .ro (.not rfl) rfl ?_;refine .q .ro (.pick_f rfl rfl) rfl ?_
   refine .prune _ ?_ (Cov.same rfl rfl rfl (hb13 () trivial))
   exact ⟨sval r115, rfl, rfl, rfl, rfl, rfl, rfl, rfl, trivial⟩
end Go.Proofs.YtfcicopgdahmcaaGreatDoor
end
