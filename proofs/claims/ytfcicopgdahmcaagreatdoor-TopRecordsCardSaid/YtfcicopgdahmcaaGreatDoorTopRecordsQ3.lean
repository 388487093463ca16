/- What the proof needs, gathered by wip/gen/shake.py. -/
import Derived.Calls
import Derived.Deep.Quiet
import Derived.Below
import Derived.Laws.AppendOwn
import Derived.WalkKit
import Derived.Laws.OwnMore
import Derived.Deep.Slices
import Derived.ChangeOld
import Derived.ArgAppend
import Derived.RangeFuncIn
import Derived.RangeFuncRecord
import Derived.RangeFuncLeaves
import Derived.Laws.MakeOwn
import Derived.IntWalk
import Derived.Laws.IdiomStrings
import Derived.Laws.Cover3
import Derived.Laws.CopyOwn
import Derived.MapKept
import Derived.RangeFuncNested
import Derived.Test.YtfcicopgdahmcaaGreatDoorRows
import Derived.LaidEql
import Derived.Stop.Asserts
import Derived.RowKitTokens
import Derived.Test.YtfcicopgdahmcaaGreatDoorCards
import Derived.LaidLaws
import Derived.Look8
import Derived.MakeChecks
import Derived.Test.YtfcicopgdahmcaaGreatDoorTie
import Derived.LaidMore
import Derived.Lay
import Derived.SevenTiedAt
import Derived.Stop.Joined
import Derived.ProofKit
import Derived.OpenShut
import Derived.ShutString
import Derived.Test.YtfcicopgdahmcaaGreatDoorTopRecordsQ2
set_option linter.unusedVariables false
set_option linter.unusedSimpArgs false
section
namespace Go.Proofs.YtfcicopgdahmcaaGreatDoor
open Go.RowKit
set_option linter.unusedVariables false
def HD (es : List NE) (i : Int) (h : Option Addr × Nat × Nat) : Prop := (es.map NE.h)[i.toNat]? = some h
theorem HD.mk {es : List NE} {i : Int} {e : NE} (he : es[i.toNat]? = some e) : HD es i e.h := by unfold HD; rw [List.getElem?_map, he]; rfl
theorem HD.of {es es' : List NE} {i : Int} {h : Option Addr × Nat × Nat} (hm : es'.map NE.h = es.map NE.h) (hd : HD es i h) : HD es' i h := by unfold HD; rw [hm]; exact hd
theorem Xi7 {i j : Int} {u : Unit} (h : lne i j = some u) : i ≠ j := by
  unfold lne at h
  split at h
  · cases h
  · assumption
theorem NL.getH {α : Type} {Q : Rep α} {G : Hp} {es : List NE} {cs : List Value} {x : List (List α)} (h : NL Q G es cs x) {i : Int} {y : List α} {e0 : NE} {n0 : Nat} (hx : lidx x i = some y) (hd : HD es i e0.h) (hn : e0.n = n0) :
    ∃ e, es[i.toNat]? = some e ∧ e.n = y.length ∧ OL Q G e.cs y ∧ Elem 1 cs i.toNat [.slice e.a y.length e.k] ∧ e.a = e0.a ∧ e.k = e0.k ∧ y.length = n0 := by
  obtain ⟨e, he, hn', ho, hel⟩ := h.get hx
  unfold HD at hd
  rw [List.getElem?_map, he] at hd
  simp only [Option.map_some, Option.some.injEq, NE.h, Prod.mk.injEq] at hd
  exact ⟨e, he, hn', ho, hel, hd.1, hd.2.2, by omega⟩
theorem NL.ne {es : List NE} {i j : Int} {e : NE} (he : es[j.toNat]? = some e) (hi : 0 ≤ i) (hj : 0 ≤ j) (hne : i ≠ j) : (es.set i.toNat NE.nil)[j.toNat]? = some e := by
  rw [List.getElem?_set_ne (by omega)]; exact he
theorem Xfw {α : Type} {l : List α} {i : Int} {x : α} (h : lidx l i = some x) : 0 ≤ i := (X21 h).1
section
variable {P : Program} {c : Cx} {R : Value → World → Prop} {nt : Nat} {w0 : World} {S0 : List Nat} {df : List Deferred} {ρ ρ' : Env} {Fs Fs' Fin B : List Hp} {bl bl' : Blks} {sl sl' : List OwnS}
  {K K' : Act → World → Prop} {k : List Item} {ty : TypeId} {G : Hp} {α : Type}
theorem Cov.backN2 (q1 q : Nat) {Q : Rep α} {oa : Option Addr} {om T0 T m : Nat} {x x' : List (List α)} {es : List NE} {cs ics : List Value} {i j : Int} {y : List α} {s2 : List OwnS} {e ej : NE} (hsl : sl = .s (.slice e.a y.length e.k) T m y.length ics :: s2) (h1 : s2[q1]? = some (.s (.slice oa x.length om) T0 1 x.length cs)) (h2 : s2[q]? = some (.g (packG T m ((es.set j.toNat NE.nil).set i.toNat NE.nil)))) (hN : NL Q G es cs x) (he : es[i.toNat]? = some e) (hej : es[j.toNat]? = some ej) (hi : 0 ≤ i) (hj : 0 ≤ j) (hne : i ≠ j) (hn : y.length = e.n) (ho : OL Q G ics y) (hl : lupd x i y = some x')
    (hk : ∀ es', x'.length = x.length → NL Q G es' cs x' → es'.map NE.h = es.map NE.h → es'[j.toNat]? = some ej → Cov nt w0 S0 df ρ Fs bl ((s2.set q1 (.s (.slice oa x'.length om) T0 1 x'.length cs)).set q (.g (packG T m (es'.set j.toNat NE.nil)))) K) : Cov nt w0 S0 df ρ Fs bl sl K := by
  have hij : i.toNat ≠ j.toNat := by omega
  refine Cov.putN q hsl h2 (NL.hole (e := e) (by rw [List.getElem?_set_ne hij.symm]; exact he)) ?_
  have hlen : x'.length = x.length := by obtain ⟨_, _, rfl⟩ := X4h hl; simp
  have hsame : (es.map NE.h).set i.toNat (NE.h ⟨e.a, y.length, e.k, ics⟩) = es.map NE.h := by
    have h3 : (es.map NE.h)[i.toNat]? = some (NE.h ⟨e.a, y.length, e.k, ics⟩) := by rw [List.getElem?_map, he]; simp [NE.h, hn]
    obtain ⟨hlt, h4⟩ := List.getElem?_eq_some_iff.1 h3
    rw [← h4]; exact List.set_getElem_self hlt
  have hN' : NL Q G (es.set i.toNat ⟨e.a, y.length, e.k, ics⟩) cs x' := hN.set hl rfl ho (by rw [hsame]; exact hN.1)
  have hk' := hk _ hlen hN' (by rw [List.map_set]; exact hsame) (by rw [List.getElem?_set_ne hij]; exact hej)
  have hs : s2.set q1 (.s (.slice oa x'.length om) T0 1 x'.length cs) = s2 := by
    obtain ⟨hlt, h4⟩ := List.getElem?_eq_some_iff.1 h1
    rw [hlen, ← h4]; exact List.set_getElem_self hlt
  rw [hs] at hk'
  rw [List.set_set, List.set_comm _ _ hij.symm]
  exact hk'
theorem Cov.swap1 (q1 : Nat) {Q : Rep α} {oa : Option Addr} {om T0 : Nat} {x : List (List α)} {es : List NE} {cs : List Value} {i : Int} {yi yj : List α} {t : TypeId} {px u : Operand} {p : Value} {agg : Bool} {bytes : Nat} {z : List Value} {ej : NE} (hs : Stp P K' ⟨none, .store t px u, ty, none⟩ K)
    (h1 : sl[q1]? = some (.s (.slice oa x.length om) T0 1 x.length cs)) (hN : NL Q G es cs x) (hi : lidx x i = some yi) (hnj : ej.n = yj.length)
    (hx : ev ρ px = some p) (hp : PtrO p oa x.length om i.toNat 1 0) (hu : ev ρ u = some (.slice ej.a yj.length ej.k)) (ht : TyI P t agg 1 bytes z)
    (hk : ∀ cs', OL Rep.hdr G cs' ((es.map NE.h).set i.toNat ej.h) → Cov nt w0 S0 df ρ Fs bl (sl.set q1 (.s (.slice oa x.length om) T0 1 x.length cs')) K) : Cov nt w0 S0 df ρ Fs bl sl K' := by
  obtain ⟨e, he, hn', ho, hel⟩ := hN.get hi
  obtain ⟨hi0, hil, _⟩ := X21 hi
  have e1 : x.length = (es.map NE.h).length := by rw [List.length_map, hN.2.1]
  refine Cov.storeR q1 0 (Q := Rep.hdr) (y := ej.h) (l := es.map NE.h) (l' := (es.map NE.h).set i.toNat ej.h) (sz := 1) hs (by rw [h1, e1]) rfl hN.1 ?_ hx (by rw [← e1]; exact hp) hu ht hel ?_ rfl rfl fun cs' hll ho' => ?_
  · unfold lupd
    rw [if_pos ⟨hi0, by rw [← e1]; exact hil⟩]
  · show _ = [_]
    simp [cellsL, Value.cells, NE.h, hnj]
  · have hk' := hk _ ho'
    rw [List.length_set, ← e1]
    exact hk'
theorem Xj8 {T : TypeId} {m : Nat} {es : List NE} {i j : Nat} {ei ej : NE} (hi : es[i]? = some ei) (hj : es[j]? = some ej) : (nblks T m ((es.set i ej).set j ei)).Perm (nblks T m es) := by
  by_cases hij : i = j
  · subst hij
    rw [hi] at hj
    obtain rfl := Option.some.inj hj
    obtain ⟨hlt, h4⟩ := List.getElem?_eq_some_iff.1 hi
    rw [List.set_set, ← h4, List.set_getElem_self]
  · have h1 := Xbh T m es i ei ej hi
    have h2 := Xbh T m (es.set i ej) j ej ei (by rw [List.getElem?_set_ne hij]; exact hj)
    have h3 : (nblks T m ((es.set i ej).set j ei) ++ (ej.s T m).blocks).Perm (nblks T m es ++ (ej.s T m).blocks) :=
      h2.trans (List.perm_append_comm.trans (h1.trans List.perm_append_comm))
    exact (List.perm_append_right_iff _).1 h3
theorem Cov.swap2 (q1 q2 : Nat) {Q : Rep α} {oa : Option Addr} {om T0 T m : Nat} {x x1 x' : List (List α)} {es : List NE} {cs0 cs : List Value} {i j : Int} {yi yj : List α} {t : TypeId} {px u : Operand} {p : Value} {agg : Bool} {bytes : Nat} {z : List Value} {ei ej : NE} (hs : Stp P K' ⟨none, .store t px u, ty, none⟩ K)
    (h1 : sl[q1]? = some (.s (.slice oa x.length om) T0 1 x.length cs)) (h2 : sl[q2]? = some (.g (packG T m es))) (hN : NL Q G es cs0 x) (hH : OL Rep.hdr G cs ((es.map NE.h).set i.toNat ej.h)) (hi : lidx x i = some yi) (hj : lidx x j = some yj) (hei : es[i.toNat]? = some ei) (hej : es[j.toNat]? = some ej) (hni : ei.n = yi.length) (hl1 : lupd x i yj = some x1) (hl2 : lupd x1 j yi = some x')
    (hx : ev ρ px = some p) (hp : PtrO p oa x.length om j.toNat 1 0) (hu : ev ρ u = some (.slice ei.a yi.length ei.k)) (ht : TyI P t agg 1 bytes z) (hq : (q1 == q2) = false)
    (hk : ∀ es' cs', x'.length = x.length → NL Q G es' cs' x' → Cov nt w0 S0 df ρ Fs bl ((sl.set q1 (.s (.slice oa x'.length om) T0 1 x'.length cs')).set q2 (.g (packG T m es'))) K) : Cov nt w0 S0 df ρ Fs bl sl K' := by
  obtain ⟨hi0, hil, hiy⟩ := X21 hi
  obtain ⟨hj0, hjl, hjy⟩ := X21 hj
  obtain ⟨_, _, rfl⟩ := X4h hl1
  obtain ⟨_, _, rfl⟩ := X4h hl2
  have hq' : q1 ≠ q2 := by simpa using hq
  have e1 : x.length = ((es.map NE.h).set i.toNat ej.h).length := by rw [List.length_set, List.length_map, hN.2.1]
  have hlen : ((x.set i.toNat yj).set j.toNat yi).length = x.length := by simp
  have hdj : ∃ h, ((es.map NE.h).set i.toNat ej.h)[j.toNat]? = some h := ⟨_, List.getElem?_eq_getElem (by rw [← e1]; omega)⟩
  obtain ⟨hj', hdj⟩ := hdj
  obtain ⟨c, hc1, hc2⟩ := hH.get (i := j) (x := hj') (by unfold lidx; rw [if_pos hj0]; exact hdj)
  refine Cov.storeR q1 0 (Q := Rep.hdr) (y := ei.h) (l := (es.map NE.h).set i.toNat ej.h) (l' := ((es.map NE.h).set i.toNat ej.h).set j.toNat ei.h) (sz := 1) hs (by rw [h1, e1]) rfl hH ?_ hx (by rw [← e1]; exact hp) hu ht hc1 ?_ rfl rfl fun cs' hll ho' => ?_
  · unfold lupd
    rw [if_pos ⟨hj0, by rw [← e1]; exact hjl⟩]
  · have hcl : c.length = 1 := Rep.hdr.len hc2
    show _ = [_]
    obtain ⟨v, rfl⟩ : ∃ v, c = [v] := by
      match c, hcl with
      | [v], _ => exact ⟨v, rfl⟩
    simp [cellsL, Value.cells, NE.h, hni]
  · have hl2' : (((es.map NE.h).set i.toNat ej.h).set j.toNat ei.h).length = ((x.set i.toNat yj).set j.toNat yi).length := by simp [hN.2.1]
    rw [hl2']
    have hN' : NL Q G ((es.set i.toNat ej).set j.toNat ei) cs' ((x.set i.toNat yj).set j.toNat yi) := by
      refine ⟨by rw [List.map_set, List.map_set]; exact ho', by simp [hN.2.1], fun n e y h3 h4 => ?_⟩
      rw [List.getElem?_set] at h3 h4
      by_cases hnj : j.toNat = n
      · have hel : j.toNat < es.length := by rw [hN.2.1]; omega
        rw [if_pos hnj, if_pos (by simp; omega)] at h3 h4
        cases h3; cases h4
        exact hN.2.2 _ _ _ hei hiy
      · rw [if_neg hnj] at h3 h4
        rw [List.getElem?_set] at h3 h4
        by_cases hni' : i.toNat = n
        · have hel : i.toNat < es.length := by rw [hN.2.1]; omega
          rw [if_pos hni', if_pos (by omega)] at h3 h4
          cases h3; cases h4
          exact hN.2.2 _ _ _ hej hjy
        · rw [if_neg hni'] at h3 h4
          exact hN.2.2 _ _ _ h3 h4
    intro aa w hfi hinv
    have h2' : (sl.set q1 (.s (.slice oa ((x.set i.toNat yj).set j.toNat yi).length om) T0 1 ((x.set i.toNat yj).set j.toNat yi).length cs'))[q2]? = some (.g (packG T m es)) := by rw [List.getElem?_set_ne hq']; exact h2
    have hh : (packG T m es).holds w := hinv.mem.slh _ (List.mem_of_getElem? h2')
    have hp := Xj8 (T := T) (m := m) hei hej
    have hnd' := hp.nodup_iff.2 hh.1
    have hb1 : (packG T m es).blks = nblks T m es := if_pos hh.1
    have hb2 : (packG T m ((es.set i.toNat ej).set j.toNat ei)).blks = nblks T m ((es.set i.toNat ej).set j.toNat ei) := if_pos hnd'
    refine hk _ cs' hlen hN' aa w hfi (hinv.set_same q2 h2' (s' := .g (packG T m ((es.set i.toNat ej).set j.toNat ei))) ⟨hnd', fun e he => ?_⟩ (by show (packG _ _ _).blks.Nodup; rw [hb2]; exact hnd') (fun b hb => ?_))
    · rcases List.mem_or_eq_of_mem_set he with he | rfl
      · rcases List.mem_or_eq_of_mem_set he with he | rfl
        · exact hh.2 e he
        · exact hh.2 _ (List.mem_of_getElem? hej)
      · exact hh.2 _ (List.mem_of_getElem? hei)
    · have hb : b ∈ (packG T m ((es.set i.toNat ej).set j.toNat ei)).blks := hb
      show b ∈ (packG T m es).blks
      rw [hb2] at hb; rw [hb1]
      exact hp.mem_iff.1 hb
theorem Cov.packE (T m : Nat) (h : Cov nt w0 S0 df ρ Fs bl (.g (packG T m []) :: sl) K) : Cov nt w0 S0 df ρ Fs bl sl K := Cov.pack0 T m 0 h
theorem Xk6 (T : TypeId) (m : Nat) (es es' : List NE) : nblks T m (es ++ es') = nblks T m es ++ nblks T m es' := by simp [nblks]
theorem Cov.pack1 {T m : Nat} {a : Option Addr} {n kk : Nat} {cs : List Value} {s2 : List OwnS} (hsl : sl = .s (.slice a n kk) T m n cs :: s2) (h : Cov nt w0 S0 df ρ Fs bl (.g (packG T m [⟨a, n, kk, cs⟩]) :: s2) K) : Cov nt w0 S0 df ρ Fs bl sl K := by
  refine Cov.pack0 T m 1 ?_
  subst hsl
  refine Cov.pullS 1 rfl _ rfl ?_
  exact Cov.putN 0 (i := 0) rfl rfl rfl h
theorem Cov.packApp (q : Nat) {T m : Nat} {es es' : List NE} {s2 : List OwnS} (hsl : sl = .g (packG T m es') :: s2) (hs : s2[q]? = some (.g (packG T m es))) (h : Cov nt w0 S0 df ρ Fs bl (s2.set q (.g (packG T m (es ++ es')))) K) : Cov nt w0 S0 df ρ Fs bl sl K := fun aa w hf hi => by
  subst hsl
  have hh : (packG T m es).holds w := hi.mem.slh _ (List.mem_cons_of_mem _ (List.mem_of_getElem? hs))
  have hh' : (packG T m es').holds w := hi.mem.slh _ List.mem_cons_self
  have hb1 : (packG T m es).blks = nblks T m es := if_pos hh.1
  have hb1' : (packG T m es').blks = nblks T m es' := if_pos hh'.1
  have hq : (blks bl (.g (packG T m es') :: s2)).Perm (nblks T m (es ++ es') ++ blks bl (s2.eraseIdx q)) := by
    simp only [blks, List.flatMap_cons]
    have h1 := ((X63 s2 q _ hs).flatMap_right OwnS.blocks).append_left (OwnS.blocks (.g (packG T m es')))
    simp only [List.flatMap_cons] at h1
    rw [← List.append_assoc (OwnS.blocks _) (OwnS.blocks (.g (packG T m es)))] at h1
    have h2 : (OwnS.blocks (.g (packG T m es')) ++ OwnS.blocks (.g (packG T m es))).Perm (nblks T m (es ++ es')) := by
      show ((packG T m es').blks ++ (packG T m es).blks).Perm _
      rw [hb1, hb1', Xk6]; exact List.perm_append_comm
    exact ((h1.trans (h2.append_right _)).append_left _).trans (List.perm_append_comm_assoc _ _ _)
  have hnd := hq.nodup_iff.1 hi.nodup
  have hnd1 := (List.nodup_append.1 hnd).1
  have hb2 : (packG T m (es ++ es')).blks = nblks T m (es ++ es') := if_pos hnd1
  have hp2 : (blks bl (s2.set q (.g (packG T m (es ++ es'))))).Perm (blks bl (.g (packG T m es') :: s2)) := by
    refine List.Perm.trans ?_ hq.symm
    simp only [blks]
    have h1 := (X7d OwnS.blocks s2 q _ (.g (packG T m (es ++ es'))) hs)
    have h2 : OwnS.blocks (.g (packG T m (es ++ es'))) = nblks T m (es ++ es') := hb2
    rw [h2] at h1
    exact (h1.append_left _).trans (List.perm_append_comm_assoc _ _ _)
  refine h aa w hf (hi.change [] (by simp) (Keep.refl w []) (fun G hG => .inl hG) hi.mem.own (fun s hs' => ?_) (hp2.nodup_iff.2 hi.nodup) (fun b hb => .inl (hp2.mem_iff.1 hb)))
  obtain ⟨j, hj, rfl⟩ := List.getElem_of_mem hs'
  rw [List.getElem_set]
  split
  · refine ⟨hnd1, fun x hx => ?_⟩
    rcases List.mem_append.1 hx with hx | hx
    · exact hh.2 x hx
    · exact hh'.2 x hx
  · exact hi.mem.slh _ (List.mem_cons_of_mem _ (List.getElem_mem (by simpa using hj)))
theorem NL.nil {Q : Rep α} : NL Q G [] [] ([] : List (List α)) := ⟨OL.nil, rfl, fun i e y h => by simp at h⟩
theorem NL.one {Q : Rep α} {a : Option Addr} {kk : Nat} {cs : List Value} {l : List α} (ho : OL Q G cs l) : NL Q G [⟨a, l.length, kk, cs⟩] [.slice a l.length kk] [l] :=
  ⟨(OL.cons (Rp' := Rep.hdr) (c := [.slice a l.length kk]) (x := (a, l.length, kk)) (l := []) rfl rfl OL.nil :), rfl, fun i e y h1 h2 => by
    cases i with
    | zero => simp at h1 h2; subst h1 h2; exact ⟨rfl, ho⟩
    | succ i => simp at h1⟩
theorem NL.app {Q : Rep α} {es es' : List NE} {cs cs' cs2 : List Value} {x x' : List (List α)} (h : NL Q G es cs x) (h' : NL Q G es' cs' x') (hc : OL Rep.hdr G cs2 (es.map NE.h ++ es'.map NE.h)) : NL Q G (es ++ es') cs2 (x ++ x') :=
  ⟨by rw [List.map_append]; exact hc, by simp [h.2.1, h'.2.1], fun i e y h1 h2 => by
    have := h.2.1
    rcases Nat.lt_or_ge i es.length with hi | hi
    · rw [List.getElem?_append_left hi] at h1
      rw [List.getElem?_append_left (by omega)] at h2
      exact h.2.2 i e y h1 h2
    · rw [List.getElem?_append_right hi] at h1
      rw [List.getElem?_append_right (by omega)] at h2
      rw [← this] at h2; exact h'.2.2 _ e y h1 h2⟩
theorem Cov.appN (q q2 : Nat) {Q : Rep α} {d : Nat} {t e : TypeId} {s x : Operand} {a a2 : Option Addr} {m m2 T T2 mm : Nat} {l l2 l' : List (List α)} {es es2 : List NE} {cs cs2 : List Value} {agg : Bool} {bytes : Nat} {z : List Value} {s2 : List OwnS}
    (hs : Stp P K' ⟨some d, .call ⟨.builtin .append, #[s, x], #[t, t]⟩, ty, none⟩ K) (ht : slOf P t = some e) (hel : TyI P e agg 1 bytes z) (hz : z.length = 1) (hby : Nat.ble bytes 8388608 = true)
    (hsl : sl = .s (.slice a2 l2.length m2) T2 1 l2.length cs2 :: .g (packG T mm es2) :: s2) (hi : s2[q]? = some (.s (.slice a l.length m) e 1 l.length cs)) (hi2 : s2[q2]? = some (.g (packG T mm es))) (hq : (q == q2) = false) (ho : NL Q G es cs l) (ho2 : NL Q G es2 cs2 l2)
    (he : ev ρ s = some (.slice a l.length m)) (hx : ev ρ x = some (.slice a2 l2.length m2)) (hl : lapp l l2 = some l') (hd : Nat.blt d nt = true) (hB : Bd w0 S0 B G)
    (hk : ∀ a' m' cs', NL Q G (es ++ es2) cs' l' → Cov nt w0 S0 df ((d, .slice a' l'.length m') :: ρ) (G :: B) bl ((s2.set q (.s (.slice a' l'.length m') e 1 l'.length cs')).set q2 (.g (packG T mm (es ++ es2)))) K) : Cov nt w0 S0 df ρ (G :: B) bl sl K' := by
  subst hsl
  have hq' : q ≠ q2 := by simpa using hq
  have e1 : l.length = (es.map NE.h).length := by rw [List.length_map, ho.2.1]
  have e2 : l2.length = (es2.map NE.h).length := by rw [List.length_map, ho2.2.1]
  obtain ⟨hb, rfl⟩ := Xba hl
  refine Cov.appO (q + 1) (Q := Rep.hdr) (l := es.map NE.h) (l2 := es2.map NE.h) (l' := es.map NE.h ++ es2.map NE.h) hs ht hel hz rfl hby rfl (by rw [← e1]; exact hi) rfl ho.1 ho2.1 e2 (by rw [← e1]; exact he) hx hB ?_ hd fun a' m' cs' ho' => ?_
  · unfold lapp; rw [if_pos (by rw [← e1, ← e2]; exact hb)]
  · have e3 : (es.map NE.h ++ es2.map NE.h).length = (l ++ l2).length := by simp [ho.2.1, ho2.2.1]
    rw [e3]
    refine Cov.same rfl (show _ = (OwnS.g (packG T mm es2)) :: s2.set q (.s (.slice a' (l ++ l2).length m') e 1 (l ++ l2).length cs') from rfl) rfl ?_
    exact Cov.packApp q2 rfl (by rw [List.getElem?_set_ne hq']; exact hi2) (hk a' m' cs' (ho.app ho2 ho'))
theorem QOp.idxNH (q : Nat) {T m : Nat} {es : List NE} {i n0 : Nat} {e : NE} {a0 : Option Addr} {k0 : Nat} {l : List α} {n : Int} {u : α} {kk : IntKind} {t el : TypeId} {x j : Operand} (hs : sl[q]? = some (.g (packG T m es))) (hei : es[i]? = some e) (hn : e.n = l.length) (ea : e.a = a0) (ek : e.k = k0) (en : l.length = n0) (hx : ev ρ x = some (.slice a0 n0 k0)) (hj : ev ρ j = some (.int kk n))
    (he : lidx l n = some u) (ht : slOf P t = some el) (hz : szOf P el = some m) : QOp P ρ Fs bl sl (.indexAddr t x j) ty (elemPtr (.slice e.a l.length e.k) n.toNat m) :=
  .inN q hs hei hn (.idxO (l := l) 0 rfl (by rw [hx, ea, ek, en]) hj he ht hz)
theorem Cov.backS (q : Nat) {T m : Nat} {es : List NE} {i : Int} {n : Nat} {e : NE} {s2 : List OwnS} (hsl : sl = .s (.slice e.a n e.k) T m n e.cs :: s2) (h2 : s2[q]? = some (.g (packG T m (es.set i.toNat NE.nil)))) (he : es[i.toNat]? = some e) (hn : e.n = n)
    (hk : Cov nt w0 S0 df ρ Fs bl (s2.set q (.g (packG T m es))) K) : Cov nt w0 S0 df ρ Fs bl sl K := by
  subst hn
  refine Cov.putN q hsl h2 (NL.hole he) ?_
  have : (es.set i.toNat NE.nil).set i.toNat ⟨e.a, e.n, e.k, e.cs⟩ = es := by
    obtain ⟨hlt, h4⟩ := List.getElem?_eq_some_iff.1 he
    rw [List.set_set]
    show es.set i.toNat e = es
    rw [← h4]; exact List.set_getElem_self hlt
  rw [this]; exact hk
theorem Xbi {β : Type} {l : List β} {i : Int} {n : Nat} (h : i < (l.length : Int)) (e : l.length = n) : i < (n : Int) := e ▸ h
theorem Xol {pre : List Value} {f : Int → Value} {L : List Int} {i u : Int} (hu : lidx L i = some u) : (pre ++ L.map f)[pre.length + i.toNat]? = some (f u) := by
  obtain ⟨h1, h2, h3⟩ := X21 hu
  rw [List.getElem?_append_right (by omega), Nat.add_sub_cancel_left, List.getElem?_map, h3]; rfl
theorem Cov.storeArr (i : Nat) {pre : List Value} {L L' : List Int} {kk : IntKind} {n y : Int} {t : TypeId} {x u : Operand} {b o : Nat} {T : TypeId} {agg : Bool} {bytes : Nat} {z : List Value} (hs : Stp P K' ⟨none, .store t x u, ty, none⟩ K)
    (hx : ev ρ x = some (.pointer (some ⟨b, o, none⟩))) (hy : ev ρ u = some (.int kk y)) (hb : bl[i]? = some (b, .cells (pre ++ L.map (Value.int kk)).toArray T (0, 0))) (ht : TyI P t agg 1 bytes z) (ho : o = pre.length + n.toNat) (hl : lupd L n y = some L')
    (hk : L'.length = L.length → Cov nt w0 S0 df ρ Fs (bl.set i (b, .cells (pre ++ L'.map (Value.int kk)).toArray T (0, 0))) sl K) : Cov nt w0 S0 df ρ Fs bl sl K' := by
  obtain ⟨h0, h1, rfl⟩ := X4h hl
  subst ho
  have hlt : n.toNat < L.length := by omega
  refine Cov.store i (pre ++ (L.set n.toNat y).map (Value.int kk)) _ hs hx hy hb ht rfl ?_ ?_ rfl (hk (by simp))
  · show Nat.ble (pre.length + n.toNat + 1) _ = true
    rw [Nat.ble_eq]; simp; omega
  · show List.take (pre.length + n.toNat) (pre ++ L.map (Value.int kk)) ++ [Value.int kk y] ++ List.drop (pre.length + n.toNat + 1) (pre ++ L.map (Value.int kk)) = _
    rw [List.take_append, Nat.add_sub_cancel_left, List.take_of_length_le (l := pre) (by omega), show pre.length + n.toNat + 1 = pre.length + (n.toNat + 1) from by omega, List.drop_append, Nat.add_sub_cancel_left, List.drop_of_length_le (l := pre) (by omega), List.nil_append, List.map_set, List.append_assoc, List.append_assoc]
    congr 1
    rw [List.set_eq_take_append_cons_drop, if_pos (by simpa using hlt)]
    rfl
end
end Go.Proofs.YtfcicopgdahmcaaGreatDoor
end

section
namespace Go.Proofs.YtfcicopgdahmcaaGreatDoor
open Go.RowKit Go.Extern.Stop Go.Stop Go.Extern Go.Extern.ReflectliteType
set_option linter.unusedVariables false
theorem RetS.calls {P : Program} {f : FuncId} {args : Array Value} {Fs : List Hp} {u : Value} (hc : ∀ w, Calls P f args w fun e w' => e = .returned u ∧ Keep w [] w') : RetS P f args Fs [] [] (fun v bo so => v = u ∧ bo = [] ∧ so = []) :=
  fun w h1 h2 h3 h4 h5 => (hc w).mono fun e w' ⟨he, hk⟩ => ⟨u, he, empHp, [], [], X5t w, by
    have hi : Inv w [] Fs [] [] w := ⟨⟨h1, by simp, by simp⟩, Keep.refl w [], by simp [blks], by simp [blks], by simp [blks]⟩
    refine hi.change [] (by simp) hk (fun G hG => ?_) (by simp) (by simp) (by simp [blks]) (by simp [blks])
    rcases List.mem_cons.1 hG with rfl | hG
    · exact .inr ⟨fun b o hb => by simp [empHp] at hb, fun _ _ => rfl⟩
    · exact .inl hG, rfl, rfl, rfl⟩
theorem isTypeOf (v : Value) (w : World) : (Extern.ReflectliteType.typeOf #[.iface 268 v]).run Tryz.prog w = .ok (.iface 290 (.agg #[.pointer (some ⟨1, 268, none⟩)])) w := by kernel_rfl
theorem isComparable (w : World) : (Extern.ReflectliteType.method (fun t => do Go.Extern.Rtype.noPackHeld "Comparable" t; (fun a => Value.bool a.comparable) <$> typeInfo t) #[.agg #[.pointer (some ⟨1, 268, none⟩)]]).run Tryz.prog w = .ok (.bool true) w := by kernel_rfl
theorem noIsF (v : Value) (xT : TypeId) (w : World) : (Instr.typeAssert (.iface 268 v) xT 292 true).run Tryz.prog w = .ok (.tuple #[.nilIface, .bool false]) w := run_typeAssert_lacksB Tryz.underlying292 (by kernel_rfl) (by kernel_rfl) v xT w
theorem noUnwrapF (v : Value) (xT : TypeId) (w : World) : (Instr.typeAssert (.iface 268 v) xT 295 true).run Tryz.prog w = .ok (.tuple #[.nilIface, .bool false]) w := run_typeAssert_lacksB Tryz.underlying295 (by kernel_rfl) (by kernel_rfl) v xT w
theorem noUnwrapsF (v : Value) (xT : TypeId) (w : World) : (Instr.typeAssert (.iface 268 v) xT 297 true).run Tryz.prog w = .ok (.tuple #[.nilIface, .bool false]) w := run_typeAssert_lacksB Tryz.underlying297 (by kernel_rfl) (by kernel_rfl) v xT w
theorem infoF : (Tryz.prog.info? 268).map (·.comparable) = some true := by kernel_rfl
theorem partF (v : Value) (w : World) : (Go.part 33 #[v] 0).run Tryz.prog w = .ok v w := by kernel_rfl
theorem eqlF (d e : Int) (w : World) : (binOp .eql 233 (.iface 268 (.agg #[.int .i64 d])) (.iface 268 (.agg #[.int .i64 e]))).run Tryz.prog w = .ok (.bool (decide (d = e))) w := by
  obtain ⟨i, hi, hcmp⟩ := Option.map_eq_some_iff.1 infoF
  have h : ∀ n : Nat, (Op.equalIn (n + 3) 233 (.iface 268 (.agg #[.int .i64 d])) (.iface 268 (.agg #[.int .i64 e]))).run Tryz.prog w = .ok (decide (d = e)) w := fun n => by
    simp [Op.equalIn, run_underlying Tryz.underlying233, run_underlying Tryz.underlying268, typeInfo, hi, hcmp, partF, run_underlying Tryz.underlying33]
    by_cases hde : d = e <;> simp [hde]
  simp only [binOp]
  simp [Op.equal, Op.maxDepth, h 9997]
theorem mComparable (v : Value) (w : World) : (Go.method 442 290 v "Comparable").run Tryz.prog w = .ok (223, v) w := by kernel_rfl
set_option maxRecDepth 100000 in
set_option maxHeartbeats 2000000 in
theorem Xs1 (d e : Int) (w : World) : Calls Tryz.prog 153 #[.iface 268 (.agg #[.int .i64 d]), .iface 268 (.agg #[.int .i64 e])] w fun x w' => x = .returned (.bool (decide (d = e))) ∧ w' = w := by
  have h8 := @run_callFunc_extern Tryz.prog 178 _ Extern.ReflectliteType.typeOf Tryz.func178 (by kernel_rfl) (by kernel_rfl) (by kernel_rfl) (by kernel_rfl)
  have h32 := @run_callFunc_extern Tryz.prog 223 _ (Extern.ReflectliteType.method fun t => do Go.Extern.Rtype.noPackHeld "Comparable" t; pure (.bool (← typeInfo t).comparable)) Tryz.func223 (by kernel_rfl) (by kernel_rfl) (by kernel_rfl) (by kernel_rfl)
  have tT := isTypeOf
  have cT := isComparable
  have mR := mComparable
  have nE := noIsF
  have uE := noUnwrapF
  have vE := noUnwrapsF
  have heq := eqlF d e w
  by_cases hde : d = e
  · subst hde
    simp only [decide_true] at heq ⊢
    go_enter Tryz.func153, Tryz.ntmps153
    go_wp2
    refine wp_loop_rounds 1 ?_
    rw [rounds_succ]
    go_wp2
    go_ret
    exact ⟨rfl, rfl⟩
  · simp only [hde, decide_false] at heq ⊢
    go_enter Tryz.func153, Tryz.ntmps153
    go_wp2
    refine wp_loop_rounds 1 ?_
    rw [rounds_succ]
    go_wp2
    go_ret
    exact ⟨rfl, rfl⟩
theorem Xs2 (v : Value) (w : World) : Calls Tryz.prog 153 #[.nilIface, .iface 268 v] w fun x w' => x = .returned (.bool false) ∧ w' = w := by
  have hn := run_eql_iface_nil_left (P := Tryz.prog) w 268 v Tryz.underlying233
  go_enter Tryz.func153, Tryz.ntmps153
  go_wp2
  go_ret
  exact ⟨rfl, rfl⟩
theorem Xhj {Fs : List Hp} {G : Hp} {x0 x1 : Option Int} {r : Bool} (hG : G ∈ Fs) (h : Xdw x0 x1 = some r) : RetS Tryz.prog 153 #[ifc233 x0, ifc233 x1] Fs [] [] (fun v bo so => v = .bool r ∧ bo = [] ∧ so = []) := by
  cases x1 with
  | none => cases h
  | some e =>
    obtain rfl := Option.some.inj h
    refine RetS.calls fun w => ?_
    cases x0 with
    | none => exact (Xs2 _ w).mono fun e w' ⟨a, b⟩ => ⟨a, b ▸ Keep.refl w []⟩
    | some d => exact (Xs1 d e w).mono fun x w' ⟨a, b⟩ => ⟨by rw [a]; simp, b ▸ Keep.refl w []⟩
theorem eqlFn (v : Value) (w : World) : (binOp .eql 233 (.iface 268 v) .nilIface).run Tryz.prog w = .ok (.bool false) w := by kernel_rfl
theorem Xs3 (w : World) : Calls Tryz.prog 154 #[.nilIface] w fun x w' => x = .returned (.int .i64 0) ∧ w' = w := by
  go_enter Tryz.func154, Tryz.ntmps154
  go_wp2
  go_ret
  exact ⟨rfl, rfl⟩
theorem isF (v : Value) (xT : TypeId) (w : World) : (Instr.typeAssert (.iface 268 v) xT 268 true).run Tryz.prog w = .ok (.tuple #[v, .bool true]) w := by kernel_rfl
theorem Xs4 (d : Int) (w : World) : Calls Tryz.prog 154 #[.iface 268 (.agg #[.int .i64 d])] w fun x w' => x = .returned (.int .i64 d) ∧ Keep w [] w' := by
  have hn := eqlFn (.agg #[.int .i64 d]) w
  have hF := isF (.agg #[.int .i64 d])
  go_enter Tryz.func154, Tryz.ntmps154
  go_wp2
  go_ret
  refine ⟨rfl, ?_⟩
  exact Keep.alloc w _
theorem Xdy {Fs : List Hp} {G : Hp} {x0 : Option Int} {r : Int} (hG : G ∈ Fs) (h : Xav x0 = some r) : RetS Tryz.prog 154 #[ifc233 x0] Fs [] [] (fun v bo so => v = .int .i64 r ∧ bo = [] ∧ so = []) := by
  obtain rfl := Option.some.inj h
  refine RetS.calls fun w => ?_
  cases x0 with
  | none => exact (Xs3 w).mono fun e w' ⟨a, b⟩ => ⟨a, b ▸ Keep.refl w []⟩
  | some d => exact Xs4 d w
end Go.Proofs.YtfcicopgdahmcaaGreatDoor
end

section
namespace Go.Proofs.YtfcicopgdahmcaaGreatDoor
open Go.RowKit Go.ChangeShapes
theorem Xmh {P : Program} {u : TypeId} {n : String} (hs : n.toList.head? ≠ ("*" : String).toList.head?) (hu : P.typeName? 3 u = some n) : u < P.types.size := by
  by_cases hlt : u < P.types.size
  · exact hlt
  · exfalso
    unfold Program.typeName? at hu
    cases hi : P.info? u with
    | none => simp [hi] at hu
    | some i =>
      have hb := Tables.info?_beyond hlt hi
      simp only [hi] at hu
      cases hd : i.desc <;> simp only [hd, TypeDesc.tableOnly] at hu hb <;> try cases hb
      all_goals try cases hu
      rename_i e
      simp only [Option.map_eq_some_iff] at hu
      obtain ⟨n', _, rfl⟩ := hu
      apply hs
      rw [String.toList_append, List.head?_append]
      rfl
theorem Xmi {P : Program} {W : World} {x : String} {d : DataW Unit} {g0 : Nat} {t0 : TypeId} {ms : Array (String × TypeId)} {nm : String} (hg0 : P.globalNamed x = some g0) (ht0 : (P.globals[g0]?).map (·.type) = some t0) (hu : P.underlying t0 = some (.interface ms)) (h : laidMet P [(x, .iface nm d)] W) :
    ∃ fuel u v p, W.cell? ⟨g0, 0, none⟩ = some (.iface u v) ∧ P.typeName? 3 u = some nm ∧ DataW.trod (fun _ => ()) P W 0 (fun _ => true) false fuel u v.cells.toList = some (d, p) ∧ Value.okWide P W .any 0 u v := by
  obtain ⟨ps, ⟨g, t, cs, fuel, p, q, hg, ht, hv, hd, _, hps⟩, _, hrow⟩ := h
  obtain rfl := Option.some.inj (hg0.symm.trans hg)
  obtain rfl := Option.some.inj (ht0.symm.trans ht)
  obtain ⟨f1, u, v, hcs, hn, h1⟩ := iface_of_trod hu hd
  have hc : W.cell? ⟨g0, 0, none⟩ = some (.iface u v) := by
    rw [World.var?_cell hg hv 0]
    have e : cs[0]? = cs.toList[0]? := by simp
    rw [e, hcs]; rfl
  have hsz : 0 < cs.size := by
    have := congrArg List.length hcs
    simp at this; omega
  refine ⟨f1, u, v, p, hc, hn, h1, (hrow g0 0 ?_).2 u v hc⟩
  rw [hps]
  refine List.mem_append_left _ (List.mem_append_left _ ?_)
  exact List.mem_map.2 ⟨0, List.mem_range.2 hsz, rfl⟩
theorem named268 : Tryz.prog.typeNamed8 "privatefetch/unique.failure" = some 268 := by kernel_rfl
theorem row268 (u : TypeId) (h : Tryz.prog.typeName? 3 u = some "privatefetch/unique.failure") : u = 268 := Program.typeNamed8_inj named268 (Xmh (by decide) h) h
theorem glob0 : Tryz.prog.globalNamed "privatefetch/unique.errWrong" = some 0 := by kernel_rfl
theorem glob0t : (Tryz.prog.globals[0]?).map (·.type) = some 233 := by kernel_rfl
theorem c268 : Tryz.prog.cellsOf 268 = 1 := by kernel_rfl
theorem c33 : Tryz.prog.cellsOf 33 = 1 := by kernel_rfl
set_option maxRecDepth 100000 in
theorem Xmj {W : World} (h : laidMet Tryz.prog [("privatefetch/unique.errWrong", Rows.laid_privatefetch_unique_errWrong)] W) : W.cell? ⟨0, 0, none⟩ = some (.iface 268 (.agg #[.int .i64 12])) := by
  obtain ⟨f1, u, v, p, hc, hn, h1, ok⟩ := Xmi glob0 glob0t Tryz.underlying233 h
  obtain rfl := row268 u hn
  obtain ⟨cs2, rfl⟩ := Xoh Tryz.underlying268 ok
  obtain ⟨y0, n, hx, hl, hy⟩ := trod_struct1 Tryz.underlying268 h1
  have hcl : (Value.agg cs2.toArray).cells.toList = cs2 := by simp [Value.cells]
  rw [hcl] at hl hy
  rw [c268] at hl
  obtain ⟨c, rfl⟩ : ∃ c, cs2 = [c] := by
    match cs2, hl with
    | [c], _ => exact ⟨c, rfl⟩
  have hy' : DataW.trod (fun _ => ()) Tryz.prog W 0 (fun _ => true) false n 33 [c] = some y0 := by
    have e : (([c] : List Value).drop 0).take (Tryz.prog.cellsOf 33) = [c] := by rw [c33]; rfl
    rw [← e]; exact hy
  obtain ⟨z, e1, e2, _⟩ := DataW.trod_int Tryz.underlying33 hy'
  have hz : z = 12 := by
    rw [e2] at hx
    have := (Prod.mk.inj hx).1
    simpa using this.symm
  rw [hc, e1, hz]
theorem Xfx {W : World} {b o : Nat} {v : Value} (h : W.cell? ⟨b, o, none⟩ = some v) : rcell (whole W) b o = some v := by
  unfold World.cell? at h
  unfold rcell whole
  cases hb : W.heap[b]? with
  | none => simp [hb] at h
  | some ob => cases ob <;> simp_all
theorem Xmk {W : World} (h : laidMet Tryz.prog [("privatefetch/unique.errWrong", Rows.laid_privatefetch_unique_errWrong)] W) : Rp (whole W) (.pointer (some ⟨0, 0, none⟩)) [ifc233 (some 12)] := by
  refine ⟨0, 0, rfl, fun j c hj => ?_⟩
  cases j with
  | succ j => simp at hj
  | zero =>
    obtain rfl := Option.some.inj hj
    exact Xfx (Xmj h)
end Go.Proofs.YtfcicopgdahmcaaGreatDoor
end

section
namespace Go.Proofs.YtfcicopgdahmcaaGreatDoor
open Go.RowKit
set_option linter.unusedVariables false
structure Shp (σ α β : Type) where
  row : σ → List α
  hd : σ → (Option Addr × Nat × Nat) → β
  set : σ → List α → σ
  row_set : ∀ s y, row (set s y) = y
  hd_set : ∀ s y h, hd (set s y) h = hd s h
def hds {σ α β : Type} (S : Shp σ α β) (es : List NE) (x : List σ) : List β := List.zipWith (fun s e => S.hd s (NE.h e)) x es
def NS {σ α β : Type} (S : Shp σ α β) (Q : Rep α) (E : Rep β) (G : Hp) (es : List NE) (cs : List Value) (x : List σ) : Prop :=
  OL E G cs (hds S es x) ∧ es.length = x.length ∧ ∀ (i : Nat) (e : NE) (s : σ), es[i]? = some e → x[i]? = some s → e.n = (S.row s).length ∧ OL Q G e.cs (S.row s)
section
variable {σ α β : Type} {S : Shp σ α β} {Q : Rep α} {E : Rep β} {G G' : Hp} {es : List NE} {cs : List Value} {x : List σ}
theorem Xct (h : es.length = x.length) : (hds S es x).length = x.length := by simp [hds, h]
theorem Xhk {i : Nat} {e : NE} {s : σ} (he : es[i]? = some e) (hs : x[i]? = some s) : (hds S es x)[i]? = some (S.hd s e.h) := by
  unfold hds; rw [List.getElem?_zipWith, hs, he]
theorem Xom (i : Nat) (e : NE) (s : σ) : hds S (es.set i e) (x.set i s) = (hds S es x).set i (S.hd s e.h) := by
  unfold hds
  induction i generalizing es x with
  | zero => cases x <;> cases es <;> simp
  | succ n ih => cases x <;> cases es <;> simp [ih]
theorem NS.mono (hg : HpLe G G') (h : NS S Q E G es cs x) : NS S Q E G' es cs x :=
  ⟨h.1.mono hg, h.2.1, fun i e y h1 h2 => ⟨(h.2.2 i e y h1 h2).1, (h.2.2 i e y h1 h2).2.mono hg⟩⟩
theorem NS.len' (h : NS S Q E G es cs x) : x.length ≤ 9223372036854775807 := by
  have := h.1.len'; rw [Xct h.2.1] at this; exact this
theorem NS.get (h : NS S Q E G es cs x) {i : Int} {s : σ} (hx : lidx x i = some s) :
    ∃ e c, es[i.toNat]? = some e ∧ e.n = (S.row s).length ∧ OL Q G e.cs (S.row s) ∧ Elem E.sz cs i.toNat c ∧ E.r G c (S.hd s (e.a, (S.row s).length, e.k)) := by
  obtain ⟨h3, h4, h5⟩ := X21 hx
  have hlt : i.toNat < es.length := by rw [h.2.1]; omega
  have he : es[i.toNat]? = some es[i.toNat] := List.getElem?_eq_getElem hlt
  obtain ⟨hn, ho⟩ := h.2.2 _ _ _ he h5
  obtain ⟨c, hc1, hc2⟩ := h.1.get (i := i) (x := S.hd s es[i.toNat].h) (by
    unfold lidx
    rw [if_pos h3]; exact Xhk he h5)
  refine ⟨es[i.toNat], c, he, hn, ho, hc1, ?_⟩
  rw [← hn]; exact hc2
theorem NS.getH (h : NS S Q E G es cs x) {i : Int} {s : σ} {e0 : NE} {n0 : Nat} (hx : lidx x i = some s) (hd : HD es i e0.h) (hn : e0.n = n0) :
    ∃ e, es[i.toNat]? = some e ∧ e.n = (S.row s).length ∧ OL Q G e.cs (S.row s) ∧ e.a = e0.a ∧ e.k = e0.k ∧ (S.row s).length = n0 := by
  obtain ⟨e, c, he, hn', ho, hc1, hc2⟩ := h.get hx
  unfold HD at hd
  rw [List.getElem?_map, he] at hd
  simp only [Option.map_some, Option.some.injEq, NE.h, Prod.mk.injEq] at hd
  exact ⟨e, he, hn', ho, hd.1, hd.2.2, by omega⟩
theorem NS.nil : NS S Q E G [] [] ([] : List σ) := ⟨OL.nil, rfl, fun i e y h => by simp at h⟩
theorem NS.one {a : Option Addr} {kk : Nat} {c : List Value} {s : σ} {l : List α} (hE : E.r G c (S.hd s (a, l.length, kk))) (hr : S.row s = l) {ics : List Value} (ho : OL Q G ics l) : NS S Q E G [⟨a, l.length, kk, ics⟩] (c ++ []) [s] :=
  ⟨(OL.cons (Rp' := E) (c := c) (x := S.hd s (a, l.length, kk)) (l := []) rfl hE OL.nil :), rfl, fun i e y h1 h2 => by
    cases i with
    | zero => simp at h1 h2; subst h1 h2; exact ⟨by rw [hr], by rw [hr]; exact ho⟩
    | succ i => simp at h1⟩
theorem NS.app {es' : List NE} {cs' cs2 : List Value} {x' : List σ} (h : NS S Q E G es cs x) (h' : NS S Q E G es' cs' x') (hc : OL E G cs2 (hds S es x ++ hds S es' x')) : NS S Q E G (es ++ es') cs2 (x ++ x') :=
  ⟨by unfold hds; rw [List.zipWith_append h.2.1.symm]; exact hc, by simp [h.2.1, h'.2.1], fun i e y h1 h2 => by
    have := h.2.1
    rcases Nat.lt_or_ge i es.length with hi | hi
    · rw [List.getElem?_append_left hi] at h1
      rw [List.getElem?_append_left (by omega)] at h2
      exact h.2.2 i e y h1 h2
    · rw [List.getElem?_append_right hi] at h1
      rw [List.getElem?_append_right (by omega)] at h2
      rw [← this] at h2; exact h'.2.2 _ e y h1 h2⟩
theorem NS.set {cs' : List Value} {x' : List σ} {i : Int} {s : σ} {e : NE} (h : NS S Q E G es cs x) (hl : lupd x i s = some x') (hn : e.n = (S.row s).length) (ho : OL Q G e.cs (S.row s)) (hc : OL E G cs' ((hds S es x).set i.toNat (S.hd s e.h))) : NS S Q E G (es.set i.toNat e) cs' x' := by
  obtain ⟨hi0, hil, rfl⟩ := X4h hl
  refine ⟨by rw [Xom]; exact hc, by simp [h.2.1], fun j e' y' h1 h2 => ?_⟩
  rw [List.getElem?_set] at h1 h2
  by_cases hij : i.toNat = j
  · subst hij
    have := h.2.1
    rw [if_pos rfl, if_pos (by omega)] at h1
    rw [if_pos rfl, if_pos (by omega)] at h2
    cases h1; cases h2
    exact ⟨hn, ho⟩
  · rw [if_neg hij] at h1 h2
    exact h.2.2 j e' y' h1 h2
theorem X8r {γ : Type} {l : List γ} {i : Nat} {a : γ} (h : l[i]? = some a) : l.set i a = l := by
  obtain ⟨hlt, h4⟩ := List.getElem?_eq_some_iff.1 h
  rw [← h4]; exact List.set_getElem_self hlt
end
section
variable {P : Program} {c : Cx} {R : Value → World → Prop} {nt : Nat} {w0 : World} {S0 : List Nat} {df : List Deferred} {ρ ρ' : Env} {Fs Fs' Fin B : List Hp} {bl bl' : Blks} {sl sl' : List OwnS}
  {K K' : Act → World → Prop} {k : List Item} {ty : TypeId} {G : Hp} {σ α β : Type} {S : Shp σ α β} {Q : Rep α} {E : Rep β}
theorem Cov.backNs (q1 q : Nat) {oa : Option Addr} {om T0 T m sz : Nat} {x x' : List σ} {es : List NE} {cs ics : List Value} {i : Int} {s : σ} {y : List α} {s2 : List OwnS} {e : NE} (hsl : sl = .s (.slice e.a y.length e.k) T m y.length ics :: s2) (h1 : s2[q1]? = some (.s (.slice oa x.length om) T0 sz x.length cs)) (h2 : s2[q]? = some (.g (packG T m (es.set i.toNat NE.nil)))) (hN : NS S Q E G es cs x) (he : es[i.toNat]? = some e) (hx : lidx x i = some s) (hn : y.length = e.n) (ho : OL Q G ics y) (hl : lupd x i (S.set s y) = some x')
    (hk : ∀ es', x'.length = x.length → NS S Q E G es' cs x' → es'.map NE.h = es.map NE.h → Cov nt w0 S0 df ρ Fs bl ((s2.set q1 (.s (.slice oa x'.length om) T0 sz x'.length cs)).set q (.g (packG T m es'))) K) : Cov nt w0 S0 df ρ Fs bl sl K := by
  refine Cov.putN q hsl h2 (NL.hole he) ?_
  have hlen : x'.length = x.length := by obtain ⟨_, _, rfl⟩ := X4h hl; simp
  have hsame : (es.map NE.h).set i.toNat (NE.h ⟨e.a, y.length, e.k, ics⟩) = es.map NE.h := by
    refine X8r ?_
    rw [List.getElem?_map, he]; simp [NE.h, hn]
  have hN' : NS S Q E G (es.set i.toNat ⟨e.a, y.length, e.k, ics⟩) cs x' := hN.set hl (by rw [S.row_set]) (by rw [S.row_set]; exact ho) (by
    rw [S.hd_set, X8r]
    · exact hN.1
    · rw [Xhk he (X21 hx).2.2]; simp [NE.h, hn])
  have hk' := hk _ hlen hN' (by rw [List.map_set]; exact hsame)
  have hs : s2.set q1 (.s (.slice oa x'.length om) T0 sz x'.length cs) = s2 := by rw [hlen]; exact X8r h1
  rw [hs] at hk'
  rw [List.set_set]
  exact hk'
theorem Cov.storeNs (q1 q2 : Nat) {oa : Option Addr} {om T0 T m sz : Nat} {x x' : List σ} {es : List NE} {cs ics : List Value} {i : Int} {s' : σ} {y : List α} {a : Option Addr} {kk : Nat} {t : TypeId} {px u : Operand} {p v : Value} {agg : Bool} {bytes : Nat} {z dc : List Value} {s2 : List OwnS} {e : NE} (hs : Stp P K' ⟨none, .store t px u, ty, none⟩ K)
    (hsl : sl = .s (.slice a y.length kk) T m y.length ics :: s2) (h1 : s2[q1]? = some (.s (.slice oa x.length om) T0 sz x.length cs)) (h2 : s2[q2]? = some (.g (packG T m (es.set i.toNat NE.nil)))) (hsz : sz = E.sz) (hN : NS S Q E G es cs x) (he : es[i.toNat]? = some e) (hr : S.row s' = y) (ho : OL Q G ics y) (hl : lupd x i s' = some x')
    (hx : ev ρ px = some p) (hp : PtrO p oa x.length om i.toNat sz 0) (hu : ev ρ u = some v) (ht : TyI P t agg (cellsL v).length bytes z) (hd : Elem sz cs i.toNat dc)
    (hy : E.r G (dc.take 0 ++ cellsL v ++ dc.drop (0 + (cellsL v).length)) (S.hd s' (a, y.length, kk))) (h1c : (cellsL v).all (·.oneCell') = true) (hfit : Nat.ble (0 + (cellsL v).length) sz = true) (hq : (q1 == q2) = false)
    (hk : ∀ es' cs', x'.length = x.length → NS S Q E G es' cs' x' → Cov nt w0 S0 df ρ Fs bl ((s2.set q1 (.s (.slice oa x'.length om) T0 sz x'.length cs')).set q2 (.g (packG T m es'))) K) : Cov nt w0 S0 df ρ Fs bl sl K' := by
  refine Cov.putN q2 hsl h2 (NL.hole he) ?_
  have hq' : q1 ≠ q2 := by simpa using hq
  have e1 : x.length = (hds S es x).length := (Xct hN.2.1).symm
  have hlen : x'.length = x.length := by obtain ⟨_, _, rfl⟩ := X4h hl; simp
  obtain ⟨hi0, hil, _⟩ := X4h hl
  refine Cov.storeR q1 0 (Q := E) (y := S.hd s' (a, y.length, kk)) (l := hds S es x) (l' := (hds S es x).set i.toNat (S.hd s' (a, y.length, kk))) hs (by rw [List.getElem?_set_ne (Ne.symm hq'), h1, e1]) hsz hN.1 ?_ hx (by rw [← e1]; exact hp) hu ht hd hy h1c hfit fun cs' hll ho' => ?_
  · unfold lupd; rw [if_pos ⟨hi0, by rw [← e1]; exact hil⟩]
  · have hN' : NS S Q E G (es.set i.toNat ⟨a, y.length, kk, ics⟩) cs' x' := hN.set hl (by rw [hr]) (by rw [hr]; exact ho) (by simpa [NE.h] using ho')
    have hk' := hk _ cs' hlen hN'
    have e2 : ((hds S es x).set i.toNat (S.hd s' (a, y.length, kk))).length = x'.length := by rw [List.length_set, ← e1, hlen]
    rw [e2, List.set_set]
    rw [List.set_comm _ _ hq'] at hk'
    rw [List.set_comm _ _ (Ne.symm hq')] at *
    exact hk'
theorem Cov.appNs (q q2 : Nat) {d : Nat} {t e : TypeId} {s x : Operand} {a a2 : Option Addr} {m m2 T T2 mm sz : Nat} {l l2 l' : List σ} {es es2 : List NE} {cs cs2 : List Value} {agg : Bool} {bytes : Nat} {z : List Value} {s2 : List OwnS}
    (hs : Stp P K' ⟨some d, .call ⟨.builtin .append, #[s, x], #[t, t]⟩, ty, none⟩ K) (ht : slOf P t = some e) (hel : TyI P e agg sz bytes z) (hz : z.length = sz) (h0 : Nat.blt 0 sz = true) (hsz : sz = E.sz) (hby : Nat.ble bytes 8388608 = true)
    (hsl : sl = .s (.slice a2 l2.length m2) T2 sz l2.length cs2 :: .g (packG T mm es2) :: s2) (hi : s2[q]? = some (.s (.slice a l.length m) e sz l.length cs)) (hi2 : s2[q2]? = some (.g (packG T mm es))) (hq : (q == q2) = false) (ho : NS S Q E G es cs l) (ho2 : NS S Q E G es2 cs2 l2)
    (he : ev ρ s = some (.slice a l.length m)) (hx : ev ρ x = some (.slice a2 l2.length m2)) (hl : lapp l l2 = some l') (hd : Nat.blt d nt = true) (hB : Bd w0 S0 B G)
    (hk : ∀ a' m' cs', NS S Q E G (es ++ es2) cs' l' → Cov nt w0 S0 df ((d, .slice a' l'.length m') :: ρ) (G :: B) bl ((s2.set q (.s (.slice a' l'.length m') e sz l'.length cs')).set q2 (.g (packG T mm (es ++ es2)))) K) : Cov nt w0 S0 df ρ (G :: B) bl sl K' := by
  subst hsl
  have hq' : q ≠ q2 := by simpa using hq
  have e1 : l.length = (hds S es l).length := (Xct ho.2.1).symm
  have e2 : l2.length = (hds S es2 l2).length := (Xct ho2.2.1).symm
  obtain ⟨hb, rfl⟩ := Xba hl
  refine Cov.appO (q + 1) (Q := E) (l := hds S es l) (l2 := hds S es2 l2) (l' := hds S es l ++ hds S es2 l2) hs ht hel hz h0 hby rfl (by rw [← e1]; exact hi) hsz ho.1 ho2.1 e2 (by rw [← e1]; exact he) hx hB ?_ hd fun a' m' cs' ho' => ?_
  · unfold lapp; rw [if_pos (by rw [← e1, ← e2]; exact hb)]
  · have e3 : (hds S es l ++ hds S es2 l2).length = (l ++ l2).length := by rw [List.length_append, ← e1, ← e2, List.length_append]
    rw [e3]
    refine Cov.same rfl (show _ = (OwnS.g (packG T mm es2)) :: s2.set q (.s (.slice a' (l ++ l2).length m') e sz (l ++ l2).length cs') from rfl) rfl ?_
    exact Cov.packApp q2 rfl (by rw [List.getElem?_set_ne hq']; exact hi2) (hk a' m' cs' (ho.app ho2 ho'))
theorem SlR.rdNs {G' : Hp} {a : Option Addr} {kk T0 T m sz : Nat} {x : List σ} {es : List NE} {cs : List Value} (Pr : Rep σ) (hP : ∀ (G' : Hp) (c : List Value) (s : σ) (h : Option Addr × Nat × Nat), E.r G' c (S.hd s h) → h.2.1 = (S.row s).length → SlR Q G' h.1 h.2.2 (S.row s) → Pr.r G' c s) (hN : NS S Q E G es cs x) (hm : m = Q.sz) (hsz : sz = E.sz) (hps : Pr.sz = E.sz) (hle : HpLe G G') (h1 : Rd (.s (.slice a x.length kk) T0 sz x.length cs) G') (h2 : Rd (.g (packG T m es)) G') : SlR Pr G' a kk x := by
  have h3 : OL Pr G' cs x := by
    obtain ⟨⟨hb, xs, rfl, h3, h4⟩, h5, h6⟩ := hN
    rw [Xct h5] at hb
    refine ⟨hb, xs, rfl, fun c hc => (h3 c hc).trans hps.symm, by rw [h4.1, Xct h5], fun i c s hc hs => ?_⟩
    have hlt : i < es.length := by rw [h5]; exact (List.getElem?_eq_some_iff.1 hs).1
    have he : es[i]? = some es[i] := List.getElem?_eq_getElem hlt
    obtain ⟨hn, ho⟩ := h6 i _ s he hs
    have hc' := h4.2 i c (S.hd s es[i].h) hc (Xhk he hs)
    have hr := h2.entry (List.getElem_mem hlt)
    unfold NE.s at hr
    rw [hn] at hr
    refine hP G' c s _ (E.mono hle hc') hn (SlR.rd ho hm hle hr)
  exact SlR.rd h3 (hsz.trans hps.symm) (HpLe.refl _) h1
theorem Cov.freezeNs {a : Option Addr} {kk T0 T m sz : Nat} {x : List σ} {es : List NE} {cs : List Value} {s2 : List OwnS} (Pr : Rep σ) (hP : ∀ (G' : Hp) (c : List Value) (s : σ) (h : Option Addr × Nat × Nat), E.r G' c (S.hd s h) → h.2.1 = (S.row s).length → SlR Q G' h.1 h.2.2 (S.row s) → Pr.r G' c s) (hsl : sl = .s (.slice a x.length kk) T0 sz x.length cs :: .g (packG T m es) :: s2) (hN : NS S Q E G es cs x) (hm : m = Q.sz) (hsz : sz = E.sz) (hps : Pr.sz = E.sz) (hB : Bd w0 S0 B G)
    (hk : ∀ G', HpLe G G' → Bd w0 S0 B G' → SlR Pr G' a kk x → Cov nt w0 S0 df ρ (G' :: B) bl s2 K) : Cov nt w0 S0 df ρ (G :: B) bl sl K := fun aa w hf hi => by
  subst hsl
  have hi' : Inv w0 S0 (G :: B) bl ([] ++ ([.s (.slice a x.length kk) T0 sz x.length cs, .g (packG T m es)] ++ s2)) w := hi
  obtain ⟨G', hle, hrd, hi2, hbd, _⟩ := hi'.lendB
  refine Cov.less (Fs' := G' :: B) ?_ (hk G' hle (hbd B hB) (SlR.rdNs Pr hP hN hm hsz hps hle (hrd _ List.mem_cons_self) (hrd _ (List.mem_cons_of_mem _ List.mem_cons_self)))) aa w hf hi2
  intro F hF
  rcases List.mem_cons.1 hF with rfl | hF
  · exact List.mem_cons_self
  · exact List.mem_cons_of_mem _ (List.mem_cons_of_mem _ hF)
def ClsO (Fs : List Hp) (bl : Blks) (sl : List OwnS) : World → Prop := fun w => Mem Fs bl sl w
theorem ClsO.of_le {w : World} {G0 : Hp} {bl0 : Blks} {sl0 : List OwnS} (h : Inv w0 S0 Fs bl sl w) (h1 : ∃ G ∈ Fs, HpLe G0 G) (h2 : ∀ p ∈ bl0, p ∈ bl) (h3 : ∀ s ∈ sl0, s ∈ sl) : ClsO [G0] bl0 sl0 w :=
  ⟨fun F hF => by
    obtain ⟨G, hG, hle⟩ := h1
    rcases List.mem_cons.1 hF with rfl | hF
    · exact fun b o hb => h.mem.fs G hG b o (hle b o hb)
    · exact absurd hF (List.not_mem_nil), fun p hp => h.mem.own p (h2 p hp), fun s hs => h.mem.slh s (h3 s hs)⟩
theorem Cov.drawO {id : Nat} {ops : Array Oper} (l : OT) (bl0 : Blks) (sl0 : List OwnS) (hm : P.follows .mixedOrders = true) (hok : drawOk ops l = true) (h2 : ∀ p ∈ bl0, p ∈ bl) (h3 : ∀ s ∈ sl0, s ∈ sl)
    (h : Cov nt w0 S0 df ρ (G :: Fs) bl sl (DO P c R (ClsO [G] bl0 sl0) (flatD ops l) k)) :
    Cov nt w0 S0 df ρ (G :: Fs) bl sl (Run P c R (.code (.region id ops true) :: k)) := fun a w hf hi => by
  simp only [drawOk, Bool.and_eq_true, beq_iff_eq] at hok
  obtain ⟨⟨⟨⟨h5, h4⟩, h6⟩, h7⟩, h8⟩ := hok
  exact Run.region_can hm h5 l _ (ClsO [G] bl0 sl0) h6 h8 (ClsO.of_le hi.drawn ⟨G, List.mem_cons_self, HpLe.refl _⟩ h2 h3) (X8a h4 l h7 a _ (h a _ hf hi.drawn))
theorem Cov.clsO {G0 : Hp} {bl0 : Blks} {sl0 : List OwnS} (h1 : HpLe G0 G) (h2 : ∀ p ∈ bl0, p ∈ bl) (h3 : ∀ s ∈ sl0, s ∈ sl) {K : Act → World → Prop} (h : Cov nt w0 S0 df ρ (G :: Fs) bl sl K) : Cov nt w0 S0 df ρ (G :: Fs) bl sl (fun a w => ClsO [G0] bl0 sl0 w ∧ K a w) :=
  fun a w hf hi => ⟨ClsO.of_le hi ⟨G, List.mem_cons_self, h1⟩ h2 h3, h a w hf hi⟩
theorem Cov.dqO {d : Nat} {op : Op} {v : Value} {Fs0 : List Hp} {bl0 : Blks} {sl0 : List OwnS} {os : OX} (h : QOp P ρ Fs0 bl0 sl0 op ty v) (hd : Nat.blt d nt = true)
    (hk : Cov nt w0 S0 df ((d, v) :: ρ) Fs bl sl (DO P c R (ClsO Fs0 bl0 sl0) os k)) :
    Cov nt w0 S0 df ρ Fs bl sl (DO P c R (ClsO Fs0 bl0 sl0) (.q ⟨some d, op, ty, none⟩ os) k) := fun a w hf hi => by
  simp only [DO]
  exact ⟨v, .inl ⟨rfl, fun w' hw' => h nt df a w' hf hw'⟩, hk _ w (hf.put hd v) hi⟩
theorem Cov.mv {d : Nat} {x : Operand} {v : Value} {os : List OpX} (hx : ev ρ x = some v) (hd : Nat.blt d nt = true) (h : Cov nt w0 S0 df ((d, v) :: ρ) Fs bl sl (RO P c R os k)) : Cov nt w0 S0 df ρ Fs bl sl (RO P c R (⟨some d, .move x, ty, none⟩ :: os) k) := Cov.q .ro (.move hx) hd h
theorem Cov.av {d : Nat} {x : Operand} {v : Value} {os : List OpX} (hx : ev ρ x = some v) (hd : Nat.blt d nt = true) (h : Cov nt w0 S0 df ((d, v) :: ρ) Fs bl sl (RO P c R os k)) : Cov nt w0 S0 df ρ Fs bl sl (RO P c R (⟨some d, .assign x, ty, none⟩ :: os) k) := Cov.q .ro (.assign hx) hd h
theorem Cov.re (h : Cov nt w0 S0 df ρ Fs bl sl (Run P c R k)) : Cov nt w0 S0 df ρ Fs bl sl (RO P c R [] k) := Cov.region_end h
theorem Cov.arr {ρ' : Env} (h : Cov nt w0 S0 df ρ' Fs bl sl K) (hs : Sub ρ ρ') : Cov nt w0 S0 df ρ Fs bl sl K := Cov.prune _ hs (Cov.same rfl rfl rfl h)
abbrev ri : Rep Int := Rep.int .i64
theorem mcs {β : Type} {x : β} {l : List β} : x ∈ x :: l := List.mem_cons_self
theorem mcm {G : Hp} {Fs : List Hp} : ∀ F, F ∈ Fs → F ∈ G :: Fs := fun _ h => List.mem_cons_of_mem _ h
end
end Go.Proofs.YtfcicopgdahmcaaGreatDoor
end

section
namespace Go.Proofs.YtfcicopgdahmcaaGreatDoor
open Go.RowKit
structure GoN (n : Nat) (A B : Prop) : Prop where
  go : A → B
theorem GoN.done {A : Prop} : GoN 0 A A := ⟨id⟩
theorem GoN.step {n : Nat} {A B C : Prop} (f : B → C) (h : GoN n A B) : GoN (n + 1) A C := ⟨fun a => f (h.go a)⟩
class TyC (P : Program) (t : TypeId) (agg : outParam Bool) (sz bytes : outParam Nat) (z : outParam (List Value)) : Prop where
  o : TyI P t agg sz bytes z
class SlC (P : Program) (t : TypeId) (e : outParam TypeId) : Prop where
  o : slOf P t = some e
class FlC (P : Program) (t : TypeId) (n : Nat) (o : outParam Nat) (e : outParam TypeId) : Prop where
  o : fldOf P t n = some (o, e)
def lits : List Nat := [0, 1, 2, 3, 4, 5, 6, 7, 8, 9, 10, 11, 12, 13, 14, 15, 16, 17, 18, 19, 20]
theorem Xon {i j : Nat} (h : lits[i]? = some j) : i = j := by
  have : i < 21 := by
    rcases Nat.lt_or_ge i 21 with h1 | h1
    · exact h1
    · rw [List.getElem?_eq_none (by simpa [lits] using h1)] at h; cases h
  have key : ∀ i, i < 21 → lits[i]? = some i := by decide
  rw [key i this] at h
  exact Option.some.inj h
section
variable {P : Program} {c : Cx} {R : Value → World → Prop} {nt : Nat} {w0 : World} {S0 : List Nat} {df : List Deferred} {ρ ρ' : Env} {Fs Fs' : List Hp} {bl bl' : Blks} {sl sl' : List OwnS}
  {K K' : Act → World → Prop} {k : List Item} {ty : TypeId} {n : Nat} {A : Prop} {o : List OpX} {C : World → Prop} {x : OX}
theorem GoN.run (h : GoN n A (Cov nt w0 S0 df ρ Fs bl sl (Run P c R k))) : GoN n A (Cov nt w0 S0 df ρ Fs bl sl (Run P c R k)) := h
theorem GoN.ro (h : GoN n A (Cov nt w0 S0 df ρ Fs bl sl (RO P c R o k))) : GoN n A (Cov nt w0 S0 df ρ Fs bl sl (RO P c R o k)) := h
theorem GoN.d (h : GoN n A (Cov nt w0 S0 df ρ Fs bl sl (DO P c R C x k))) : GoN n A (Cov nt w0 S0 df ρ Fs bl sl (DO P c R C x k)) := h
structure QW (P : Program) (ρ : Env) (bl : Blks) (op : Op) (v : Value) : Prop where
  q : ∀ Fs sl ty, QOp P ρ Fs bl sl op ty v
theorem QW.mv {x : Operand} {v : Value} (hx : ev ρ x = some v) : QW P ρ bl (.move x) v := ⟨fun _ _ _ => .move hx⟩
theorem QW.av {x : Operand} {v : Value} (hx : ev ρ x = some v) : QW P ρ bl (.assign x) v := ⟨fun _ _ _ => .assign hx⟩
theorem QW.pt {x y z : Operand} {v : Value} (hx : ev ρ x = some (.bool true)) (hy : ev ρ y = some v) : QW P ρ bl (.pick x y z) v := ⟨fun _ _ _ => .pick_t hx hy⟩
theorem QW.pf {x y z : Operand} {v : Value} (hx : ev ρ x = some (.bool false)) (hz : ev ρ z = some v) : QW P ρ bl (.pick x y z) v := ⟨fun _ _ _ => .pick_f hx hz⟩
theorem QW.add {t u : TypeId} {x y : Operand} {k : IntKind} {m n : Int} (hx : ev ρ x = some (.int k m)) (hy : ev ρ y = some (.int k n)) : QW P ρ bl (.binOp .add t x y u) (.int k (k.wrap (m + n))) := ⟨fun _ _ _ => .addw hx hy⟩
theorem QW.sub {t u : TypeId} {x y : Operand} {k : IntKind} {m n : Int} (hx : ev ρ x = some (.int k m)) (hy : ev ρ y = some (.int k n)) : QW P ρ bl (.binOp .sub t x y u) (.int k (k.wrap (m - n))) := ⟨fun _ _ _ => .subw hx hy⟩
theorem QW.mul {t u : TypeId} {x y : Operand} {k : IntKind} {m n : Int} (hx : ev ρ x = some (.int k m)) (hy : ev ρ y = some (.int k n)) : QW P ρ bl (.binOp .mul t x y u) (.int k (k.wrap (m * n))) := ⟨fun _ _ _ => .mulw hx hy⟩
theorem QW.lss {t u : TypeId} {x y : Operand} {k : IntKind} {m n : Int} (hx : ev ρ x = some (.int k m)) (hy : ev ρ y = some (.int k n)) : QW P ρ bl (.binOp .lss t x y u) (.bool (decide (m < n))) := ⟨fun _ _ _ => .lss hx hy⟩
theorem QW.leq {t u : TypeId} {x y : Operand} {k : IntKind} {m n : Int} (hx : ev ρ x = some (.int k m)) (hy : ev ρ y = some (.int k n)) : QW P ρ bl (.binOp .leq t x y u) (.bool (decide (m ≤ n))) := ⟨fun _ _ _ => .leq hx hy⟩
theorem QW.gtr {t u : TypeId} {x y : Operand} {k : IntKind} {m n : Int} (hx : ev ρ x = some (.int k m)) (hy : ev ρ y = some (.int k n)) : QW P ρ bl (.binOp .gtr t x y u) (.bool (decide (n < m))) := ⟨fun _ _ _ => .gtr hx hy⟩
theorem QW.geq {t u : TypeId} {x y : Operand} {k : IntKind} {m n : Int} (hx : ev ρ x = some (.int k m)) (hy : ev ρ y = some (.int k n)) : QW P ρ bl (.binOp .geq t x y u) (.bool (decide (n ≤ m))) := ⟨fun _ _ _ => .geq hx hy⟩
theorem QW.eql {t u : TypeId} {x y : Operand} {k : IntKind} {m n : Int} (hx : ev ρ x = some (.int k m)) (hy : ev ρ y = some (.int k n)) : QW P ρ bl (.binOp .eql t x y u) (.bool (decide (m = n))) := ⟨fun _ _ _ => .eql hx hy⟩
theorem QW.neq {t u : TypeId} {x y : Operand} {k : IntKind} {m n : Int} (hx : ev ρ x = some (.int k m)) (hy : ev ρ y = some (.int k n)) : QW P ρ bl (.binOp .neq t x y u) (.bool (decide (m ≠ n))) := ⟨fun _ _ _ => .neq hx hy⟩
theorem QW.not {t : TypeId} {x : Operand} {b : Bool} (hx : ev ρ x = some (.bool b)) : QW P ρ bl (.unOp .not t x) (.bool (!b)) := ⟨fun _ _ _ => .not hx⟩
theorem QW.ex {x : Operand} {vs : List Value} {n : Nat} {v : Value} (hx : ev ρ x = some (.tuple vs.toArray)) (hn : vs[n]? = some v) : QW P ρ bl (.extract x n) v := ⟨fun _ _ _ => .extract hx hn⟩
theorem QW.nc {x : Operand} {v : Value} (hx : ev ρ x = some v) (hv : (match v with | .pointer (some _) => true | .func (.func _) _ _ => true | _ => false) = true) : QW P ρ bl (.nilCheck x) v := ⟨fun _ _ _ => .nilCheck hx hv⟩
theorem QW.len {t : TypeId} {el : TypeId} [h : SlC P t el] {x : Operand} {v : Value} {n : Nat} (hx : ev ρ x = some v) (hl : sLen v = some n) : QW P ρ bl (.call ⟨.builtin .len, #[x], #[t]⟩) (.int .i64 n) := ⟨fun _ _ _ => .len_sl hx hl h.o⟩
theorem QW.fa {s : TypeId} {x : Operand} {n b o off o' m : Nat} {ft : TypeId} [hf : FlC P s n off ft] {agg : Bool} {bytes : Nat} {z : List Value} [ht : TyC P ft agg (m + 1) bytes z] (hx : ev ρ x = some (.pointer (some ⟨b, o, none⟩))) (ho : lits[o + off]? = some o') :
    QW P ρ bl (.fieldAddr s x n) (.pointer (some ⟨b, o', none⟩)) := ⟨fun _ _ _ => .fieldAddr o' hx hf.o ht.o.sz (Xon ho)⟩
theorem QW.lo (i : Nat) {t : TypeId} {x : Operand} {b o : Nat} {cs : List Value} {T : TypeId} {fz : Nat × Nat} {v : Value} (hx : ev ρ x = some (.pointer (some ⟨b, o, none⟩))) (h : bl[i]? = some (b, .cells cs.toArray T fz))
    {sz bytes : Nat} {z : List Value} [ht : TyC P t false sz bytes z] (hv : cs[o]? = some v) : QW P ρ bl (.load t x) v := ⟨fun _ _ _ => .load_own i hx h ht.o hv⟩
theorem Cov.qr {d : Nat} {op : Op} {v : Value} {os : List OpX} (h : QW P ρ bl op v) (hd : Nat.blt d nt = true) (hk : Cov nt w0 S0 df ((d, v) :: ρ) Fs bl sl (RO P c R os k)) : Cov nt w0 S0 df ρ Fs bl sl (RO P c R (⟨some d, op, ty, none⟩ :: os) k) := Cov.q .ro (h.q _ _ _) hd hk
theorem Cov.qd {d : Nat} {op : Op} {v : Value} {Fs0 : List Hp} {bl0 : Blks} {os : OX} (h : QW P ρ bl0 op v) (hd : Nat.blt d nt = true) (hk : Cov nt w0 S0 df ((d, v) :: ρ) Fs bl sl (DO P c R (Cls Fs0 bl0) os k)) :
    Cov nt w0 S0 df ρ Fs bl sl (DO P c R (Cls Fs0 bl0) (.q ⟨some d, op, ty, none⟩ os) k) := Cov.dq (h.q _ _ _) hd hk
theorem Cov.go (n : Nat) (h : Cov nt w0 S0 df ρ' Fs' bl' sl' K') (g : GoN n (Cov nt w0 S0 df ρ' Fs' bl' sl' K') (Cov nt w0 S0 df ρ Fs bl sl K) := by
    repeat (first
      | exact GoN.done
      | ((with_reducible refine GoN.run ?_); first | refine GoN.step Cov.seq ?_ | refine GoN.step (fun h => Cov.region rfl h) ?_ | refine GoN.step Cov.skip ?_ | refine GoN.step Cov.inBlock ?_)
      | ((with_reducible refine GoN.ro ?_); first | refine GoN.step (fun h => Cov.qr (by first | exact .mv rfl | exact .av rfl | exact .ex rfl rfl | exact .fa rfl rfl | exact .lo 0 rfl rfl rfl | exact .lo 1 rfl rfl rfl | exact .lo 2 rfl rfl rfl | exact .lo 3 rfl rfl rfl | exact .lo 4 rfl rfl rfl | exact .lo 5 rfl rfl rfl | exact .pt rfl rfl | exact .pf rfl rfl | exact .len rfl rfl | exact .add rfl rfl | exact .lss rfl rfl | exact .neq rfl rfl | exact .gtr rfl rfl | exact .not rfl | exact .sub rfl rfl | exact .geq rfl rfl | exact .mul rfl rfl | exact .eql rfl rfl | exact .leq rfl rfl | exact .nc rfl rfl) rfl h) ?_ | refine GoN.step (fun h => Cov.g_on rfl h) ?_ | refine GoN.step (fun h => Cov.g_off rfl rfl rfl h) ?_ | refine GoN.step Cov.re ?_)
      | ((with_reducible refine GoN.d ?_); first | refine GoN.step (fun h => Cov.qd (by first | exact .mv rfl | exact .av rfl | exact .ex rfl rfl | exact .fa rfl rfl | exact .lo 0 rfl rfl rfl | exact .lo 1 rfl rfl rfl | exact .lo 2 rfl rfl rfl | exact .lo 3 rfl rfl rfl | exact .lo 4 rfl rfl rfl | exact .lo 5 rfl rfl rfl | exact .pt rfl rfl | exact .pf rfl rfl | exact .len rfl rfl | exact .add rfl rfl | exact .lss rfl rfl | exact .neq rfl rfl | exact .gtr rfl rfl | exact .not rfl | exact .sub rfl rfl | exact .geq rfl rfl | exact .mul rfl rfl | exact .eql rfl rfl | exact .leq rfl rfl | exact .nc rfl rfl) rfl h) ?_ | refine GoN.step Cov.draw_end ?_))) : Cov nt w0 S0 df ρ Fs bl sl K := g.go h
theorem Cov.gn (n : Nat) (h : Cov nt w0 S0 df ρ' Fs' bl' sl' K') (g : GoN n (Cov nt w0 S0 df ρ' Fs' bl' sl' K') (Cov nt w0 S0 df ρ Fs bl sl K) := by
    try dsimp only [List.cons_append, List.nil_append]
    repeat (first
      | exact GoN.done
      | ((with_reducible refine GoN.run ?_); first | refine GoN.step Cov.seq ?_ | refine GoN.step (fun h => Cov.region rfl h) ?_ | refine GoN.step Cov.skip ?_ | refine GoN.step Cov.inBlock ?_)
      | ((with_reducible refine GoN.ro ?_); first | refine GoN.step (fun h => Cov.qr (by first | exact .mv rfl | exact .av rfl | exact .ex rfl rfl | exact .fa rfl rfl | exact .lo 0 rfl rfl rfl | exact .lo 1 rfl rfl rfl | exact .lo 2 rfl rfl rfl | exact .lo 3 rfl rfl rfl | exact .lo 4 rfl rfl rfl | exact .lo 5 rfl rfl rfl | exact .pt rfl rfl | exact .pf rfl rfl | exact .len rfl rfl | exact .add rfl rfl | exact .lss rfl rfl | exact .neq rfl rfl | exact .gtr rfl rfl | exact .not rfl | exact .sub rfl rfl | exact .geq rfl rfl | exact .mul rfl rfl | exact .eql rfl rfl | exact .leq rfl rfl | exact .nc rfl rfl) rfl h) ?_ | refine GoN.step (fun h => Cov.g_on rfl h) ?_ | refine GoN.step (fun h => Cov.g_off rfl rfl rfl h) ?_ | refine GoN.step Cov.re ?_)
      | ((with_reducible refine GoN.d ?_); first | refine GoN.step (fun h => Cov.qd (by first | exact .mv rfl | exact .av rfl | exact .ex rfl rfl | exact .fa rfl rfl | exact .lo 0 rfl rfl rfl | exact .lo 1 rfl rfl rfl | exact .lo 2 rfl rfl rfl | exact .lo 3 rfl rfl rfl | exact .lo 4 rfl rfl rfl | exact .lo 5 rfl rfl rfl | exact .pt rfl rfl | exact .pf rfl rfl | exact .len rfl rfl | exact .add rfl rfl | exact .lss rfl rfl | exact .neq rfl rfl | exact .gtr rfl rfl | exact .not rfl | exact .sub rfl rfl | exact .geq rfl rfl | exact .mul rfl rfl | exact .eql rfl rfl | exact .leq rfl rfl | exact .nc rfl rfl) rfl h) ?_ | refine GoN.step Cov.draw_end ?_))) : Cov nt w0 S0 df ρ Fs bl sl K := g.go h
theorem RetS.st {f : FuncId} {fn : Func} {code : Code} {vs : List Value} {bin : Blks} {sin : List OwnS} {Q : Value → Blks → List OwnS → Prop} {G : Hp} (ρ0 : Env) (hf : P.funcs[f]? = some fn) (hn : fn.ntmps = nt) (hG : G ∈ Fs)
    (h : ∀ w0 S0, S0 = blks bin sin → Bd w0 S0 Fs G → Cov nt w0 S0 [] ρ0 (G :: Fs) bin sin (Run P ⟨f, none⟩ (RP w0 S0 Fs (fun v _ bl sl => Q v bl sl)) [.code code])) (hρ : ArgsOk vs ρ0 := by repeat (first | exact trivial | refine ⟨rfl, ?_⟩)) (hb : fn.body = some code := by rfl) (hlen : Nat.ble vs.length nt = true := by rfl) : RetS P f vs.toArray Fs bin sin Q :=
  RetS.of hf hb hn ρ0 hρ hlen hG h
theorem RetW.st {f : FuncId} {fn : Func} {code : Code} {vs : List Value} {bin : Blks} {sin : List OwnS} {Q : Value → Blks → List OwnS → Hp → Prop} {G : Hp} (ρ0 : Env) (hf : P.funcs[f]? = some fn) (hn : fn.ntmps = nt) (hG : G ∈ Fs)
    (h : ∀ w0 S0, S0 = blks bin sin → Bd w0 S0 Fs G → Cov nt w0 S0 [] ρ0 (G :: Fs) bin sin (Run P ⟨f, none⟩ (RP w0 S0 Fs (fun v Fr bl sl => ∀ G', Ext (Fr :: Fs) G' → Q v bl sl G')) [.code code])) (hρ : ArgsOk vs ρ0 := by repeat (first | exact trivial | refine ⟨rfl, ?_⟩)) (hb : fn.body = some code := by rfl) (hlen : Nat.ble vs.length nt = true := by rfl) : RetW P f vs.toArray Fs bin sin Q :=
  RetW.of hf hb hn ρ0 hρ hlen hG h
abbrev rv (x : Value) : Value → Blks → List OwnS → Prop := fun v bo so => v = x ∧ bo = [] ∧ so = []
section
variable {d : Nat} {f : FuncId} {fop : Operand} {args : Array Operand} {ts : Array TypeId} {os : List OpX} {ot : OX}
theorem Cov.cS (vs : List Value) {Q : Value → Blks → List OwnS → Prop} (hcall : ∀ args w, (callFunc f args).run P w = .ok (.enter f args) w) (hr : RetS P f (vs ++ []).toArray Fs [] [] Q)
    (hk : ∀ v bo so, Q v bo so → Cov nt w0 S0 df ((d, v) :: ρ) Fs (bo ++ bl) (so ++ sl) (RO P c R os k)) (hf : ev ρ fop = some (.func (.func f) #[] #[]) := by rfl) (ha : args.toList.map (ev ρ) = vs.map some := by rfl) (hd : Nat.blt d nt = true := by rfl) :
    Cov nt w0 S0 df ρ Fs bl sl (RO P c R (⟨some d, .call ⟨.value fop, args, ts⟩, ty, none⟩ :: os) k) := Cov.callS (b1 := []) (s1 := []) vs [] .ro hf ha hcall rfl rfl hr hd hk
theorem Cov.cSd (vs : List Value) {Q : Value → Blks → List OwnS → Prop} (hcall : ∀ args w, (callFunc f args).run P w = .ok (.enter f args) w) (hr : RetS P f (vs ++ []).toArray Fs [] [] Q)
    (hk : ∀ v bo so, Q v bo so → Cov nt w0 S0 df ((d, v) :: ρ) Fs (bo ++ bl) (so ++ sl) (fun a w => C w ∧ DO P c R C ot k a w)) (hf : ev ρ fop = some (.func (.func f) #[] #[]) := by rfl) (ha : args.toList.map (ev ρ) = vs.map some := by rfl) (hd : Nat.blt d nt = true := by rfl) :
    Cov nt w0 S0 df ρ Fs bl sl (DO P c R C (.e ⟨some d, .call ⟨.value fop, args, ts⟩, ty, none⟩ 1 ot) k) := Cov.callS (b1 := []) (s1 := []) vs [] .d1 hf ha hcall rfl rfl hr hd hk
theorem Cov.cV (vs : List Value) {v : Value} (hcall : ∀ args w, (callFunc f args).run P w = .ok (.enter f args) w) (hr : RetS P f (vs ++ []).toArray Fs [] [] (rv v))
    (hk : Cov nt w0 S0 df ((d, v) :: ρ) Fs bl sl (RO P c R os k)) (hf : ev ρ fop = some (.func (.func f) #[] #[]) := by rfl) (ha : args.toList.map (ev ρ) = vs.map some := by rfl) (hd : Nat.blt d nt = true := by rfl) :
    Cov nt w0 S0 df ρ Fs bl sl (RO P c R (⟨some d, .call ⟨.value fop, args, ts⟩, ty, none⟩ :: os) k) := Cov.cS vs hcall hr (fun v' bo so h => by obtain ⟨rfl, rfl, rfl⟩ := h; exact hk) hf ha hd
theorem Cov.cVd (vs : List Value) {v : Value} (hcall : ∀ args w, (callFunc f args).run P w = .ok (.enter f args) w) (hr : RetS P f (vs ++ []).toArray Fs [] [] (rv v))
    (hk : Cov nt w0 S0 df ((d, v) :: ρ) Fs bl sl (fun a w => C w ∧ DO P c R C ot k a w)) (hf : ev ρ fop = some (.func (.func f) #[] #[]) := by rfl) (ha : args.toList.map (ev ρ) = vs.map some := by rfl) (hd : Nat.blt d nt = true := by rfl) :
    Cov nt w0 S0 df ρ Fs bl sl (DO P c R C (.e ⟨some d, .call ⟨.value fop, args, ts⟩, ty, none⟩ 1 ot) k) := Cov.cSd vs hcall hr (fun v' bo so h => by obtain ⟨rfl, rfl, rfl⟩ := h; exact hk) hf ha hd
theorem Cov.cW {G : Hp} {B : List Hp} (vs : List Value) {Q : Value → Blks → List OwnS → Hp → Prop} (hcall : ∀ args w, (callFunc f args).run P w = .ok (.enter f args) w) (hr : RetW P f (vs ++ []).toArray (G :: B) [] [] Q) (hB : Bd w0 S0 B G)
    (hk : ∀ v bo so G', HpLe G G' → Bd w0 S0 B G' → Q v bo so G' → Cov nt w0 S0 df ((d, v) :: ρ) (G' :: B) (bo ++ bl) (so ++ sl) (RO P c R os k)) (hf : ev ρ fop = some (.func (.func f) #[] #[]) := by rfl) (ha : args.toList.map (ev ρ) = vs.map some := by rfl) (hd : Nat.blt d nt = true := by rfl) :
    Cov nt w0 S0 df ρ (G :: B) bl sl (RO P c R (⟨some d, .call ⟨.value fop, args, ts⟩, ty, none⟩ :: os) k) := Cov.callW (b1 := []) (s1 := []) vs [] .ro hf ha hcall rfl rfl hr hd hB hk
end
section
variable {fn : Func} {items : List Item} {Fin : List Hp} {G : Hp}
theorem Cov.rS (rs : List ResultVar) (vs : List Value) {Q : Value → Blks → List OwnS → Prop} (hf : P.funcs[c.fn]? = some fn) (hrs : fn.results = rs.toArray) (hpost : Q (retVal vs) bl sl)
    (hit : items = [] ∨ ∃ k, items = .code .ret :: k := by first | exact .inr ⟨_, rfl⟩ | exact .inl rfl) (hro : c.ro = none := by rfl) (hres : RVs P ρ Fs bl sl rs vs := by repeat (first | exact trivial | refine ⟨RV.tmp rfl, ?_⟩)) (hsub : ∀ F ∈ Fin, F ∈ Fs := by exact fun _ h => List.mem_cons_of_mem _ h) :
    Cov nt w0 S0 [] ρ Fs bl sl (Run P c (RP w0 S0 Fin (fun v _ bl sl => Q v bl sl)) items) := Cov.retS hit rs vs hro hf hrs hres hsub hpost
theorem Cov.rW (n : Nat) (rs : List ResultVar) (vs : List Value) {B : List Nat} {Q : Value → Blks → List OwnS → Hp → Prop} (hf : P.funcs[c.fn]? = some fn) (hrs : fn.results = rs.toArray) (hres : RVs P ρ (G :: Fs) bl sl rs vs) (hbd : Bd w0 S0 Fin G) (hS0 : S0 = B)
    (hpost : ∀ G', HpLe G G' → Q (retVal vs) (bl.drop n) sl G') (hit : items = [] ∨ ∃ k, items = .code .ret :: k := by first | exact .inr ⟨_, rfl⟩ | exact .inl rfl) (hro : c.ro = none := by rfl) (hsub : ∀ F ∈ Fin, F ∈ G :: Fs := by exact fun _ h => List.mem_cons_of_mem _ h) (hS : ∀ b ∈ B, b ∈ blks bl sl := by simp [blks]) :
    Cov nt w0 S0 [] ρ (G :: Fs) bl sl (Run P c (RP w0 S0 Fin (fun v Fr bl sl => ∀ G', Ext (Fr :: Fin) G' → Q v bl sl G')) items) := Cov.retWD n hit rs vs hro hf hrs hres hsub List.mem_cons_self hbd (by subst hS0; exact hS) hpost
end
theorem Cov.cH {α : Type} {x y : Code} {o : Operand} {p : Prop} [Decidable p] {A B r : α} (hr : (if p then A else B) = r) (ht : p → A = r → Cov nt w0 S0 df ρ Fs bl sl (Run P c R (.code x :: k))) (hf : ¬ p → B = r → Cov nt w0 S0 df ρ Fs bl sl (Run P c R (.code y :: k)))
    (hc : ev ρ o = some (.bool (decide p)) := by rfl) : Cov nt w0 S0 df ρ Fs bl sl (Run P c R (.code (.cond o x y) :: k)) := Cov.cond_dec hc (fun h => ht h (ifT hr h)) (fun h => hf h (ifF hr h))
theorem Cov.cB {α : Type} {x y : Code} {o : Operand} {p : Bool} {A B r : α} (hr : (if p = true then A else B) = r) (ht : p = true → A = r → Cov nt w0 S0 df ρ Fs bl sl (Run P c R (.code x :: k))) (hf : p = false → B = r → Cov nt w0 S0 df ρ Fs bl sl (Run P c R (.code y :: k)))
    (hc : ev ρ o = some (.bool p) := by rfl) : Cov nt w0 S0 df ρ Fs bl sl (Run P c R (.code (.cond o x y) :: k)) := Cov.cond hc (fun h => ht h (ifT hr h)) (fun h => hf h (ifBF hr h))
structure Stt where
  e : Env
  f : List Hp
  b : Blks
  s : List OwnS
theorem Cov.ax (h : Cov nt w0 S0 df ρ' Fs' bl' sl' K) (hs : Sub ρ ρ') (h1 : bl = bl' := by rfl) (h2 : sl = sl' := by rfl) (h3 : Fs = Fs' := by rfl) : Cov nt w0 S0 df ρ Fs bl sl K := Cov.prune _ hs (Cov.same h1 h2 h3 h)
theorem Cov.ar (h : Cov nt w0 S0 df ρ' Fs' bl' sl' K) (hs : Sub ρ ρ' := by repeat (first | exact trivial | refine ⟨rfl, ?_⟩)) (h1 : bl = bl' := by rfl) (h2 : sl = sl' := by rfl) (h3 : Fs = Fs' := by rfl) : Cov nt w0 S0 df ρ Fs bl sl K := Cov.ax h hs h1 h2 h3
section
set_option linter.unusedVariables false
variable (J : Stt → Prop) (ρs : Env) (bls : Blks) (ib : List Nat) (sls : List OwnS) (is : List Nat)
theorem Cov.kB {id : Nat} {x : Code} (hk : ∀ y, J y → Cov nt w0 S0 df (y.e ++ ρs) y.f (y.b ++ bls) (y.s ++ sls) (Run P c R k))
    (h : (∀ y, J y → Cov nt w0 S0 df (y.e ++ ρs) y.f (y.b ++ bls) (y.s ++ sls) (Run P c R k)) → Cov nt w0 S0 df ρ Fs bl sl (Run P c R (.code (.block id x) :: k)))
    (hρ : Sub ρ ρs := by repeat (first | exact trivial | refine ⟨rfl, ?_⟩)) (hb : ib.map (bl[·]?) = bls.map some := by rfl) (hs : is.map (sl[·]?) = sls.map some := by rfl) : Cov nt w0 S0 df ρ Fs bl sl (Run P c R (.code (.block id x) :: k)) := h hk
theorem Cov.kI {o : Operand} {x y : Code} (hk : ∀ y, J y → Cov nt w0 S0 df (y.e ++ ρs) y.f (y.b ++ bls) (y.s ++ sls) (Run P c R k))
    (h : (∀ y, J y → Cov nt w0 S0 df (y.e ++ ρs) y.f (y.b ++ bls) (y.s ++ sls) (Run P c R k)) → Cov nt w0 S0 df ρ Fs bl sl (Run P c R (.code (.cond o x y) :: k)))
    (hρ : Sub ρ ρs := by repeat (first | exact trivial | refine ⟨rfl, ?_⟩)) (hb : ib.map (bl[·]?) = bls.map some := by rfl) (hs : is.map (sl[·]?) = sls.map some := by rfl) : Cov nt w0 S0 df ρ Fs bl sl (Run P c R (.code (.cond o x y) :: k)) := h hk
theorem Cov.kG {id : Nat} {ops : Array Oper} {dr : Bool} (hk : ∀ y, J y → Cov nt w0 S0 df (y.e ++ ρs) y.f (y.b ++ bls) (y.s ++ sls) (Run P c R k))
    (h : (∀ y, J y → Cov nt w0 S0 df (y.e ++ ρs) y.f (y.b ++ bls) (y.s ++ sls) (Run P c R k)) → Cov nt w0 S0 df ρ Fs bl sl (Run P c R (.code (.region id ops dr) :: k)))
    (hρ : Sub ρ ρs := by repeat (first | exact trivial | refine ⟨rfl, ?_⟩)) (hb : ib.map (bl[·]?) = bls.map some := by rfl) (hs : is.map (sl[·]?) = sls.map some := by rfl) : Cov nt w0 S0 df ρ Fs bl sl (Run P c R (.code (.region id ops dr) :: k)) := h hk
theorem Cov.kR (n : Nat) {os : List OpX} (hk : ∀ y, J y → Cov nt w0 S0 df (y.e ++ ρs) y.f (y.b ++ bls) (y.s ++ sls) (RO P c R (os.drop n) k))
    (h : (∀ y, J y → Cov nt w0 S0 df (y.e ++ ρs) y.f (y.b ++ bls) (y.s ++ sls) (RO P c R (os.drop n) k)) → Cov nt w0 S0 df ρ Fs bl sl (RO P c R os k))
    (hρ : Sub ρ ρs := by repeat (first | exact trivial | refine ⟨rfl, ?_⟩)) (hb : ib.map (bl[·]?) = bls.map some := by rfl) (hs : is.map (sl[·]?) = sls.map some := by rfl) : Cov nt w0 S0 df ρ Fs bl sl (RO P c R os k) := h hk
theorem Cov.kD (n : Nat) {t : OX} (hk : ∀ y, J y → Cov nt w0 S0 df (y.e ++ ρs) y.f (y.b ++ bls) (y.s ++ sls) (DO P c R C (t.after n) k))
    (h : (∀ y, J y → Cov nt w0 S0 df (y.e ++ ρs) y.f (y.b ++ bls) (y.s ++ sls) (DO P c R C (t.after n) k)) → Cov nt w0 S0 df ρ Fs bl sl (DO P c R C t k))
    (hρ : Sub ρ ρs := by repeat (first | exact trivial | refine ⟨rfl, ?_⟩)) (hb : ib.map (bl[·]?) = bls.map some := by rfl) (hs : is.map (sl[·]?) = sls.map some := by rfl) : Cov nt w0 S0 df ρ Fs bl sl (DO P c R C t k) := h hk
end
theorem Cov.lp (J : Stt → Nat → Prop) (ρs : Env) (bls : Blks) (sls : List OwnS) {x : Code} {y0 : Stt} {m0 : Nat} (hI : J y0 m0)
    (round : ∀ y m, J y m → (∀ z m', J z m' → m' < m → Cov nt w0 S0 df (z.e ++ ρs) (z.f ++ Fs) (z.b ++ bls) (z.s ++ sls) (Run P c R (.inLoop x :: k))) → Cov nt w0 S0 df (y.e ++ ρs) (y.f ++ Fs) (y.b ++ bls) (y.s ++ sls) (Run P c R (.code x :: .inLoop x :: k)))
    (hρ : Sub ρ (y0.e ++ ρs) := by repeat (first | exact trivial | refine ⟨rfl, ?_⟩)) (hF : Fs' = y0.f ++ Fs := by rfl) (hb : bl = y0.b ++ bls := by rfl) (hs : sl = y0.s ++ sls := by rfl) : Cov nt w0 S0 df ρ Fs' bl sl (Run P c R (.code (.loop x) :: k)) :=
  Cov.loop2 (α := Stt × Nat) (fun y => y.1.e) ρs (fun y => y.1.f) (fun y => y.1.b) bls (fun y => y.1.s) sls (fun y => J y.1 y.2) (fun y => y.2) (y0, m0) hI hρ hF hb hs fun y hy hz => round y.1 y.2 hy fun z m' h1 h2 => hz (z, m') h1 h2
end
end Go.Proofs.YtfcicopgdahmcaaGreatDoor
end

section
set_option maxHeartbeats 4000000
set_option maxRecDepth 100000
namespace Go.Proofs.YtfcicopgdahmcaaGreatDoor
open Go.RowKit
set_option linter.unusedSimpArgs false
set_option linter.unusedVariables false
set_option synthInstance.maxSize 2000
set_option synthInstance.maxHeartbeats 400000
variable {Fs : List Hp} {G : Hp} {a1 a3 a0 a2 a0_0 a0_2 a4_0 : Option Addr} {k1 k3 k0 k2 k0_0 p0 k0_2 k4_0 : Nat} {cc1 cc0_2 : List Value} {bb1 : Option Nat} {p1 : Value}
theorem ty3 : TyI Tryz.prog 3 false 1 8 [.int .i64 0] := ⟨by kernel_rfl, by kernel_rfl, by kernel_rfl, by kernel_rfl⟩
instance : TyC Tryz.prog 3 false 1 8 [.int .i64 0] := ⟨ty3⟩
theorem ty4 : TyI Tryz.prog 4 false 1 1 [.bool false] := ⟨by kernel_rfl, by kernel_rfl, by kernel_rfl, by kernel_rfl⟩
instance : TyC Tryz.prog 4 false 1 1 [.bool false] := ⟨ty4⟩
theorem ty5 : TyI Tryz.prog 5 false 1 1 [.int .u8 0] := ⟨by kernel_rfl, by kernel_rfl, by kernel_rfl, by kernel_rfl⟩
instance : TyC Tryz.prog 5 false 1 1 [.int .u8 0] := ⟨ty5⟩
theorem ty9 : TyI Tryz.prog 9 false 1 16 [.string ⟨#[]⟩] := ⟨by kernel_rfl, by kernel_rfl, by kernel_rfl, by kernel_rfl⟩
instance : TyC Tryz.prog 9 false 1 16 [.string ⟨#[]⟩] := ⟨ty9⟩
theorem ty22 : TyI Tryz.prog 22 false 1 24 [.slice none 0 0] := ⟨by kernel_rfl, by kernel_rfl, by kernel_rfl, by kernel_rfl⟩
instance : TyC Tryz.prog 22 false 1 24 [.slice none 0 0] := ⟨ty22⟩
theorem ty33 : TyI Tryz.prog 33 false 1 8 [.int .i64 0] := ⟨by kernel_rfl, by kernel_rfl, by kernel_rfl, by kernel_rfl⟩
instance : TyC Tryz.prog 33 false 1 8 [.int .i64 0] := ⟨ty33⟩
theorem ty45 : TyI Tryz.prog 45 true 1 8 [.int .i64 0] := ⟨by kernel_rfl, by kernel_rfl, by kernel_rfl, by kernel_rfl⟩
instance : TyC Tryz.prog 45 true 1 8 [.int .i64 0] := ⟨ty45⟩
theorem ty51 : TyI Tryz.prog 51 false 1 24 [.slice none 0 0] := ⟨by kernel_rfl, by kernel_rfl, by kernel_rfl, by kernel_rfl⟩
instance : TyC Tryz.prog 51 false 1 24 [.slice none 0 0] := ⟨ty51⟩
theorem ty56 : TyI Tryz.prog 56 true 2 32 [.slice none 0 0, .int .i64 0] := ⟨by kernel_rfl, by kernel_rfl, by kernel_rfl, by kernel_rfl⟩
instance : TyC Tryz.prog 56 true 2 32 [.slice none 0 0, .int .i64 0] := ⟨ty56⟩
theorem ty60 : TyI Tryz.prog 60 false 1 24 [.slice none 0 0] := ⟨by kernel_rfl, by kernel_rfl, by kernel_rfl, by kernel_rfl⟩
instance : TyC Tryz.prog 60 false 1 24 [.slice none 0 0] := ⟨ty60⟩
theorem ty63 : TyI Tryz.prog 63 true 2 32 [.bool false, .slice none 0 0] := ⟨by kernel_rfl, by kernel_rfl, by kernel_rfl, by kernel_rfl⟩
instance : TyC Tryz.prog 63 true 2 32 [.bool false, .slice none 0 0] := ⟨ty63⟩
theorem ty65 : TyI Tryz.prog 65 true 2 48 [.slice none 0 0, .slice none 0 0] := ⟨by kernel_rfl, by kernel_rfl, by kernel_rfl, by kernel_rfl⟩
instance : TyC Tryz.prog 65 true 2 48 [.slice none 0 0, .slice none 0 0] := ⟨ty65⟩
theorem ty69 : TyI Tryz.prog 69 true 2 16 [.int .i64 0, .int .i64 0] := ⟨by kernel_rfl, by kernel_rfl, by kernel_rfl, by kernel_rfl⟩
instance : TyC Tryz.prog 69 true 2 16 [.int .i64 0, .int .i64 0] := ⟨ty69⟩
theorem ty81 : TyI Tryz.prog 81 false 1 24 [.slice none 0 0] := ⟨by kernel_rfl, by kernel_rfl, by kernel_rfl, by kernel_rfl⟩
instance : TyC Tryz.prog 81 false 1 24 [.slice none 0 0] := ⟨ty81⟩
theorem ty94 : TyI Tryz.prog 94 false 1 24 [.slice none 0 0] := ⟨by kernel_rfl, by kernel_rfl, by kernel_rfl, by kernel_rfl⟩
instance : TyC Tryz.prog 94 false 1 24 [.slice none 0 0] := ⟨ty94⟩
theorem ty96 : TyI Tryz.prog 96 true 2 32 [.int .i64 0, .slice none 0 0] := ⟨by kernel_rfl, by kernel_rfl, by kernel_rfl, by kernel_rfl⟩
instance : TyC Tryz.prog 96 true 2 32 [.int .i64 0, .slice none 0 0] := ⟨ty96⟩
theorem ty100 : TyI Tryz.prog 100 true 4 48 [.int .i64 0, .int .i64 0, .int .i64 0, .slice none 0 0] := ⟨by kernel_rfl, by kernel_rfl, by kernel_rfl, by kernel_rfl⟩
instance : TyC Tryz.prog 100 true 4 48 [.int .i64 0, .int .i64 0, .int .i64 0, .slice none 0 0] := ⟨ty100⟩
theorem ty104 : TyI Tryz.prog 104 true 5 40 [.int .i64 0, .int .i64 0, .int .i64 0, .int .i64 0, .int .i64 0] := ⟨by kernel_rfl, by kernel_rfl, by kernel_rfl, by kernel_rfl⟩
instance : TyC Tryz.prog 104 true 5 40 [.int .i64 0, .int .i64 0, .int .i64 0, .int .i64 0, .int .i64 0] := ⟨ty104⟩
theorem ty115 : TyI Tryz.prog 115 true 3 24 [.int .i64 0, .int .i64 0, .int .i64 0] := ⟨by kernel_rfl, by kernel_rfl, by kernel_rfl, by kernel_rfl⟩
instance : TyC Tryz.prog 115 true 3 24 [.int .i64 0, .int .i64 0, .int .i64 0] := ⟨ty115⟩
theorem ty121 : TyI Tryz.prog 121 true 2 32 [.slice none 0 0, .int .i64 0] := ⟨by kernel_rfl, by kernel_rfl, by kernel_rfl, by kernel_rfl⟩
instance : TyC Tryz.prog 121 true 2 32 [.slice none 0 0, .int .i64 0] := ⟨ty121⟩
theorem ty123 : TyI Tryz.prog 123 false 1 24 [.slice none 0 0] := ⟨by kernel_rfl, by kernel_rfl, by kernel_rfl, by kernel_rfl⟩
instance : TyC Tryz.prog 123 false 1 24 [.slice none 0 0] := ⟨ty123⟩
theorem ty140 : TyI Tryz.prog 140 false 1 8 [.int .i64 0] := ⟨by kernel_rfl, by kernel_rfl, by kernel_rfl, by kernel_rfl⟩
instance : TyC Tryz.prog 140 false 1 8 [.int .i64 0] := ⟨ty140⟩
theorem ty162 : TyI Tryz.prog 162 true 3 40 [.int .i64 0, .int .i64 0, .slice none 0 0] := ⟨by kernel_rfl, by kernel_rfl, by kernel_rfl, by kernel_rfl⟩
instance : TyC Tryz.prog 162 true 3 40 [.int .i64 0, .int .i64 0, .slice none 0 0] := ⟨ty162⟩
theorem ty168 : TyI Tryz.prog 168 true 2 16 [.int .i64 0, .int .i64 0] := ⟨by kernel_rfl, by kernel_rfl, by kernel_rfl, by kernel_rfl⟩
instance : TyC Tryz.prog 168 true 2 16 [.int .i64 0, .int .i64 0] := ⟨ty168⟩
theorem ty184 : TyI Tryz.prog 184 false 1 8 [.nilFunc] := ⟨by kernel_rfl, by kernel_rfl, by kernel_rfl, by kernel_rfl⟩
instance : TyC Tryz.prog 184 false 1 8 [.nilFunc] := ⟨ty184⟩
theorem ty207 : TyI Tryz.prog 207 true 2 32 [.slice none 0 0, .int .i64 0] := ⟨by kernel_rfl, by kernel_rfl, by kernel_rfl, by kernel_rfl⟩
instance : TyC Tryz.prog 207 true 2 32 [.slice none 0 0, .int .i64 0] := ⟨ty207⟩
theorem ty209 : TyI Tryz.prog 209 true 3 56 [.slice none 0 0, .int .i64 0, .slice none 0 0] := ⟨by kernel_rfl, by kernel_rfl, by kernel_rfl, by kernel_rfl⟩
instance : TyC Tryz.prog 209 true 3 56 [.slice none 0 0, .int .i64 0, .slice none 0 0] := ⟨ty209⟩
theorem ty215 : TyI Tryz.prog 215 true 2 48 [.slice none 0 0, .slice none 0 0] := ⟨by kernel_rfl, by kernel_rfl, by kernel_rfl, by kernel_rfl⟩
instance : TyC Tryz.prog 215 true 2 48 [.slice none 0 0, .slice none 0 0] := ⟨ty215⟩
theorem ty218 : TyI Tryz.prog 218 false 1 24 [.slice none 0 0] := ⟨by kernel_rfl, by kernel_rfl, by kernel_rfl, by kernel_rfl⟩
instance : TyC Tryz.prog 218 false 1 24 [.slice none 0 0] := ⟨ty218⟩
theorem ty220 : TyI Tryz.prog 220 true 2 16 [.int .i64 0, .bool false] := ⟨by kernel_rfl, by kernel_rfl, by kernel_rfl, by kernel_rfl⟩
instance : TyC Tryz.prog 220 true 2 16 [.int .i64 0, .bool false] := ⟨ty220⟩
theorem ty233 : TyI Tryz.prog 233 false 1 16 [.nilIface] := ⟨by kernel_rfl, by kernel_rfl, by kernel_rfl, by kernel_rfl⟩
instance : TyC Tryz.prog 233 false 1 16 [.nilIface] := ⟨ty233⟩
theorem ty256 : TyI Tryz.prog 256 true 5 72 [.int .i64 0, .int .i64 0, .int .i64 0, .slice none 0 0, .slice none 0 0] := ⟨by kernel_rfl, by kernel_rfl, by kernel_rfl, by kernel_rfl⟩
instance : TyC Tryz.prog 256 true 5 72 [.int .i64 0, .int .i64 0, .int .i64 0, .slice none 0 0, .slice none 0 0] := ⟨ty256⟩
theorem ty268 : TyI Tryz.prog 268 true 1 8 [.int .i64 0] := ⟨by kernel_rfl, by kernel_rfl, by kernel_rfl, by kernel_rfl⟩
instance : TyC Tryz.prog 268 true 1 8 [.int .i64 0] := ⟨ty268⟩
theorem ty271 : TyI Tryz.prog 271 false 1 8 [.int .u64 0] := ⟨by kernel_rfl, by kernel_rfl, by kernel_rfl, by kernel_rfl⟩
instance : TyC Tryz.prog 271 false 1 8 [.int .u64 0] := ⟨ty271⟩
theorem ty284 : TyI Tryz.prog 284 true 32 256 [.int .i64 0, .int .i64 0, .int .i64 0, .int .i64 0, .int .i64 0, .int .i64 0, .int .i64 0, .int .i64 0, .int .i64 0, .int .i64 0, .int .i64 0, .int .i64 0, .int .i64 0, .int .i64 0, .int .i64 0, .int .i64 0, .int .i64 0, .int .i64 0, .int .i64 0, .int .i64 0, .int .i64 0, .int .i64 0, .int .i64 0, .int .i64 0, .int .i64 0, .int .i64 0, .int .i64 0, .int .i64 0, .int .i64 0, .int .i64 0, .int .i64 0, .int .i64 0] := ⟨by kernel_rfl, by kernel_rfl, by kernel_rfl, by kernel_rfl⟩
instance : TyC Tryz.prog 284 true 32 256 [.int .i64 0, .int .i64 0, .int .i64 0, .int .i64 0, .int .i64 0, .int .i64 0, .int .i64 0, .int .i64 0, .int .i64 0, .int .i64 0, .int .i64 0, .int .i64 0, .int .i64 0, .int .i64 0, .int .i64 0, .int .i64 0, .int .i64 0, .int .i64 0, .int .i64 0, .int .i64 0, .int .i64 0, .int .i64 0, .int .i64 0, .int .i64 0, .int .i64 0, .int .i64 0, .int .i64 0, .int .i64 0, .int .i64 0, .int .i64 0, .int .i64 0, .int .i64 0] := ⟨ty284⟩
theorem ty286 : TyI Tryz.prog 286 true 36 304 [.int .i64 0, .int .i64 0, .slice none 0 0, .int .i64 0, .int .i64 0, .int .i64 0, .int .i64 0, .int .i64 0, .int .i64 0, .int .i64 0, .int .i64 0, .int .i64 0, .int .i64 0, .int .i64 0, .int .i64 0, .int .i64 0, .int .i64 0, .int .i64 0, .int .i64 0, .int .i64 0, .int .i64 0, .int .i64 0, .int .i64 0, .int .i64 0, .int .i64 0, .int .i64 0, .int .i64 0, .int .i64 0, .int .i64 0, .int .i64 0, .int .i64 0, .int .i64 0, .int .i64 0, .int .i64 0, .int .i64 0, .int .i64 0] := ⟨by kernel_rfl, by kernel_rfl, by kernel_rfl, by kernel_rfl⟩
instance : TyC Tryz.prog 286 true 36 304 [.int .i64 0, .int .i64 0, .slice none 0 0, .int .i64 0, .int .i64 0, .int .i64 0, .int .i64 0, .int .i64 0, .int .i64 0, .int .i64 0, .int .i64 0, .int .i64 0, .int .i64 0, .int .i64 0, .int .i64 0, .int .i64 0, .int .i64 0, .int .i64 0, .int .i64 0, .int .i64 0, .int .i64 0, .int .i64 0, .int .i64 0, .int .i64 0, .int .i64 0, .int .i64 0, .int .i64 0, .int .i64 0, .int .i64 0, .int .i64 0, .int .i64 0, .int .i64 0, .int .i64 0, .int .i64 0, .int .i64 0, .int .i64 0] := ⟨ty286⟩
theorem Xk7 : fldOf Tryz.prog 45 0 = some (0, 3) := by kernel_rfl
instance : FlC Tryz.prog 45 0 0 3 := ⟨Xk7⟩
theorem Xr0 : fldOf Tryz.prog 56 0 = some (0, 22) := by kernel_rfl
instance : FlC Tryz.prog 56 0 0 22 := ⟨Xr0⟩
theorem Xr1 : fldOf Tryz.prog 56 1 = some (1, 3) := by kernel_rfl
instance : FlC Tryz.prog 56 1 1 3 := ⟨Xr1⟩
theorem Xr2 : fldOf Tryz.prog 63 0 = some (0, 4) := by kernel_rfl
instance : FlC Tryz.prog 63 0 0 4 := ⟨Xr2⟩
theorem Xk8 : fldOf Tryz.prog 63 1 = some (1, 22) := by kernel_rfl
instance : FlC Tryz.prog 63 1 1 22 := ⟨Xk8⟩
theorem Xr3 : fldOf Tryz.prog 65 0 = some (0, 22) := by kernel_rfl
instance : FlC Tryz.prog 65 0 0 22 := ⟨Xr3⟩
theorem Xr4 : fldOf Tryz.prog 65 1 = some (1, 22) := by kernel_rfl
instance : FlC Tryz.prog 65 1 1 22 := ⟨Xr4⟩
theorem Xr5 : fldOf Tryz.prog 69 0 = some (0, 3) := by kernel_rfl
instance : FlC Tryz.prog 69 0 0 3 := ⟨Xr5⟩
theorem Xr6 : fldOf Tryz.prog 69 1 = some (1, 3) := by kernel_rfl
instance : FlC Tryz.prog 69 1 1 3 := ⟨Xr6⟩
theorem Xr7 : fldOf Tryz.prog 96 0 = some (0, 3) := by kernel_rfl
instance : FlC Tryz.prog 96 0 0 3 := ⟨Xr7⟩
theorem Xr8 : fldOf Tryz.prog 96 1 = some (1, 94) := by kernel_rfl
instance : FlC Tryz.prog 96 1 1 94 := ⟨Xr8⟩
theorem Xoo : fldOf Tryz.prog 100 0 = some (0, 3) := by kernel_rfl
instance : FlC Tryz.prog 100 0 0 3 := ⟨Xoo⟩
theorem Xop : fldOf Tryz.prog 100 1 = some (1, 45) := by kernel_rfl
instance : FlC Tryz.prog 100 1 1 45 := ⟨Xop⟩
theorem Xoq : fldOf Tryz.prog 100 2 = some (2, 3) := by kernel_rfl
instance : FlC Tryz.prog 100 2 2 3 := ⟨Xoq⟩
theorem Xor : fldOf Tryz.prog 100 3 = some (3, 51) := by kernel_rfl
instance : FlC Tryz.prog 100 3 3 51 := ⟨Xor⟩
theorem Xos : fldOf Tryz.prog 104 1 = some (1, 3) := by kernel_rfl
instance : FlC Tryz.prog 104 1 1 3 := ⟨Xos⟩
theorem Xot : fldOf Tryz.prog 104 2 = some (2, 3) := by kernel_rfl
instance : FlC Tryz.prog 104 2 2 3 := ⟨Xot⟩
theorem Xou : fldOf Tryz.prog 104 3 = some (3, 3) := by kernel_rfl
instance : FlC Tryz.prog 104 3 3 3 := ⟨Xou⟩
theorem Xov : fldOf Tryz.prog 104 4 = some (4, 3) := by kernel_rfl
instance : FlC Tryz.prog 104 4 4 3 := ⟨Xov⟩
theorem Xow : fldOf Tryz.prog 115 0 = some (0, 3) := by kernel_rfl
instance : FlC Tryz.prog 115 0 0 3 := ⟨Xow⟩
theorem Xfy : fldOf Tryz.prog 115 1 = some (1, 3) := by kernel_rfl
instance : FlC Tryz.prog 115 1 1 3 := ⟨Xfy⟩
theorem Xox : fldOf Tryz.prog 115 2 = some (2, 3) := by kernel_rfl
instance : FlC Tryz.prog 115 2 2 3 := ⟨Xox⟩
theorem Xoy : fldOf Tryz.prog 121 0 = some (0, 22) := by kernel_rfl
instance : FlC Tryz.prog 121 0 0 22 := ⟨Xoy⟩
theorem Xoz : fldOf Tryz.prog 121 1 = some (1, 3) := by kernel_rfl
instance : FlC Tryz.prog 121 1 1 3 := ⟨Xoz⟩
theorem Xp0 : fldOf Tryz.prog 162 0 = some (0, 45) := by kernel_rfl
instance : FlC Tryz.prog 162 0 0 45 := ⟨Xp0⟩
theorem Xp1 : fldOf Tryz.prog 162 1 = some (1, 3) := by kernel_rfl
instance : FlC Tryz.prog 162 1 1 3 := ⟨Xp1⟩
theorem Xp2 : fldOf Tryz.prog 162 2 = some (2, 60) := by kernel_rfl
instance : FlC Tryz.prog 162 2 2 60 := ⟨Xp2⟩
theorem Xp3 : fldOf Tryz.prog 168 0 = some (0, 3) := by kernel_rfl
instance : FlC Tryz.prog 168 0 0 3 := ⟨Xp3⟩
theorem Xp4 : fldOf Tryz.prog 168 1 = some (1, 3) := by kernel_rfl
instance : FlC Tryz.prog 168 1 1 3 := ⟨Xp4⟩
theorem Xp5 : fldOf Tryz.prog 207 0 = some (0, 22) := by kernel_rfl
instance : FlC Tryz.prog 207 0 0 22 := ⟨Xp5⟩
theorem Xp6 : fldOf Tryz.prog 207 1 = some (1, 3) := by kernel_rfl
instance : FlC Tryz.prog 207 1 1 3 := ⟨Xp6⟩
theorem Xp7 : fldOf Tryz.prog 209 0 = some (0, 207) := by kernel_rfl
instance : FlC Tryz.prog 209 0 0 207 := ⟨Xp7⟩
theorem Xp8 : fldOf Tryz.prog 209 1 = some (2, 22) := by kernel_rfl
instance : FlC Tryz.prog 209 1 2 22 := ⟨Xp8⟩
theorem Xp9 : fldOf Tryz.prog 215 0 = some (0, 22) := by kernel_rfl
instance : FlC Tryz.prog 215 0 0 22 := ⟨Xp9⟩
theorem Xpa : fldOf Tryz.prog 215 1 = some (1, 22) := by kernel_rfl
instance : FlC Tryz.prog 215 1 1 22 := ⟨Xpa⟩
theorem Xpb : fldOf Tryz.prog 220 0 = some (0, 3) := by kernel_rfl
instance : FlC Tryz.prog 220 0 0 3 := ⟨Xpb⟩
theorem Xpc : fldOf Tryz.prog 220 1 = some (1, 4) := by kernel_rfl
instance : FlC Tryz.prog 220 1 1 4 := ⟨Xpc⟩
theorem Xpd : fldOf Tryz.prog 256 0 = some (0, 45) := by kernel_rfl
instance : FlC Tryz.prog 256 0 0 45 := ⟨Xpd⟩
theorem Xpe : fldOf Tryz.prog 256 1 = some (1, 3) := by kernel_rfl
instance : FlC Tryz.prog 256 1 1 3 := ⟨Xpe⟩
theorem Xpf : fldOf Tryz.prog 256 2 = some (2, 3) := by kernel_rfl
instance : FlC Tryz.prog 256 2 2 3 := ⟨Xpf⟩
theorem Xpg : fldOf Tryz.prog 256 3 = some (3, 22) := by kernel_rfl
instance : FlC Tryz.prog 256 3 3 22 := ⟨Xpg⟩
theorem Xph : fldOf Tryz.prog 256 4 = some (4, 22) := by kernel_rfl
instance : FlC Tryz.prog 256 4 4 22 := ⟨Xph⟩
theorem Xpi : fldOf Tryz.prog 286 0 = some (0, 140) := by kernel_rfl
instance : FlC Tryz.prog 286 0 0 140 := ⟨Xpi⟩
theorem Xpj : fldOf Tryz.prog 286 1 = some (1, 3) := by kernel_rfl
instance : FlC Tryz.prog 286 1 1 3 := ⟨Xpj⟩
theorem Xpk : fldOf Tryz.prog 286 2 = some (2, 51) := by kernel_rfl
instance : FlC Tryz.prog 286 2 2 51 := ⟨Xpk⟩
theorem Xpl : fldOf Tryz.prog 286 3 = some (3, 3) := by kernel_rfl
instance : FlC Tryz.prog 286 3 3 3 := ⟨Xpl⟩
theorem Xpm : fldOf Tryz.prog 286 4 = some (4, 284) := by kernel_rfl
instance : FlC Tryz.prog 286 4 4 284 := ⟨Xpm⟩
theorem pl45 : plOf Tryz.prog 45 = some [(0, 1)] := by kernel_rfl
theorem pl56 : plOf Tryz.prog 56 = some [(0, 1), (1, 1)] := by kernel_rfl
theorem pl63 : plOf Tryz.prog 63 = some [(0, 1), (1, 1)] := by kernel_rfl
theorem pl65 : plOf Tryz.prog 65 = some [(0, 1), (1, 1)] := by kernel_rfl
theorem pl69 : plOf Tryz.prog 69 = some [(0, 1), (1, 1)] := by kernel_rfl
theorem pl96 : plOf Tryz.prog 96 = some [(0, 1), (1, 1)] := by kernel_rfl
theorem pl100 : plOf Tryz.prog 100 = some [(0, 1), (1, 1), (2, 1), (3, 1)] := by kernel_rfl
theorem pl104 : plOf Tryz.prog 104 = some [(0, 1), (1, 1), (2, 1), (3, 1), (4, 1)] := by kernel_rfl
theorem pl115 : plOf Tryz.prog 115 = some [(0, 1), (1, 1), (2, 1)] := by kernel_rfl
theorem pl121 : plOf Tryz.prog 121 = some [(0, 1), (1, 1)] := by kernel_rfl
theorem pl162 : plOf Tryz.prog 162 = some [(0, 1), (1, 1), (2, 1)] := by kernel_rfl
theorem pl168 : plOf Tryz.prog 168 = some [(0, 1), (1, 1)] := by kernel_rfl
theorem pl207 : plOf Tryz.prog 207 = some [(0, 1), (1, 1)] := by kernel_rfl
theorem pl209 : plOf Tryz.prog 209 = some [(0, 2), (2, 1)] := by kernel_rfl
theorem pl215 : plOf Tryz.prog 215 = some [(0, 1), (1, 1)] := by kernel_rfl
theorem pl220 : plOf Tryz.prog 220 = some [(0, 1), (1, 1)] := by kernel_rfl
theorem pl256 : plOf Tryz.prog 256 = some [(0, 1), (1, 1), (2, 1), (3, 1), (4, 1)] := by kernel_rfl
theorem pl286 : plOf Tryz.prog 286 = some [(0, 1), (1, 1), (2, 1), (3, 1), (4, 32)] := by kernel_rfl
theorem sl22 : slOf Tryz.prog 22 = some 3 := by kernel_rfl
instance : SlC Tryz.prog 22 3 := ⟨sl22⟩
theorem sl27 : slOf Tryz.prog 27 = some 9 := by kernel_rfl
instance : SlC Tryz.prog 27 9 := ⟨sl27⟩
theorem sl51 : slOf Tryz.prog 51 = some 22 := by kernel_rfl
instance : SlC Tryz.prog 51 22 := ⟨sl51⟩
theorem sl60 : slOf Tryz.prog 60 = some 63 := by kernel_rfl
instance : SlC Tryz.prog 60 63 := ⟨sl60⟩
theorem sl81 : slOf Tryz.prog 81 = some 168 := by kernel_rfl
instance : SlC Tryz.prog 81 168 := ⟨sl81⟩
theorem sl94 : slOf Tryz.prog 94 = some 115 := by kernel_rfl
instance : SlC Tryz.prog 94 115 := ⟨sl94⟩
theorem sl123 : slOf Tryz.prog 123 = some 5 := by kernel_rfl
instance : SlC Tryz.prog 123 5 := ⟨sl123⟩
theorem sl174 : slOf Tryz.prog 174 = some 4 := by kernel_rfl
instance : SlC Tryz.prog 174 4 := ⟨sl174⟩
theorem sl218 : slOf Tryz.prog 218 = some 220 := by kernel_rfl
instance : SlC Tryz.prog 218 220 := ⟨sl218⟩
theorem ar284 : arOf Tryz.prog 284 = some (32, 3) := by kernel_rfl
abbrev shp63 : Shp (Bool × (List Int)) Int (Bool × (Option Addr × Nat × Nat)) := ⟨fun s => s.2, fun s h => (s.1, h), fun s y => (s.1, y), fun _ _ => rfl, fun _ _ _ => rfl⟩
abbrev shE63 : Rep (Bool × (Option Addr × Nat × Nat)) := (Rep.pair Rep.bool Rep.hdr)
theorem shP63 (G : Hp) (c : List Value) (s : (Bool × (List Int))) (h : Option Addr × Nat × Nat) (hE : shE63.r G c (shp63.hd s h)) (hn : h.2.1 = (shp63.row s).length) (hr : SlR ri G h.1 h.2.2 (shp63.row s)) : Rep.r (Rep.pair Rep.bool (Rep.sl ri)) G c s := by
 obtain ⟨a0, n0, k0⟩ := h
 obtain ⟨_, _, rfl, rfl, rfl⟩ := hE
 dsimp only at hn hr
 subst hn
 exact (Rep.pairI (Rep.boolI _) (Rep.slI hr))
theorem X13 {x0 : Int} {x1 : Int} {x2 : Int} {r : Int} (hG : G ∈ Fs)  (h : Xw x0 x1 x2 = some r) : RetS Tryz.prog 77 #[.int .i64 x0, .int .i64 x1, .int .i64 x2] Fs [] [] (rv (.int .i64 r)) := by
 unfold Xw at h
 try dsimp only at h
 refine RetS.st [(0, _), (1, _), (2, _)] Tryz.func77 Tryz.ntmps77 hG fun w0 S0 hS0 B0 => ?_
 refine .go 10 ?_
 obtain ⟨u1, hu1, r2⟩ := X0 h
 refine .q .ro (.remt rfl rfl (X6z hu1)) rfl (.go 2 ?_)
 cases r2
 refine .rS [.tmp 6] [_] Tryz.func77 Tryz.results77 ⟨rfl, rfl, rfl⟩
theorem X5r {x0 : Int} {x1 : Int} {x2 : Int} {r : Int} (hG : G ∈ Fs)  (h : X3s x0 x1 x2 = some r) : RetS Tryz.prog 80 #[.int .i64 x0, .int .i64 x1, .int .i64 x2] Fs [] [] (rv (.int .i64 r)) := by
 unfold X3s at h
 try dsimp only at h
 refine RetS.st [(0, _), (1, _), (2, _)] Tryz.func80 Tryz.ntmps80 hG fun w0 S0 hS0 B0 => ?_
 refine .go 10 ?_
 obtain ⟨u1, hu1, r2⟩ := X0 h
 refine .q .ro (.remt rfl rfl (X6z hu1)) rfl (.go 2 ?_)
 cases r2
 refine .rS [.tmp 6] [_] Tryz.func80 Tryz.results80 ⟨rfl, rfl, rfl⟩
theorem X1p {x0 : Int} {x1 : List Int} {pre1 post1 : List Value} {x2 : Int} {x3 : List Int} {r : (List Int)} (hG : G ∈ Fs) (vva1 : VA a1 bb1 x1.length k1 pre1 cc1) (oo1 : OL ri G cc1 x1) (s3 : SlR ri G a3 k3 x3) (h : Xe x0 x1 x2 x3 = some r) : RetS Tryz.prog 67 #[.int .i64 x0, .slice a1 x1.length k1, .int .i64 x2, .slice a3 x3.length k3] Fs [] [.g (viewG bb1 3 pre1 cc1 post1)] (fun v bo so => ∃ lc0 : List Value, v = .tuple #[] ∧ bo = [] ∧ so = [.g (viewG bb1 3 pre1 lc0 post1)] ∧ OL ri G lc0 r ∧ r.length = x1.length) := by
 unfold Xe at h
 try dsimp only at h
 refine RetS.st [(0, _), (1, _), (2, _), (3, _)] Tryz.func67 Tryz.ntmps67 hG fun w0 S0 hS0 B0 => ?_
 refine .go 6 ?_
 refine .block ?_
 refine .lp (fun y m => ∃ (Z0 : Nat) (Z1 Z2 : List Int) (Z3 : _), y = ⟨[(1, .slice a1 Z2.length k1), (12, .int .i64 (Z0 : Int))], [], [], [.g (viewG bb1 3 pre1 Z3 post1)]⟩ ∧ Z1.length = m ∧ OL ri G Z3 Z2 ∧ VA a1 bb1 Z2.length k1 pre1 Z3 ∧ Z2.length = x1.length ∧ List.drop Z0 x3 = Z1 ∧ Xb x0 x2 Z1 Z0 Z2 = some r) [(0, _), (2, _), (10, _), (11, _)] [] [] ⟨0, x3, x1, cc1, rfl, rfl, oo1, vva1, rfl, rfl, h⟩ (fun y m hI hb10 => ?_)
 obtain ⟨i11, w12, v13, cs14, rfl, rfl, o15, va16, hl17, g18, r19⟩ := hI
 refine .gn 0 ?_
 cases w12 with
 | nil =>
  rw [Xb] at r19; try dsimp only at r19
  refine .go 5 ?_
  refine .cond_dec rfl (fun c => absurd c (Xl g18)) (fun _ => ?_)
  refine .exit rfl ?_
  cases r19
  refine .rS [] [] Tryz.func67 Tryz.results67 ⟨cs14, rfl, rfl, rfl, o15, hl17⟩
 | cons x20 xs21 =>
  have r23 : X25 x0 x2 (Xb x0 x2 xs21 (i11 + 1)) x20 i11 v13 = some r := r19; clear r19; unfold X25 at r23; try dsimp only at r23
  refine .go 5 ?_
  refine .cond_dec rfl (fun _ => ?_) (fun c => absurd (X15 g18) c)
  refine .go 2 ?_
  refine .block (.go 3 ?_)
  obtain ⟨c24, p25, h26⟩ := SlR.get s3 (X3 g18)
  obtain rfl := h26
  refine .q .ro (.idxR s3 rfl rfl (X3 g18) sl22 ty3.sz) rfl (.q .ro (.load_rp p25 mcs rfl ty3 rfl) rfl (.go 3 ?_))
  refine .drawL (.q 0 (.q 1 (.q 2 (.q 3 (.q 4 (.q 7 (.q 8 (.q 9 (.alt (.e 5 1 (.alt (.e 6 1 (.e 10 1 (.e 11 1 (.e 12 2 (.e 13 2 .nil))))) (.e 10 1 (.e 6 1 (.e 11 1 (.e 12 2 (.e 13 2 .nil))))))) (.e 10 1 (.e 5 1 (.e 6 1 (.e 11 1 (.e 12 2 (.e 13 2 .nil))))))))))))))) [] (by kernel_rfl) (by kernel_rfl) (X1 [] rfl) ?_
  obtain ⟨u27, hu27, r28⟩ := X0 r23
  obtain ⟨u29, hu29, r30⟩ := X0 r28
  obtain ⟨u31, hu31, r32⟩ := X0 r30
  obtain ⟨u33, hu33, r34⟩ := X0 r32
  obtain ⟨u35, hu35, r36⟩ := X0 r34
  refine .go 8 ?_
  refine .alt ?_ ?_
  ·obtain ⟨c37, p38, h39⟩ := OL.get o15 hu27
   obtain rfl := h39
   refine .q .d1 (.idxV 0 rfl va16 o15 rfl rfl hu27 sl22 ty3.sz rfl rfl) rfl (.clsL (HpLe.refl _) (X1 [] rfl) ?_)
   refine .alt ?_ ?_
   ·refine .q .d1 (.loadV 0 0 rfl va16 o15 rfl rfl hu27 p38 rfl (.inl ⟨rfl, rfl⟩) ty3 rfl) rfl ?_
    refine .clsL (HpLe.refl _) (X1 [] rfl) (.cVd [_, _, _] Tryz.call77 (X13 mcs  hu29) ?_)
    refine .clsL (HpLe.refl _) (X1 [] rfl) (.cVd [_, _, _] Tryz.call80 (X5r mcs  hu31) ?_)
    refine .clsL (HpLe.refl _) (X1 [] rfl) ?_
    obtain ⟨c40, p41, h42⟩ := OL.get o15 hu33
    obtain rfl := h42
    refine .q .d2 (.idxV 0 rfl va16 o15 rfl rfl hu33 sl22 ty3.sz rfl rfl) rfl ?_
    refine .storeV 0 0 (Q := ri) .d2 rfl va16 rfl rfl o15 hu35 rfl (.inl ⟨rfl, rfl⟩) rfl ty3 p41 ((Rep.intI .i64 u31) :) rfl rfl (fun cs43 hlcs43 o44 va45 => ?_)
    refine .reval 1 hlcs43 rfl (.reval 17 hlcs43 rfl (.reval 20 hlcs43 rfl (.go 6 ?_)))
    exact (hb10 _ _ ⟨(i11 + 1), xs21, u35, cs43, rfl, rfl, o44, va45, (hlcs43.trans hl17), (X4 g18), r36⟩ (Nat.lt_succ_self _)).ax ⟨rfl, (congrArg (fun z => some (Value.int .i64 z)) (X5 (SlR.len s3) g18)), rfl, rfl, rfl, rfl, trivial⟩
   ·refine .cVd [_, _, _] Tryz.call77 (X13 mcs  hu29) ?_
    refine .clsL (HpLe.refl _) (X1 [] rfl) (.q .d1 (.loadV 0 0 rfl va16 o15 rfl rfl hu27 p38 rfl (.inl ⟨rfl, rfl⟩) ty3 rfl) rfl (.clsL (HpLe.refl _) (X1 [] rfl) (.cVd [_, _, _] Tryz.call80 (X5r mcs  hu31) ?_)))
    refine .clsL (HpLe.refl _) (X1 [] rfl) ?_
    obtain ⟨c46, p47, h48⟩ := OL.get o15 hu33
    obtain rfl := h48
    refine .q .d2 (.idxV 0 rfl va16 o15 rfl rfl hu33 sl22 ty3.sz rfl rfl) rfl ?_
    refine .storeV 0 0 (Q := ri) .d2 rfl va16 rfl rfl o15 hu35 rfl (.inl ⟨rfl, rfl⟩) rfl ty3 p47 ((Rep.intI .i64 u31) :) rfl rfl (fun cs49 hlcs49 o50 va51 => ?_)
    refine .reval 1 hlcs49 rfl (.reval 17 hlcs49 rfl (.reval 20 hlcs49 rfl (.go 6 ?_)))
    exact (hb10 _ _ ⟨(i11 + 1), xs21, u35, cs49, rfl, rfl, o50, va51, (hlcs49.trans hl17), (X4 g18), r36⟩ (Nat.lt_succ_self _)).ax ⟨rfl, (congrArg (fun z => some (Value.int .i64 z)) (X5 (SlR.len s3) g18)), rfl, rfl, rfl, rfl, trivial⟩
  ·refine .cVd [_, _, _] Tryz.call77 (X13 mcs  hu29) ?_
   refine .clsL (HpLe.refl _) (X1 [] rfl) ?_
   obtain ⟨c52, p53, h54⟩ := OL.get o15 hu27
   obtain rfl := h54
   refine .q .d1 (.idxV 0 rfl va16 o15 rfl rfl hu27 sl22 ty3.sz rfl rfl) rfl (.clsL (HpLe.refl _) (X1 [] rfl) (.q .d1 (.loadV 0 0 rfl va16 o15 rfl rfl hu27 p53 rfl (.inl ⟨rfl, rfl⟩) ty3 rfl) rfl (.clsL (HpLe.refl _) (X1 [] rfl) (.cVd [_, _, _] Tryz.call80 (X5r mcs  hu31) ?_))))
   refine .clsL (HpLe.refl _) (X1 [] rfl) ?_
   obtain ⟨c55, p56, h57⟩ := OL.get o15 hu33
   obtain rfl := h57
   refine .q .d2 (.idxV 0 rfl va16 o15 rfl rfl hu33 sl22 ty3.sz rfl rfl) rfl ?_
   refine .storeV 0 0 (Q := ri) .d2 rfl va16 rfl rfl o15 hu35 rfl (.inl ⟨rfl, rfl⟩) rfl ty3 p56 ((Rep.intI .i64 u31) :) rfl rfl (fun cs58 hlcs58 o59 va60 => ?_)
   refine .reval 1 hlcs58 rfl (.reval 17 hlcs58 rfl (.reval 20 hlcs58 rfl (.go 6 ?_)))
   exact (hb10 _ _ ⟨(i11 + 1), xs21, u35, cs58, rfl, rfl, o59, va60, (hlcs58.trans hl17), (X4 g18), r36⟩ (Nat.lt_succ_self _)).ax ⟨rfl, (congrArg (fun z => some (Value.int .i64 z)) (X5 (SlR.len s3) g18)), rfl, rfl, rfl, rfl, trivial⟩
theorem X3r {x0_0 : Int} {r : (Int × Bool)} (hG : G ∈ Fs)  (h : X2w x0_0 = some r) : RetS Tryz.prog 72 #[.agg #[.int .i64 x0_0]] Fs [] [] (rv (.tuple #[.int .i64 r.1, .bool r.2])) := by
 unfold X2w at h
 try dsimp only at h
 refine RetS.st [(0, _)] Tryz.func72 Tryz.ntmps72 hG fun w0 S0 hS0 B0 => ?_
 refine .go 2 ?_
 refine .box [_] .ro rfl rfl rfl (fun b1 hb1 => ?_)
 refine .go 10 ?_
 refine .kR (fun y => y = ⟨[(12, .bool (decide ((x0_0 < 2) ∨ (65521 < x0_0))))], G :: Fs, [], []⟩) [(1, _)] [_] [0] [] [] 4 ?_ ?_
 ·rintro _ rfl
  refine .gn 1 ?_
  refine .cH h (fun c6 r7 => ?_) (fun c6 r8 => ?_)
  ·refine .go 5 ?_
   cases r7
   refine .drop 1 0 [] _ rfl rfl ?_
   refine .rS [.tmp 2, .tmp 3] [_, _] Tryz.func72 Tryz.results72 ⟨rfl, rfl, rfl⟩
  ·refine .go 6 ?_
   refine .kB (fun y => ∃ (Z0 : _), y = ⟨[], G :: Fs, [(b1, .cells #[.int .i64 Z0] 45 (0, 0))], []⟩ ∧ X3l Z0 = some r) [(1, _)] [] [] [] [] ?_ ?_
   ·rintro _ ⟨v36, rfl, r38⟩
    refine .gn 0 ?_
    unfold X3l at r38
    try dsimp only at r38
    refine .go 7 ?_
    cases r38
    refine .drop 1 0 [] _ rfl rfl ?_
    refine .rS [.tmp 2, .tmp 3] [_, _] Tryz.func72 Tryz.results72 ⟨rfl, rfl, rfl⟩
   ·intro hb39
    refine .block ?_
    refine .lp (fun y m => ∃ (Z0 : Nat) (Z1 : _), y = ⟨[(4, .int .i64 Z1)], [], [], []⟩ ∧ Z0 = m ∧ X6e X3l x0_0 Z0 Z1 = some r) [(1, _)] [_] [] ⟨big, 2, rfl, rfl, r8⟩ (fun y m hI hb55 => ?_)
    obtain ⟨n51, v53, rfl, rfl, r54⟩ := hI
    refine .gn 0 ?_
    obtain ⟨m58, rfl⟩ : ∃ m, n51 = m + 1 := by cases n51 with | zero => exact absurd (show (none : Option _) = some _ from r54) (by simp) | succ m => exact ⟨m, rfl⟩
    have r57 : X7f X3l x0_0 (X6e X3l x0_0 m58) v53 = some r := r54; clear r54; unfold X7f at r57; try dsimp only at r57
    refine .go 10 ?_
    refine .cH r57 (fun c59 r60 => ?_) (fun c59 r66 => ?_)
    ·refine .go 2 ?_
     refine .block (.go 5 ?_)
     obtain ⟨u61, hu61, r62⟩ := X0 r60
     refine .q .ro (.remt rfl rfl (X6z hu61)) rfl (.go 2 ?_)
     refine .cH r62 (fun c63 r64 => ?_) (fun c63 r65 => ?_)
     ·refine .go 5 ?_
      cases r64
      refine .drop 1 0 [] _ rfl rfl ?_
      refine .rS [.tmp 2, .tmp 3] [_, _] Tryz.func72 Tryz.results72 ⟨rfl, rfl, rfl⟩
     ·refine .go 7 ?_
      exact (hb55 _ _ ⟨m58, (w64 (v53 + 1)), rfl, rfl, r65⟩ (Nat.lt_succ_self _)).ar
    ·refine .exit rfl ?_
     exact (hb39 _ ⟨(x0_0), rfl, r66⟩).ar
 ·intro hb3
  refine .split 8 rfl (fun c2 => ?_) (fun c2 => ?_)
  ·refine .go 4 ?_
   exact (hb3 _ rfl).ax ⟨X4y c2, rfl, trivial⟩
  ·refine .go 7 ?_
   exact (hb3 _ rfl).ax ⟨X4z c2, rfl, trivial⟩
theorem Xa1 {x0 : List Int} {F1 : FuncId} {c1 : List Value} {x1 : Int → Option Bool} {r : Int} (hG : G ∈ Fs) (s0 : SlR ri G a0 k0 x0) (hc1 : ∀ args w, (callFunc F1 args).run Tryz.prog w = .ok (.enter F1 args) w) (hf1 : ∀ (Fs' : List Hp) (G1 : Hp), HpLe G G1 → G1 ∈ Fs' → ∀ (y0 : Int) (r : Bool), x1 y0 = some r → RetS Tryz.prog F1 (([.int .i64 y0] : List Value) ++ c1).toArray Fs' [] [] (fun v bo so => v = .bool r ∧ bo = [] ∧ so = [])) (h : X2a x0 x1 = some r) : RetS Tryz.prog 143 #[.slice a0 x0.length k0, .func (.func F1) #[] c1.toArray] Fs [] [] (rv (.int .i64 r)) := by
 unfold X2a at h
 try dsimp only at h
 refine RetS.st [(0, _), (1, _)] Tryz.func143 Tryz.ntmps143 hG fun w0 S0 hS0 B0 => ?_
 refine .go 11 ?_
 refine .block ?_
 refine .lp (fun y m => ∃ (Z0 : Nat) (Z1 : List Int), y = ⟨[(8, .int .i64 (Z0 : Int))], [], [], []⟩ ∧ Z1.length = m ∧ List.drop Z0 x0 = Z1 ∧ Xc x1 Z1 Z0  = some r) [(0, _), (1, _), (7, _)] [] [] ⟨0, x0, rfl, rfl, rfl, h⟩ (fun y m hI hb23 => ?_)
 obtain ⟨i19, w20, rfl, rfl, g21, r22⟩ := hI
 refine .gn 0 ?_
 cases w20 with
 | nil =>
  rw [Xc] at r22; try dsimp only at r22
  refine .go 5 ?_
  refine .cond_dec rfl (fun c => absurd c (Xl g21)) (fun _ => ?_)
  refine .exit rfl (.go 4 ?_)
  cases r22
  refine .rS [.tmp 4] [_] Tryz.func143 Tryz.results143 ⟨rfl, rfl, rfl⟩
 | cons x28 xs29 =>
  have r27 : X16 x1 (Xc x1 xs29 (i19 + 1)) x28 i19  = some r := r22; clear r22; unfold X16 at r27; try dsimp only at r27
  refine .go 5 ?_
  refine .cond_dec rfl (fun _ => ?_) (fun c => absurd (X15 g21) c)
  refine .go 2 ?_
  refine .block (.go 10 ?_)
  obtain ⟨c30, p31, h32⟩ := SlR.get s0 (X3 g21)
  obtain rfl := h32
  refine .q .ro (.idxR s0 rfl rfl (X3 g21) sl22 ty3.sz) rfl (.q .ro (.load_rp p31 mcs rfl ty3 rfl) rfl ?_)
  obtain ⟨u33, hu33, r34⟩ := X0 r27
  refine .callS (b1 := []) (b2 := []) (s1 := []) [_] c1 .ro rfl rfl hc1 rfl rfl (hf1 _ G (HpLe.refl _) mcs _ _  hu33) rfl (fun v36 bo so h35 => ?_)
  obtain ⟨rfl, rfl, rfl⟩ := h35
  refine .gn 1 ?_
  refine .cB r34 (fun c37 r38 => ?_) (fun c37 r39 => ?_)
  ·refine .go 5 ?_
   cases r38
   refine .rS [.tmp 4] [_] Tryz.func143 Tryz.results143 ⟨rfl, rfl, rfl⟩
  ·refine .go 6 ?_
   exact (hb23 _ _ ⟨(i19 + 1), xs29, rfl, rfl, (X4 g21), r39⟩ (Nat.lt_succ_self _)).ax ⟨(congrArg (fun z => some (Value.int .i64 z)) (X5 (SlR.len s0) g21)), rfl, rfl, rfl, trivial⟩
theorem X62 {x0 : List Int} {F1 : FuncId} {c1 : List Value} {x1 : Int → Option Bool} {r : Bool} (hG : G ∈ Fs) (s0 : SlR ri G a0 k0 x0) (hc1 : ∀ args w, (callFunc F1 args).run Tryz.prog w = .ok (.enter F1 args) w) (hf1 : ∀ (Fs' : List Hp) (G1 : Hp), HpLe G G1 → G1 ∈ Fs' → ∀ (y0 : Int) (r : Bool), x1 y0 = some r → RetS Tryz.prog F1 (([.int .i64 y0] : List Value) ++ c1).toArray Fs' [] [] (fun v bo so => v = .bool r ∧ bo = [] ∧ so = [])) (h : Xq x0 x1 = some r) : RetS Tryz.prog 109 #[.slice a0 x0.length k0, .func (.func F1) #[] c1.toArray] Fs [] [] (rv (.bool r)) := by
 unfold Xq at h
 try dsimp only at h
 refine RetS.st [(0, _), (1, _)] Tryz.func109 Tryz.ntmps109 hG fun w0 S0 hS0 B0 => ?_
 refine .go 8 ?_
 obtain ⟨u1, hu1, r2⟩ := X0 h
 refine .cV [_, _] Tryz.call143 (Xa1 mcs s0 hc1 (fun Fs' G1 hle hm => hf1 Fs' G1 (HpLe.trans (HpLe.refl _) hle) hm) hu1) ?_
 refine .go 3 ?_
 cases r2
 refine .rS [.tmp 4] [_] Tryz.func109 Tryz.results109 ⟨rfl, rfl, rfl⟩
theorem X72 {x0 : Int} {x1 : Int} {r : Bool} (hG : G ∈ Fs)  (h : X2b x0 x1 = some r) : RetS Tryz.prog 126 #[.int .i64 x0, .int .i64 x1] Fs [] [] (rv (.bool r)) := by
 unfold X2b at h
 try dsimp only at h
 refine RetS.st [(0, _), (1, _)] Tryz.func126 Tryz.ntmps126 hG fun w0 S0 hS0 B0 => ?_
 refine .go 9 ?_
 refine .kR (fun y => y = ⟨[(11, .bool (decide ((0 ≤ x1) ∧ (x1 < x0))))], G :: Fs, [], []⟩) [(4, _)] [] [] [] [] 4 ?_ ?_
 ·rintro _ rfl
  refine .gn 2 ?_
  cases h
  refine .rS [.tmp 4] [_] Tryz.func126 Tryz.results126 ⟨rfl, rfl, rfl⟩
 ·intro hb2
  refine .split 7 rfl (fun c1 => ?_) (fun c1 => ?_)
  ·refine .go 7 ?_
   exact (hb2 _ rfl).ax ⟨X93 c1, rfl, trivial⟩
  ·refine .go 4 ?_
   exact (hb2 _ rfl).ax ⟨X94 c1, rfl, trivial⟩
theorem Xb5 {x0 : Int} {x1 : Int} {r : Bool} (hG : G ∈ Fs) (hp1 : Rp G p1 [.int .i64 x1]) (h : X2h x0 x1 = some r) : RetS Tryz.prog 125 #[.int .i64 x0, p1] Fs [] [] (rv (.bool r)) := by
 unfold X2h at h
 try dsimp only at h
 refine RetS.st [(0, _), (1, _)] Tryz.func125 Tryz.ntmps125 hG fun w0 S0 hS0 B0 => ?_
 refine .go 6 ?_
 refine .q .ro (.load_rp hp1 mcs rfl ty140 rfl) rfl (.go 1 ?_)
 obtain ⟨u1, hu1, r2⟩ := X0 h
 refine .cV [_, _] Tryz.call126 (X72 mcs  hu1) ?_
 refine .go 3 ?_
 cases r2
 refine .rS [.tmp 3] [_] Tryz.func125 Tryz.results125 ⟨rfl, rfl, rfl⟩
theorem X1g {x0 : Int} {x1 : List Int} {r : Bool} (hG : G ∈ Fs) (s1 : SlR ri G a1 k1 x1) (h : Xg x0 x1 = some r) : RetS Tryz.prog 73 #[.int .i64 x0, .slice a1 x1.length k1] Fs [] [] (rv (.bool r)) := by
 unfold Xg at h
 try dsimp only at h
 refine RetS.st [(0, _), (1, _)] Tryz.func73 Tryz.ntmps73 hG fun w0 S0 hS0 B0 => ?_
 refine .go 2 ?_
 refine .box [_] .ro rfl rfl rfl (fun b1 hb1 => ?_)
 refine .go 5 ?_
 refine .q .ro (.makeFunc (vf := []) (vc := [_]) rfl rfl) rfl ?_
 refine .freezeBR 0 rfl [] rfl B0 (fun G2 e3 B4 p5 => ?_)
 obtain ⟨u7, hu7, r8⟩ := X0 h
 refine .cV [_, _] Tryz.call109 (X62 mcs (SlR.mono e3 s1) Tryz.call125 (fun Fs' G1 hle hm y0 r  hr => Xb5 (G := G1) hm  (Rp.mono hle p5) hr) hu7) ?_
 refine .go 3 ?_
 cases r8
 refine .rS [.tmp 4] [_] Tryz.func73 Tryz.results73 ⟨rfl, rfl, rfl⟩
theorem Xd9 {x0_0 : Int} {x1 : List Int} {x2 : List (List Int)} {x3 : Int} {r : ((List Int) × Int)} (hG : G ∈ Fs) (s1 : SlR ri G a1 k1 x1) (s2 : SlR (Rep.sl ri) G a2 k2 x2) (h : X8j x0_0 x1 x2 x3 = some r) : RetS Tryz.prog 71 #[.agg #[.int .i64 x0_0], .slice a1 x1.length k1, .slice a2 x2.length k2, .int .i64 x3] Fs [] [] (fun v bo so => ∃ (oa0 : Option Addr) (ok0 : Nat) (oc0 : List Value), v = .tuple #[.slice oa0 r.1.length ok0, .int .i64 r.2] ∧ bo = [] ∧ so = [.s (.slice oa0 r.1.length ok0) 3 1 r.1.length oc0] ∧ OL ri G oc0 r.1) := by
 unfold X8j at h
 try dsimp only at h
 refine RetS.st [(0, _), (1, _), (2, _), (3, _)] Tryz.func71 Tryz.ntmps71 hG fun w0 S0 hS0 B0 => ?_
 refine .go 2 ?_
 refine .box [_] .ro rfl rfl rfl (fun b1 hb1 => ?_)
 refine .go 5 ?_
 refine .q .ro (.load_own_a 0 [_] rfl rfl ty45 rfl) rfl ?_
 obtain ⟨u2, hu2, r3⟩ := X0 h
 refine .cV [_] Tryz.call72 (X3r mcs  hu2) ?_
 refine .go 12 ?_
 refine .cB r3 (fun c6 r7 => ?_) (fun c6 r8 => ?_)
 ·cases r7
 ·refine .go 7 ?_
  refine .kR (fun y => y = ⟨[(30, .bool (decide ((x3 < 0) ∨ (64 < x3))))], G :: Fs, [], []⟩) [(1, _), (2, _), (3, _), (10, _)] [_] [0] [] [] 3 ?_ ?_
  ·rintro _ rfl
   refine .gn 1 ?_
   refine .cH r8 (fun c13 r14 => ?_) (fun c13 r15 => ?_)
   ·cases r14
   ·refine .go 10 ?_
    refine .cH r15 (fun c16 r17 => ?_) (fun c16 r18 => ?_)
    ·cases r17
    ·refine .go 5 ?_
     obtain ⟨u19, hu19, r20⟩ := X0 r18
     refine .cV [_, _] Tryz.call73 (X1g mcs s1 hu19) ?_
     refine .go 9 ?_
     refine .kB (fun y => ∃ (Z0 Z1 : _), y = ⟨[(12, .bool Z0)], G :: Fs, [(b1, .cells #[.int .i64 Z1] 45 (0, 0))], []⟩ ∧ (X2y x1 x2 x3 u2.1) Z0 Z1 = some r) [(1, _), (2, _), (3, _), (10, _)] [] [] [] [] ?_ ?_
     ·rintro _ ⟨v11, v12, rfl, r21⟩
      refine .gn 0 ?_
      unfold X2y at r21
      try dsimp only at r21
      refine .go 6 ?_
      refine .cB r21 (fun c23 r24 => ?_) (fun c23 r25 => ?_)
      ·cases r24
      ·refine .go 4 ?_
       obtain ⟨u26, hu26, r27⟩ := X0 r25
       refine .makeR (G := G) (Q := ri) .ro sl22 ty3 rfl rfl rfl ((Rep.intI .i64 0) :) rfl rfl hu26 rfl rfl (fun b28 cs29 hb28 o30 => ?_)
       refine .go 9 ?_
       refine .block ?_
       refine .lp (fun y m => ∃ (Z0 : Nat) (Z1 : List (List Int)) (Z2 : List Int) (Z3 : _) (Z4 : Nat) (Z5 : _), y = ⟨[(15, .slice Z3 Z2.length Z4), (62, .int .i64 (Z0 : Int))], [], [], [.s (.slice Z3 Z2.length Z4) 3 1 Z2.length Z5]⟩ ∧ Z1.length = m ∧ OL ri G Z5 Z2 ∧ List.drop Z0 x2 = Z1 ∧ X2x x1 u2.1 Z1 Z0 Z2 = some r) [(1, _), (10, _), (60, _), (61, _)] [_] [] ⟨0, x2, u26, (some ⟨b28, 0, none⟩), u26.length, cs29, rfl, rfl, o30, rfl, r27⟩ (fun y m hI hb31 => ?_)
       obtain ⟨i32, w33, v34, a35, k36, cs37, rfl, rfl, o38, g39, r40⟩ := hI
       refine .gn 0 ?_
       cases w33 with
       | nil =>
        rw [X2x] at r40; try dsimp only at r40
        refine .go 5 ?_
        refine .cond_dec rfl (fun c => absurd c (Xl g39)) (fun _ => ?_)
        refine .exit rfl (.go 6 ?_)
        cases r40
        refine .drop 1 0 [] _ rfl rfl ?_
        refine .rS [.tmp 8, .tmp 9] [_, _] Tryz.func71 Tryz.results71 ⟨a35, k36, cs37, rfl, rfl, rfl, o38⟩
       | cons x41 xs42 =>
        have r43 : X6f x1 u2.1 (X2x x1 u2.1 xs42 (i32 + 1)) x41 i32 v34 = some r := r40; clear r40; unfold X6f at r43; try dsimp only at r43
        refine .go 5 ?_
        refine .cond_dec rfl (fun _ => ?_) (fun c => absurd (X15 g39) c)
        refine .go 2 ?_
        refine .block (.go 3 ?_)
        obtain ⟨c44, p46, h47⟩ := SlR.get s2 (X3 g39)
        obtain ⟨a48, k49, rfl, s50⟩ := h47
        refine .q .ro (.idxR s2 rfl rfl (X3 g39) sl51 ty22.sz) rfl (.q .ro (.load_rp p46 mcs rfl ty22 rfl) rfl (.go 8 ?_))
        obtain ⟨u52, hu52, r53⟩ := X0 r43
        obtain ⟨c54, p55, h56⟩ := SlR.get s1 hu52
        obtain rfl := h56
        refine .q .ro (.idxR s1 rfl rfl hu52 sl22 ty3.sz) rfl (.q .ro (.load_rp p55 mcs rfl ty3 rfl) rfl (.go 1 ?_))
        refine .toV 0 rfl (fun vb57 po58 va59 vb60 => ?_)
        obtain ⟨u61, hu61, r62⟩ := X0 r53
        refine .callS (b1 := []) (b2 := [_]) (s1 := [_]) [_, _, _, _] [] .ro rfl rfl Tryz.call67 rfl rfl (X1p mcs va59 o38 s50 hu61) rfl (fun v63 bo so h65 => ?_)
        obtain ⟨cs66, rfl, rfl, rfl, o68, hl69⟩ := h65
        refine .gn 0 ?_
        refine .ofV 0 rfl vb60 hl69 o68 rfl (.reval 15 hl69 rfl (.reval 68 hl69 rfl (.go 6 ?_)))
        exact (hb31 _ _ ⟨(i32 + 1), xs42, u61, a35, k36, cs66, rfl, rfl, o68, (X4 g39), r62⟩ (Nat.lt_succ_self _)).ax ⟨rfl, (congrArg (fun z => some (Value.int .i64 z)) (X5 (SlR.len s2) g39)), rfl, rfl, rfl, rfl, trivial⟩
     ·intro hb70
      refine .block ?_
      refine .lp (fun y m => ∃ (Z0 : Nat) (Z1 : List (List Int)) (Z2 : _), y = ⟨[(12, .bool Z2), (41, .int .i64 (Z0 : Int))], [], [], []⟩ ∧ Z1.length = m ∧ List.drop Z0 x2 = Z1 ∧ X2z (X2y x1 x2 x3 u2.1) x3 u2.1 x0_0 Z1 Z2 = some r) [(1, _), (2, _), (3, _), (10, _), (39, _), (40, _)] [_] [] ⟨0, x2, u19, rfl, rfl, rfl, r20⟩ (fun y m hI hb74 => ?_)
      obtain ⟨i75, w76, v77, rfl, rfl, g78, r79⟩ := hI
      refine .gn 0 ?_
      cases w76 with
      | nil =>
       rw [X2z] at r79; try dsimp only at r79
       refine .go 5 ?_
       refine .cond_dec rfl (fun c => absurd c (Xl g78)) (fun _ => ?_)
       refine .exit rfl ?_
       exact (hb70 _ ⟨v77, x0_0, rfl, r79⟩).ar
      | cons x80 xs81 =>
       have r82 : X6g (X2y x1 x2 x3 u2.1) x3 u2.1 x0_0 (X2z (X2y x1 x2 x3 u2.1) x3 u2.1 x0_0 xs81) x80 v77 = some r := r79; clear r79; unfold X6g at r82; try dsimp only at r82
       refine .go 5 ?_
       refine .cond_dec rfl (fun _ => ?_) (fun c => absurd (X15 g78) c)
       refine .go 2 ?_
       refine .block (.go 2 ?_)
       obtain ⟨c83, p84, h85⟩ := SlR.get s2 (X3 g78)
       obtain ⟨a86, k87, rfl, s88⟩ := h85
       refine .q .ro (.idxR s2 rfl rfl (X3 g78) sl51 ty22.sz) rfl (.q .ro (.load_rp p84 mcs rfl ty22 rfl) rfl (.go 10 ?_))
       refine .cH r82 (fun c89 r90 => ?_) (fun c89 r91 => ?_)
       ·cases r90
       ·refine .go 4 ?_
        obtain ⟨u92, h93, r94⟩ := X0 r91
        refine .kR (fun y => y = ⟨[(54, .bool u92)], G :: Fs, [], []⟩) [(12, _), (41, _), (1, _), (2, _), (3, _), (10, _), (39, _), (40, _)] [_] [0] [] [] 4 ?_ ?_
        ·rintro _ rfl
         refine .gn 7 ?_
         exact (hb74 _ _ ⟨(i75 + 1), xs81, u92, rfl, rfl, (X4 g78), r94⟩ (Nat.lt_succ_self _)).ax ⟨rfl, (congrArg (fun z => some (Value.int .i64 z)) (X5 (SlR.len s2) g78)), rfl, rfl, rfl, rfl, rfl, rfl, trivial⟩
        ·intro hb95
         refine .split_b 50 rfl (fun c96 => ?_) (fun c96 => ?_)
         ·have r97 := ifT h93 c96
          refine .go 5 ?_
          obtain ⟨u98, hu98, r99⟩ := X0 r97
          refine .cV [_, _] Tryz.call73 (X1g mcs s88 hu98) ?_
          refine .go 1 ?_
          exact (hb95 _ rfl).ax ⟨sval r99, rfl, rfl, rfl, rfl, rfl, rfl, rfl, rfl, trivial⟩
         ·have r100 := ifBF h93 c96
          refine .go 4 ?_
          exact (hb95 _ rfl).ax ⟨sval r100, rfl, rfl, rfl, rfl, rfl, rfl, rfl, rfl, trivial⟩
  ·intro hb10
   refine .split 27 rfl (fun c9 => ?_) (fun c9 => ?_)
   ·refine .go 3 ?_
    exact (hb10 _ rfl).ax ⟨X4y c9, rfl, rfl, rfl, rfl, trivial⟩
   ·refine .go 5 ?_
    exact (hb10 _ rfl).ax ⟨X4z c9, rfl, rfl, rfl, rfl, trivial⟩
theorem X9x {x0_0 : Int} {x1 : Int} {x2 : List (List Int)} {x3 : List Int} {r : ((List Int) × Int)} (hG : G ∈ Fs) (s2 : SlR (Rep.sl ri) G a2 k2 x2) (s3 : SlR ri G a3 k3 x3) (h : X4i x0_0 x1 x2 x3 = some r) : RetS Tryz.prog 23 #[.agg #[.int .i64 x0_0], .int .i64 x1, .slice a2 x2.length k2, .slice a3 x3.length k3] Fs [] [] (fun v bo so => ∃ (oa0 : Option Addr) (ok0 : Nat) (oc0 : List Value), v = .tuple #[.slice oa0 r.1.length ok0, .int .i64 r.2] ∧ bo = [] ∧ so = [.s (.slice oa0 r.1.length ok0) 3 1 r.1.length oc0] ∧ OL ri G oc0 r.1) := by
 unfold X4i at h
 try dsimp only at h
 refine RetS.st [(0, _), (1, _), (2, _), (3, _)] Tryz.func23 Tryz.ntmps23 hG fun w0 S0 hS0 B0 => ?_
 refine .go 2 ?_
 refine .box [_] .ro rfl rfl rfl (fun b1 hb1 => ?_)
 refine .go 5 ?_
 refine .q .ro (.load_own_a 0 [_] rfl rfl ty45 rfl) rfl (.go 3 ?_)
 obtain ⟨u2, hu2, r3⟩ := X0 h
 refine .cS [_, _, _, _] Tryz.call71 (Xd9 mcs s3 s2 hu2) (fun v5 bo so h4 => ?_)
 obtain ⟨a7, k8, cs9, rfl, rfl, rfl, o10⟩ := h4
 refine .gn 5 ?_
 cases r3
 refine .drop 1 0 [] _ rfl rfl ?_
 refine .rS [.tmp 8, .tmp 9] [_, _] Tryz.func23 Tryz.results23 ⟨a7, k8, cs9, rfl, rfl, rfl, o10⟩
theorem Xd3 {x0 : List Int} {x1 : List Int} {r : Bool} (hG : G ∈ Fs) (s0 : SlR ri G a0 k0 x0) (s1 : SlR ri G a1 k1 x1) (h : X9n x0 x1 = some r) : RetS Tryz.prog 31 #[.slice a0 x0.length k0, .slice a1 x1.length k1] Fs [] [] (rv (.bool r)) := by
 unfold X9n at h
 try dsimp only at h
 refine RetS.st [(0, _), (1, _)] Tryz.func31 Tryz.ntmps31 hG fun w0 S0 hS0 B0 => ?_
 refine .go 13 ?_
 refine .cH h (fun c1 r2 => ?_) (fun c1 r3 => ?_)
 ·cases r2
 ·refine .go 8 ?_
  refine .block ?_
  refine .lp (fun y m => ∃ (Z0 : Nat) (Z1 : List Int), y = ⟨[(13, .int .i64 (Z0 : Int))], [], [], []⟩ ∧ Z1.length = m ∧ List.drop Z0 x0 = Z1 ∧ X5h x1 Z1 Z0  = some r) [(0, _), (1, _), (12, _)] [] [] ⟨0, x0, rfl, rfl, rfl, r3⟩ (fun y m hI hb27 => ?_)
  obtain ⟨i23, w24, rfl, rfl, g25, r26⟩ := hI
  refine .gn 0 ?_
  cases w24 with
  | nil =>
   rw [X5h] at r26; try dsimp only at r26
   refine .go 5 ?_
   refine .cond_dec rfl (fun c => absurd c (Xl g25)) (fun _ => ?_)
   refine .exit rfl (.go 4 ?_)
   cases r26
   refine .rS [.tmp 4] [_] Tryz.func31 Tryz.results31 ⟨rfl, rfl, rfl⟩
  | cons x32 xs33 =>
   have r31 : X95 x1 (X5h x1 xs33 (i23 + 1)) x32 i23  = some r := r26; clear r26; unfold X95 at r31; try dsimp only at r31
   refine .go 5 ?_
   refine .cond_dec rfl (fun _ => ?_) (fun c => absurd (X15 g25) c)
   refine .go 2 ?_
   refine .block (.go 6 ?_)
   refine .drawL (.q 0 (.q 1 (.q 2 (.q 3 (.q 4 (.q 5 (.q 6 (.q 7 (.q 8 .nil))))))))) [] (by kernel_rfl) (by kernel_rfl) (X1 [] rfl) (.go 2 ?_)
   obtain ⟨c34, p35, h36⟩ := SlR.get s0 (X3 g25)
   obtain rfl := h36
   refine .dq (.idxR s0 rfl rfl (X3 g25) sl22 ty3.sz) rfl (.dq (.load_rp p35 mcs rfl ty3 rfl) rfl (.go 2 ?_))
   obtain ⟨u37, hu37, r38⟩ := X0 r31
   obtain ⟨c39, p40, h41⟩ := SlR.get s1 hu37
   obtain rfl := h41
   refine .dq (.idxR s1 rfl rfl hu37 sl22 ty3.sz) rfl (.dq (.load_rp p40 mcs rfl ty3 rfl) rfl (.go 2 ?_))
   refine .cH r38 (fun c42 r43 => ?_) (fun c42 r44 => ?_)
   ·cases r43
   ·refine .go 6 ?_
    exact (hb27 _ _ ⟨(i23 + 1), xs33, rfl, rfl, (X4 g25), r44⟩ (Nat.lt_succ_self _)).ax ⟨(congrArg (fun z => some (Value.int .i64 z)) (X5 (SlR.len s0) g25)), rfl, rfl, rfl, trivial⟩
theorem X24 {x0 : List Int} {r : (List Int)} (hG : G ∈ Fs) (s0 : SlR ri G a0 k0 x0) (h : X8 x0 = some r) : RetS Tryz.prog 100 #[.slice a0 x0.length k0] Fs [] [] (fun v bo so => ∃ (oa0 : Option Addr) (ok0 : Nat) (oc0 : List Value), v = .slice oa0 r.length ok0 ∧ bo = [] ∧ so = [.s (.slice oa0 r.length ok0) 3 1 r.length oc0] ∧ OL ri G oc0 r) := by
 unfold X8 at h
 try dsimp only at h
 refine RetS.st [(0, _)] Tryz.func100 Tryz.ntmps100 hG fun w0 S0 hS0 B0 => ?_
 refine .go 8 ?_
 refine .q .ro (.eqnil Tryz.underlying22 rfl rfl) rfl (.go 1 ?_)
 refine .cond rfl (fun c1 => ?_) (fun _ => ?_)
 ·have h2 := SlR.isnil s0 c1
  refine .go 4 ?_
  refine .own_nil 3 1 ?_
  obtain rfl := Xjy h2 h
  refine .rS [.tmp 2] [_] Tryz.func100 Tryz.results100 ⟨none, 0, [], rfl, rfl, rfl, (OL.nil (Rp' := ri))⟩
 ·refine .go 3 ?_
  refine .lit [] [] .ro sl22 ty3 rfl rfl rfl rfl rfl rfl (fun b4 hb4 => ?_)
  have o5 : OL ri G [] ([] : List Int) := ((OL.nil (Rp' := ri)) :)
  refine .reval 5 (n' := ([] : List Int).length) rfl rfl (.go 1 ?_)
  obtain ⟨u11, hu11, r12⟩ := X0 h
  refine .appR (Q := ri) 0 .ro sl22 ty3 rfl rfl rfl rfl rfl o5 rfl rfl s0 rfl mcs hu11 rfl (fun a7 k8 cs9 o10 => ?_)
  refine .go 2 ?_
  cases r12
  refine .rS [.tmp 2] [_] Tryz.func100 Tryz.results100 ⟨a7, k8, cs9, rfl, rfl, rfl, o10⟩
theorem Xgo {x0_0 : List Int} {x0_1 : Int} {r : Bool} (hG : G ∈ Fs) (s0_0 : SlR ri G a0_0 k0_0 x0_0) (h : Xbq (x0_0, x0_1) = some r) : RetS Tryz.prog 121 #[.agg #[.slice a0_0 x0_0.length k0_0, .int .i64 x0_1]] Fs [] [] (rv (.bool r)) := by
 unfold Xbq at h
 try dsimp only at h
 refine RetS.st [(0, _)] Tryz.func121 Tryz.ntmps121 hG fun w0 S0 hS0 B0 => ?_
 refine .go 2 ?_
 refine .box [_, _] .ro rfl rfl rfl (fun b1 hb1 => ?_)
 refine .go 9 ?_
 refine .kR (fun y => y = ⟨[(11, .bool (decide (((x0_0.length : Int) ≤ 16384) ∧ (0 ≤ x0_1))))], G :: Fs, [], []⟩) [(1, _), (2, _)] [_] [0] [] [] 4 ?_ ?_
 ·rintro _ rfl
  refine .gn 1 ?_
  refine .kR (fun y => y = ⟨[(19, .bool (decide ((((x0_0.length : Int) ≤ 16384) ∧ (0 ≤ x0_1)) ∧ (x0_1 ≤ (x0_0.length : Int)))))], G :: Fs, [], []⟩) [(2, _)] [_] [0] [] [] 7 ?_ ?_
  ·rintro _ rfl
   refine .gn 2 ?_
   cases h
   refine .drop 1 0 [] _ rfl rfl ?_
   refine .rS [.tmp 2] [_] Tryz.func121 Tryz.results121 ⟨rfl, rfl, rfl⟩
  ·intro hb7
   refine .split 12 rfl (fun c6 => ?_) (fun c6 => ?_)
   ·refine .go 13 ?_
    exact (hb7 _ rfl).ax ⟨X93 c6, rfl, trivial⟩
   ·refine .go 7 ?_
    exact (hb7 _ rfl).ax ⟨X94 c6, rfl, trivial⟩
 ·intro hb3
  refine .split 7 rfl (fun c2 => ?_) (fun c2 => ?_)
  ·refine .go 7 ?_
   exact (hb3 _ rfl).ax ⟨X93 c2, rfl, rfl, trivial⟩
  ·refine .go 4 ?_
   exact (hb3 _ rfl).ax ⟨X94 c2, rfl, rfl, trivial⟩
theorem Xgp {x0 : Int} {r : Bool} (hG : G ∈ Fs)  (h : Xbr x0 = some r) : RetS Tryz.prog 122 #[.int .i64 x0] Fs [] [] (rv (.bool r)) := by
 unfold Xbr at h
 try dsimp only at h
 refine RetS.st [(0, _)] Tryz.func122 Tryz.ntmps122 hG fun w0 S0 hS0 B0 => ?_
 refine .go 9 ?_
 refine .kR (fun y => y = ⟨[(8, .bool (decide ((1 ≤ x0) ∧ (x0 ≤ 2147483647))))], G :: Fs, [], []⟩) [(2, _)] [] [] [] [] 3 ?_ ?_
 ·rintro _ rfl
  refine .gn 2 ?_
  cases h
  refine .rS [.tmp 2] [_] Tryz.func122 Tryz.results122 ⟨rfl, rfl, rfl⟩
 ·intro hb2
  refine .split 5 rfl (fun c1 => ?_) (fun c1 => ?_)
  ·refine .go 5 ?_
   exact (hb2 _ rfl).ax ⟨X93 c1, rfl, trivial⟩
  ·refine .go 3 ?_
   exact (hb2 _ rfl).ax ⟨X94 c1, rfl, trivial⟩
theorem Xbw {x0_0 : List Int} {x0_1 : Int} {x0_2 : List Int} {x1 : Int} {r : (Int × Int × Int)} (hG : G ∈ Fs) (s0_0 : SlR ri G a0_0 k0_0 x0_0) (oo0_2 : OL ri G cc0_2 x0_2) (h : X66 ((x0_0, x0_1), x0_2) x1 = some r) : RetS Tryz.prog 149 #[.pointer (some ⟨p0, 0, none⟩), .int .i64 x1] Fs [(p0, .cells #[.slice a0_0 x0_0.length k0_0, .int .i64 x0_1, .slice a0_2 x0_2.length k0_2] 209 (0, 0))] [.s (.slice a0_2 x0_2.length k0_2) 3 1 x0_2.length cc0_2] (fun v bo so => v = .tuple #[.int .i64 r.1, .int .i64 r.2.1] ∧ bo = [(p0, .cells #[.slice a0_0 x0_0.length k0_0, .int .i64 r.2.2, .slice a0_2 x0_2.length k0_2] 209 (0, 0))] ∧ so = [.s (.slice a0_2 x0_2.length k0_2) 3 1 x0_2.length cc0_2]) := by
 unfold X66 at h
 try dsimp only at h
 refine RetS.st [(0, _), (1, _)] Tryz.func149 Tryz.ntmps149 hG fun w0 S0 hS0 B0 => ?_
 refine .go 7 ?_
 refine .drawL (.q 0 (.q 1 (.q 2 (.q 3 (.q 4 (.q 5 (.q 6 (.q 7 (.q 8 (.q 9 .nil)))))))))) [_] (by kernel_rfl) (by kernel_rfl) (X1 [0] rfl) (.go 11 ?_)
 refine .cH h (fun c2 r3 => ?_) (fun c2 r4 => ?_)
 ·cases r3
 ·refine .go 2 ?_
  refine .drawL (.q 0 (.q 1 (.q 2 (.q 3 (.q 4 (.q 5 (.q 6 (.q 7 (.e 8 1 (.e 9 1 (.q 10 .nil))))))))))) [_] (by kernel_rfl) (by kernel_rfl) (X1 [0] rfl) (.go 8 ?_)
  obtain ⟨u5, hu5, r6⟩ := X0 r4
  obtain ⟨c7, p8, h9⟩ := SlR.get s0_0 hu5
  obtain rfl := h9
  refine .q .d1 (.idxR s0_0 rfl rfl hu5 sl22 ty3.sz) rfl (.clsL (HpLe.refl _) (X1 [0] rfl) (.q .d1 (.load_rp p8 mcs rfl ty3 rfl) rfl (.clsL (HpLe.refl _) (X1 [0] rfl) (.go 8 ?_))))
  refine .kR (fun y => y = ⟨[(33, .bool (decide ((u5 < 0) ∨ (x1 ≤ u5))))], G :: Fs, [], []⟩) [(0, _), (6, _)] [_] [0] [_] [0] 4 ?_ ?_
  ·rintro _ rfl
   refine .gn 1 ?_
   refine .cH r6 (fun c14 r15 => ?_) (fun c14 r16 => ?_)
   ·cases r15
   ·refine .go 10 ?_
    refine .store 0 [_, _, _] [_] .ro rfl rfl rfl ty3 rfl rfl rfl rfl (.go 7 ?_)
    cases r16
    refine .rS [.tmp 4, .tmp 5] [_, _] Tryz.func149 Tryz.results149 ⟨rfl, rfl, rfl⟩
  ·intro hb11
   refine .split 29 rfl (fun c10 => ?_) (fun c10 => ?_)
   ·refine .go 4 ?_
    exact (hb11 _ rfl).ax ⟨X4y c10, rfl, rfl, trivial⟩
   ·refine .go 7 ?_
    exact (hb11 _ rfl).ax ⟨X4z c10, rfl, rfl, trivial⟩
theorem Xc6 {x0_0 : List Int} {x0_1 : Int} {x0_2 : List Int} {x1 : Int} {x2 : Int} {r : (Int × Int × (List Int))} (hG : G ∈ Fs) (s0_0 : SlR ri G a0_0 k0_0 x0_0) (oo0_2 : OL ri G cc0_2 x0_2) (h : X6h ((x0_0, x0_1), x0_2) x1 x2 = some r) : RetS Tryz.prog 123 #[.pointer (some ⟨p0, 0, none⟩), .int .i64 x1, .int .i64 x2] Fs [(p0, .cells #[.slice a0_0 x0_0.length k0_0, .int .i64 x0_1, .slice a0_2 x0_2.length k0_2] 209 (0, 0))] [.s (.slice a0_2 x0_2.length k0_2) 3 1 x0_2.length cc0_2] (fun v bo so => ∃ la0 : Option Addr, ∃ lk0 : Nat, ∃ lc0 : List Value, v = .int .i64 r.1 ∧ bo = [(p0, .cells #[.slice a0_0 x0_0.length k0_0, .int .i64 r.2.1, .slice la0 r.2.2.length lk0] 209 (0, 0))] ∧ so = [.s (.slice la0 r.2.2.length lk0) 3 1 r.2.2.length lc0] ∧ OL ri G lc0 r.2.2) := by
 unfold X6h at h
 try dsimp only at h
 refine RetS.st [(0, _), (1, _), (2, _)] Tryz.func123 Tryz.ntmps123 hG fun w0 S0 hS0 B0 => ?_
 refine .go 9 ?_
 refine .block ?_
 refine .lp (fun y m => ∃ (Z0 : Nat) (Z1 Z2 : _) (Z3 : List Int) (Z4 : _) (Z5 : Nat) (Z6 : _), y = ⟨[(7, .int .i64 Z1)], [], [(p0, .cells #[.slice a0_0 x0_0.length k0_0, .int .i64 Z2, .slice Z4 Z3.length Z5] 209 (0, 0))], [.s (.slice Z4 Z3.length Z5) 3 1 Z3.length Z6]⟩ ∧ Z0 = m ∧ OL ri G Z6 Z3 ∧ X2i x1 x2 x0_0 Z0 Z1 Z2 Z3 = some r) [(0, _), (1, _), (2, _)] [] [] ⟨big, 0, x0_1, x0_2, a0_2, k0_2, cc0_2, rfl, rfl, oo0_2, h⟩ (fun y m hI hb36 => ?_)
 obtain ⟨n25, v27, v28, v29, a30, k31, cs32, rfl, rfl, o33, r35⟩ := hI
 refine .gn 0 ?_
 obtain ⟨m41, rfl⟩ : ∃ m, n25 = m + 1 := by cases n25 with | zero => exact absurd (show (none : Option _) = some _ from r35) (by simp) | succ m => exact ⟨m, rfl⟩
 have r40 : X54 x1 x2 x0_0 (X2i x1 x2 x0_0 m41) v27 v28 v29 = some r := r35; clear r35; unfold X54 at r40; try dsimp only at r40
 refine .go 7 ?_
 refine .cH r40 (fun c42 r43 => ?_) (fun c42 r61 => ?_)
 ·refine .go 2 ?_
  refine .block (.go 6 ?_)
  obtain ⟨u44, hu44, r45⟩ := X0 r43
  refine .callS (b1 := [_]) (b2 := []) (s1 := [_]) [_, _] [] .ro rfl rfl Tryz.call149 rfl rfl (Xbw mcs s0_0 o33 hu44) rfl (fun v47 bo so h46 => ?_)
  obtain ⟨rfl, rfl, rfl⟩ := h46
  refine .gn 12 ?_
  refine .cH r45 (fun c48 r49 => ?_) (fun c48 r50 => ?_)
  ·cases r49
  ·refine .go 8 ?_
   refine .lit [_] [(0, _)] .ro sl22 ty3 rfl rfl rfl rfl rfl rfl (fun b51 hb51 => ?_)
   have o52 : OL ri G [.int .i64 u44.1] ([u44.1] : List Int) := ((OL.cons rfl (Rep.intI .i64 u44.1) (OL.nil (Rp' := ri))) :)
   refine .reval 32 (n' := ([u44.1] : List Int).length) rfl rfl ?_
   obtain ⟨u58, hu58, r59⟩ := X0 r50
   refine .appO (Q := ri) 0 .ro sl22 ty3 rfl rfl rfl rfl rfl rfl o33 o52 rfl rfl rfl B0 hu58 rfl (fun a54 k55 cs56 o57 => ?_)
   refine .go 2 ?_
   refine .store 0 [_, _, _] [_] .ro rfl rfl rfl ty22 rfl rfl rfl rfl (.go 7 ?_)
   exact (hb36 _ _ ⟨m41, (w64 (v27 + 1)), u44.2.2, u58, a54, k55, cs56, rfl, rfl, o57, r59⟩ (Nat.lt_succ_self _)).ar
 ·refine .exit rfl ?_
  refine .go 4 ?_
  cases r61
  refine .rS [.tmp 6] [_] Tryz.func123 Tryz.results123 ⟨a30, k31, cs32, rfl, rfl, rfl, o33⟩
theorem Xd4 {x0_0 : List Int} {x0_1 : Int} {x1 : Int} {x2 : Int} {r : (((List Int) × Int) × (List Int) × Int)} (hG : G ∈ Fs) (s0_0 : SlR ri G a0_0 k0_0 x0_0) (h : X9o (x0_0, x0_1) x1 x2 = some r) : RetW Tryz.prog 65 #[.agg #[.slice a0_0 x0_0.length k0_0, .int .i64 x0_1], .int .i64 x1, .int .i64 x2] Fs [] [] (fun v bo so G => ∃ a0 : Option Addr, ∃ k0 : Nat, ∃ (oa0 : Option Addr) (ok0 : Nat) (oc0 : List Value), v = .tuple #[.agg #[.slice a0 r.1.1.length k0, .int .i64 r.1.2], .slice oa0 r.2.1.length ok0, .int .i64 r.2.2] ∧ bo = [] ∧ so = [.s (.slice oa0 r.2.1.length ok0) 3 1 r.2.1.length oc0] ∧ SlR ri G a0 k0 r.1.1 ∧ OL ri G oc0 r.2.1) := by
 unfold X9o at h
 try dsimp only at h
 refine RetW.st [(0, _), (1, _), (2, _)] Tryz.func65 Tryz.ntmps65 hG fun w0 S0 hS0 B0 => ?_
 refine .go 2 ?_
 refine .box [_, _] .ro rfl rfl rfl (fun b1 hb1 => ?_)
 refine .alloc .ro ty56 rfl (fun b2 hb2 => ?_)
 refine .go 6 ?_
 refine .q .ro (.load_own_a 1 [_, _] rfl rfl ty56 rfl) rfl ?_
 obtain ⟨u3, hu3, r4⟩ := X0 h
 refine .cV [_] Tryz.call121 (Xgo mcs s0_0 hu3) ?_
 refine .go 2 ?_
 refine .cB r4 (fun c7 r8 => ?_) (fun c7 r9 => ?_)
 ·cases r8
 ·refine .go 5 ?_
  obtain ⟨u10, hu10, r11⟩ := X0 r9
  refine .cV [_] Tryz.call122 (Xgp mcs  hu10) ?_
  refine .go 2 ?_
  refine .kR (fun y => y = ⟨[(21, .bool (decide (((!u10) = true) ∨ (x2 < 0))))], G :: Fs, [], []⟩) [(1, _), (2, _), (3, _), (6, _)] [_, _] [0, 1] [] [] 3 ?_ ?_
  ·rintro _ rfl
   refine .gn 1 ?_
   refine .cH r11 (fun c18 r19 => ?_) (fun c18 r20 => ?_)
   ·cases r19
   ·refine .go 7 ?_
    refine .q .ro (.build [_, _] [(0, _), (1, _)] ty207 pl207 rfl rfl) rfl (.q .ro (.build [_, _, _] [(0, _)] ty209 pl209 rfl rfl) rfl ?_)
    refine .box [_, _, _] .ro rfl rfl rfl (fun b21 hb21 => ?_)
    refine .go 8 ?_
    refine .own_nil 3 1 ?_
    obtain ⟨u23, hu23, r24⟩ := X0 r20
    refine .callS (b1 := [_]) (b2 := [_, _]) (s1 := [_]) [_, _, _] [] .ro rfl rfl Tryz.call123 rfl rfl (Xc6 mcs s0_0 (OL.nil (Rp' := ri)) hu23) rfl (fun v26 bo so h25 => ?_)
    obtain ⟨a29, k30, cs27, rfl, rfl, rfl, o28⟩ := h25
    refine .gn 7 ?_
    refine .cH r24 (fun c32 r33 => ?_) (fun c32 r34 => ?_)
    ·cases r33
    ·refine .go 2 ?_
     refine .drawL (.q 0 (.q 1 (.q 3 (.q 4 (.q 5 (.q 6 (.q 7 (.q 9 (.q 10 (.q 11 (.q 12 (.e 2 1 (.q 8 (.e 13 1 (.q 14 (.q 15 .nil)))))))))))))))) [_, _] (by kernel_rfl) (by kernel_rfl) (X1 [0, 2] rfl) (.go 11 ?_)
     obtain ⟨u35, hu35, r36⟩ := X0 r34
     refine .cSd [_] Tryz.call100 (X24 mcs s0_0 hu35) (fun v38 bo so h37 => ?_)
     obtain ⟨a40, k41, cs42, rfl, rfl, rfl, o43⟩ := h37
     refine .gn 0 ?_
     refine .clsL (HpLe.refl _) (X1 [0, 2] rfl) (.dq (.build [_, _] [(0, _), (1, _)] ty56 pl56 rfl rfl) rfl (.store 1 [_, _] [_, _, _] .d1 rfl rfl rfl ty56 rfl rfl rfl rfl (.clsL (HpLe.refl _) (X1 [0, 2] rfl) (.go 3 ?_))))
     refine .freezeR 0 rfl rfl o43 [_] rfl B0 (fun G44 e45 B46 s47 => ?_)
     cases r36
     refine .rW 3 [.cell 6 56, .tmp 7, .tmp 8] [_, _, _] Tryz.func65 Tryz.results65 ⟨RV.cell_a 1 [_, _] rfl rfl ty56 rfl, RV.tmp rfl, RV.tmp rfl, trivial⟩ B46 hS0 (fun G' hg => ⟨a40, k41, a29, k30, cs27, rfl, rfl, rfl, (SlR.mono hg s47), (OL.mono hg (OL.mono e45 o28))⟩)
  ·intro hb15
   refine .split_b 18 rfl (fun c14 => ?_) (fun c14 => ?_)
   ·refine .go 3 ?_
    exact (hb15 _ rfl).ax ⟨X4y c14, rfl, rfl, rfl, rfl, trivial⟩
   ·refine .go 5 ?_
    exact (hb15 _ rfl).ax ⟨X4z (Xd2 c14), rfl, rfl, rfl, rfl, trivial⟩
theorem Xfz {x0_0 : Int} {x0_1 : Int} {r : Bool} (hG : G ∈ Fs)  (h : Xat (x0_0, x0_1) = some r) : RetS Tryz.prog 146 #[.agg #[.int .i64 x0_0, .int .i64 x0_1]] Fs [] [] (rv (.bool r)) := by
 unfold Xat at h
 try dsimp only at h
 refine RetS.st [(0, _)] Tryz.func146 Tryz.ntmps146 hG fun w0 S0 hS0 B0 => ?_
 refine .go 2 ?_
 refine .box [_, _] .ro rfl rfl rfl (fun b1 hb1 => ?_)
 refine .go 8 ?_
 refine .kR (fun y => y = ⟨[(10, .bool (decide ((2 ≤ x0_0) ∧ (x0_0 ≤ 10))))], G :: Fs, [], []⟩) [(1, _), (2, _)] [_] [0] [] [] 4 ?_ ?_
 ·rintro _ rfl
  refine .gn 1 ?_
  refine .kR (fun y => y = ⟨[(15, .bool (decide (((2 ≤ x0_0) ∧ (x0_0 ≤ 10)) ∧ (1 ≤ x0_1))))], G :: Fs, [], []⟩) [(1, _), (2, _)] [_] [0] [] [] 4 ?_ ?_
  ·rintro _ rfl
   refine .gn 1 ?_
   refine .kR (fun y => y = ⟨[(22, .bool (decide ((((2 ≤ x0_0) ∧ (x0_0 ≤ 10)) ∧ (1 ≤ x0_1)) ∧ (x0_1 < x0_0))))], G :: Fs, [], []⟩) [(2, _)] [_] [0] [] [] 6 ?_ ?_
   ·rintro _ rfl
    refine .gn 2 ?_
    cases h
    refine .drop 1 0 [] _ rfl rfl ?_
    refine .rS [.tmp 2] [_] Tryz.func146 Tryz.results146 ⟨rfl, rfl, rfl⟩
   ·intro hb11
    refine .split 16 rfl (fun c10 => ?_) (fun c10 => ?_)
    ·refine .go 11 ?_
     exact (hb11 _ rfl).ax ⟨X93 c10, rfl, trivial⟩
    ·refine .go 6 ?_
     exact (hb11 _ rfl).ax ⟨X94 c10, rfl, trivial⟩
  ·intro hb7
   refine .split 11 rfl (fun c6 => ?_) (fun c6 => ?_)
   ·refine .go 7 ?_
    exact (hb7 _ rfl).ax ⟨X93 c6, rfl, rfl, trivial⟩
   ·refine .go 4 ?_
    exact (hb7 _ rfl).ax ⟨X94 c6, rfl, rfl, trivial⟩
 ·intro hb3
  refine .split 6 rfl (fun c2 => ?_) (fun c2 => ?_)
  ·refine .go 7 ?_
   exact (hb3 _ rfl).ax ⟨X93 c2, rfl, rfl, trivial⟩
  ·refine .go 4 ?_
   exact (hb3 _ rfl).ax ⟨X94 c2, rfl, rfl, trivial⟩
theorem Xcd {x0_0 : Int} {x1_0 : Int} {x1_1 : Int} {r : Int} (hG : G ∈ Fs)  (h : X8b x0_0 (x1_0, x1_1) = some r) : RetS Tryz.prog 113 #[.agg #[.int .i64 x0_0], .agg #[.int .i64 x1_0, .int .i64 x1_1]] Fs [] [] (rv (.int .i64 r)) := by
 unfold X8b at h
 try dsimp only at h
 refine RetS.st [(0, _), (1, _)] Tryz.func113 Tryz.ntmps113 hG fun w0 S0 hS0 B0 => ?_
 refine .go 2 ?_
 refine .box [_] .ro rfl rfl rfl (fun b1 hb1 => ?_)
 refine .box [_, _] .ro rfl rfl rfl (fun b2 hb2 => ?_)
 refine .go 5 ?_
 refine .q .ro (.load_own_a 1 [_] rfl rfl ty45 rfl) rfl ?_
 obtain ⟨u3, hu3, r4⟩ := X0 h
 refine .cV [_] Tryz.call72 (X3r mcs  hu3) ?_
 refine .go 11 ?_
 refine .cB r4 (fun c7 r8 => ?_) (fun c7 r9 => ?_)
 ·cases r8
 ·refine .go 4 ?_
  refine .q .ro (.load_own_a 0 [_, _] rfl rfl ty69 rfl) rfl ?_
  obtain ⟨u10, hu10, r11⟩ := X0 r9
  refine .cV [_] Tryz.call146 (Xfz mcs  hu10) ?_
  refine .go 2 ?_
  refine .kR (fun y => y = ⟨[(23, .bool (decide (((!u10) = true) ∨ (x0_0 ≤ x1_0))))], G :: Fs, [], []⟩) [] [_, _] [0, 1] [] [] 6 ?_ ?_
  ·rintro _ rfl
   refine .gn 1 ?_
   refine .cH r11 (fun c18 r19 => ?_) (fun c18 r20 => ?_)
   ·cases r19
   ·refine .go 5 ?_
    cases r20
    refine .drop 2 0 [] _ rfl rfl ?_
    refine .rS [.tmp 4] [_] Tryz.func113 Tryz.results113 ⟨rfl, rfl, rfl⟩
  ·intro hb15
   refine .split_b 17 rfl (fun c14 => ?_) (fun c14 => ?_)
   ·refine .go 6 ?_
    exact (hb15 _ rfl).ax ⟨X4y c14, trivial⟩
   ·refine .go 11 ?_
    exact (hb15 _ rfl).ax ⟨X4z (Xd2 c14), trivial⟩
theorem Xce {x0_0 : Int} {x1_0 : Int} {x1_1 : Int} {x2 : Int} {r : Int} (hG : G ∈ Fs)  (h : X8c x0_0 (x1_0, x1_1) x2 = some r) : RetS Tryz.prog 111 #[.agg #[.int .i64 x0_0], .agg #[.int .i64 x1_0, .int .i64 x1_1], .int .i64 x2] Fs [] [] (rv (.int .i64 r)) := by
 unfold X8c at h
 try dsimp only at h
 refine RetS.st [(0, _), (1, _), (2, _)] Tryz.func111 Tryz.ntmps111 hG fun w0 S0 hS0 B0 => ?_
 refine .go 2 ?_
 refine .box [_] .ro rfl rfl rfl (fun b1 hb1 => ?_)
 refine .box [_, _] .ro rfl rfl rfl (fun b2 hb2 => ?_)
 refine .go 4 ?_
 refine .q .ro (.load_own_a 1 [_] rfl rfl ty45 rfl) rfl (.q .ro (.load_own_a 0 [_, _] rfl rfl ty69 rfl) rfl ?_)
 obtain ⟨u3, hu3, r4⟩ := X0 h
 refine .cV [_, _] Tryz.call113 (Xcd mcs  hu3) ?_
 refine .go 8 ?_
 refine .kR (fun y => y = ⟨[(20, .bool (decide ((u3 = 0) ∧ ((x2 < 1) ∨ (1024 < x2)))))], G :: Fs, [], []⟩) [(7, _)] [_, _] [0, 1] [] [] 7 ?_ ?_
 ·rintro _ rfl
  refine .gn 1 ?_
  refine .cH r4 (fun c15 r16 => ?_) (fun c15 r17 => ?_)
  ·cases r16
  ·refine .go 6 ?_
   cases r17
   refine .drop 2 0 [] _ rfl rfl ?_
   refine .rS [.tmp 6] [_] Tryz.func111 Tryz.results111 ⟨rfl, rfl, rfl⟩
 ·intro hb12
  refine .split 13 rfl (fun c11 => ?_) (fun c11 => ?_)
  ·refine .go 6 ?_
   refine .kR (fun y => y = ⟨[(19, .bool (decide ((x2 < 1) ∨ (1024 < x2))))], G :: Fs, [], []⟩) [(7, _), (13, _)] [_, _] [0, 1] [] [] 3 ?_ ?_
   ·rintro _ rfl
    refine .gn 1 ?_
    exact (hb12 _ rfl).ax ⟨X93 c11, rfl, trivial⟩
   ·intro hb19
    refine .split 16 rfl (fun c18 => ?_) (fun c18 => ?_)
    ·refine .go 4 ?_
     exact (hb19 _ rfl).ax ⟨X4y c18, rfl, rfl, trivial⟩
    ·refine .go 6 ?_
     exact (hb19 _ rfl).ax ⟨X4z c18, rfl, rfl, trivial⟩
  ·refine .go 3 ?_
   refine .gu_off rfl rfl (.gu_off rfl rfl (.go 2 ?_))
   exact (hb12 _ rfl).ax ⟨X94 c11, rfl, trivial⟩
theorem Xcu {x0 : Int} {r : Bool} (hG : G ∈ Fs)  (h : X7g x0 = some r) : RetS Tryz.prog 144 #[.int .i64 x0] Fs [] [] (rv (.bool r)) := by
 unfold X7g at h
 try dsimp only at h
 refine RetS.st [(0, _)] Tryz.func144 Tryz.ntmps144 hG fun w0 S0 hS0 B0 => ?_
 refine .go 9 ?_
 refine .kR (fun y => y = ⟨[(8, .bool (decide ((0 ≤ x0) ∧ (x0 ≤ 9))))], G :: Fs, [], []⟩) [(2, _)] [] [] [] [] 3 ?_ ?_
 ·rintro _ rfl
  refine .gn 2 ?_
  cases h
  refine .rS [.tmp 2] [_] Tryz.func144 Tryz.results144 ⟨rfl, rfl, rfl⟩
 ·intro hb2
  refine .split 5 rfl (fun c1 => ?_) (fun c1 => ?_)
  ·refine .go 5 ?_
   exact (hb2 _ rfl).ax ⟨X93 c1, rfl, trivial⟩
  ·refine .go 3 ?_
   exact (hb2 _ rfl).ax ⟨X94 c1, rfl, trivial⟩
theorem X9j {Fs : List Hp} {G : Hp} {p1 : Value} {a1 : Option Addr} {k1 : Nat} {x1 : List Int} {l : (List (Int × Int))} (hG : G ∈ Fs) (hp1 : Rp G p1 [.slice a1 x1.length k1]) (s1 : SlR ri G a1 k1 x1) (h : X22 x1 = some l) : IterX Tryz.prog 142 [p1] Fs l.length (fun i v => ∃ x, l[i]? = some x ∧ (Yr.pair (Yr.v ri) (Yr.v ri)).r G v x) := by
 unfold X22 at h
 try dsimp only at h
 intro y 𝒢 ℰ R0 hy hR0
 refine RetG.of (vs := [_, _]) Tryz.func142 rfl Tryz.ntmps142 [(0, _), (1, _)] ⟨rfl, rfl, trivial⟩ rfl fun w0 => Cov.dup hG ?_
 have B0 : Bd w0 (blks [] [.g R0]) Fs G := Bd.fin hG
 generalize hS0 : blks [] [.g R0] = S0 at B0 ⊢
 replace h : _ = some (List.drop 0 l) := h
 refine .go 2 ?_
 refine .q .ro (.load_rp hp1 mcs rfl ty22 rfl) rfl (.go 4 ?_)
 refine .block ?_
 refine .lp (fun y m => ∃ (Z0 : Nat) (Z1 : Guest) (Z2 : Nat) (Z3 : _), y = ⟨[(3, .int .i64 Z3)], [], [], [.g Z1]⟩ ∧ Z0 = m ∧ 𝒢 Z2 Z1 ∧ Z2 ≤ l.length ∧ Xa x1 Z0 Z3 = some (List.drop Z2 l)) [(0, _), (1, _)] [] [] ⟨big, R0, 0, (w64 ((x1.length : Int) - 1)), rfl, rfl, hR0, (Nat.zero_le _), h⟩ (fun y m hI hb25 => ?_)
 obtain ⟨n17, R19, i20, v23, rfl, rfl, hR21, le22, r24⟩ := hI
 refine .gn 0 ?_
 obtain ⟨m28, rfl⟩ : ∃ m, n17 = m + 1 := by cases n17 with | zero => exact absurd (show (none : Option _) = some _ from r24) (by simp) | succ m => exact ⟨m, rfl⟩
 have r27 : X9 x1 (Xa x1 m28) v23 = some (List.drop i20 l) := r24; clear r24; unfold X9 at r27; try dsimp only at r27
 refine .go 6 ?_
 refine .cH r27 (fun c29 r30 => ?_) (fun c29 r42 => ?_)
 ·refine .go 2 ?_
  refine .block (.go 4 ?_)
  refine .q .ro (.load_rp hp1 mcs rfl ty22 rfl) rfl (.go 1 ?_)
  obtain ⟨u31, hu31, r32⟩ := X0 r30
  obtain ⟨c33, p34, h35⟩ := SlR.get s1 hu31
  obtain rfl := h35
  refine .q .ro (.idxR s1 rfl rfl hu31 sl22 ty3.sz) rfl (.q .ro (.load_rp p34 mcs rfl ty3 rfl) rfl ?_)
  obtain ⟨h36, r37⟩ := Xhi r32; clear r32
  refine .yieldX hy ⟨_, h36, ⟨[_], _, rfl, ⟨_, rfl, ((Rep.intI .i64 v23) :)⟩, ⟨_, rfl, ((Rep.intI .i64 u31) :)⟩⟩⟩ hR21 mcm rfl rfl rfl (fun R38 hR39 => ?_) (fun R40 hE41 => ?_)
  ·refine .q .ro (.not_t rfl) rfl ?_
   refine .go 1 ?_
   refine .cond_false rfl (.go 7 ?_)
   exact (hb25 _ _ ⟨m28, R38, (i20 + 1), (w64 (v23 - 1)), rfl, rfl, hR39, (Xoj h36), r37⟩ (Nat.lt_succ_self _)).ar
  ·refine .q .ro (.not_f rfl) rfl ?_
   refine .go 1 ?_
   refine .cond_true rfl ?_
   refine .leave (.inr ⟨_, rfl⟩) [] [] rfl Tryz.func142 Tryz.results142 trivial mcm (.inl rfl) (X5t _) ⟨rfl, R40, .inr hE41, rfl⟩
 ·refine .exit rfl ?_
  have hi := Xjw r42 le22
  refine .leave (.inl rfl) [] [] rfl Tryz.func142 Tryz.results142 trivial mcm (.inl rfl) (X5t _) ⟨rfl, R19, .inl (hi ▸ hR21), rfl⟩
theorem X6o {x0 : List Int} {r : (List (Int × Int))} (hG : G ∈ Fs) (s0 : SlR ri G a0 k0 x0) (h : X11 x0 = some r) : RetW Tryz.prog 108 #[.slice a0 x0.length k0] Fs [] [] (fun v bo so G => ∃ (Fi0 : FuncId) (ci0 : List Value), v = .func (.func Fi0) #[] ci0.toArray ∧ bo = [] ∧ so = [] ∧ (∀ args w, (callFunc Fi0 args).run Tryz.prog w = .ok (.enter Fi0 args) w) ∧ IterRX Tryz.prog (Yr.pair (Yr.v ri) (Yr.v ri)) Fi0 ci0 G r) := by
 unfold X11 at h
 try dsimp only at h
 refine RetW.st [(0, _)] Tryz.func108 Tryz.ntmps108 hG fun w0 S0 hS0 B0 => ?_
 refine .go 2 ?_
 refine .box [_] .ro rfl rfl rfl (fun b1 hb1 => ?_)
 refine .go 4 ?_
 refine .q .ro (.makeFunc (vf := []) (vc := [_]) rfl rfl) rfl (.go 2 ?_)
 refine .freezeBR 0 rfl [] rfl B0 (fun G2 e3 B4 p5 => ?_)
 obtain ⟨u7, hu7, r8⟩ := X0 h
 cases r8
 refine .rW 0 [.tmp 2] [_] Tryz.func108 Tryz.results108 ⟨RV.tmp rfl, trivial⟩ B4 hS0 (fun G' hg => ⟨_, _, rfl, rfl, rfl, Tryz.call142, (fun Fs' G1 hle hm => X9j (G := G1) hm (Rp.mono (HpLe.trans hg hle) p5) (SlR.mono (HpLe.trans hg hle) (SlR.mono e3 s0)) hu7)⟩)
theorem X4w {x0 : Int} {x1 : List Int} {x2 : Int} {r : Int} (hG : G ∈ Fs) (s1 : SlR ri G a1 k1 x1) (h : X1s x0 x1 x2 = some r) : RetS Tryz.prog 79 #[.int .i64 x0, .slice a1 x1.length k1, .int .i64 x2] Fs [] [] (rv (.int .i64 r)) := by
 unfold X1s at h
 try dsimp only at h
 refine RetS.st [(0, _), (1, _), (2, _)] Tryz.func79 Tryz.ntmps79 hG fun w0 S0 hS0 B0 => ?_
 refine .marks0 (.go 2 ?_)
 refine .box [_] .ro rfl rfl rfl (fun b1 hb1 => ?_)
 refine .box [_] .ro rfl rfl rfl (fun b2 hb2 => ?_)
 refine .go 4 ?_
 refine .alloc .ro ty3 rfl (fun b3 hb3 => ?_)
 refine .store 0 [_] [_, _, _] .ro rfl rfl rfl ty3 rfl rfl rfl rfl (.go 5 ?_)
 obtain ⟨u4, hu4, r5⟩ := X0 h
 refine .cW [_] Tryz.call108 (X6o mcs s1 hu4) B0 (fun v7 bo so G8 e9 B10 h6 => ?_)
 obtain ⟨F12, c13, rfl, rfl, rfl, hc14, hi15⟩ := h6
 refine .gn 1 ?_
 refine .cutBD (β := MK × Int) (fun y => mks y.1.1) (fun y => []) [(7, _)] (fun y => G8 :: Fs) (fun y => [(b3, .cells #[.int .i64 y.2] 3 (0, 0))]) [_, _] (fun y => [.g (marksG y.1)]) [] (fun y => X1l y.2 = some r) ⟨rfl, trivial⟩ [1, 2] rfl [] rfl ?_ ?_
 ·intro y hI
  obtain ⟨mk67, v68⟩ := y
  have r70 := hI; clear hI
  try dsimp only at r70
  refine .gn 0 ?_
  unfold X1l at r70
  try dsimp only at r70
  refine .go 5 ?_
  cases r70
  refine .drop 3 0 [] _ rfl rfl ?_
  refine .out (.inr ⟨_, rfl⟩) rfl (Cov.unmarkAll _ _ ?_)
  refine .outS [.tmp 6] [_] Tryz.func79 Tryz.results79 ⟨RV.tmp rfl, trivial⟩ mcm ⟨rfl, rfl, rfl⟩
 ·intro hb73
  refine .block (.pull 2 rfl [_, _, _] rfl (.pull 2 rfl [_, _, _] rfl (.pull 2 rfl [_, _, _] rfl ?_)))
  refine .rangeX (α := Int) (β := Unit) (fun y => []) (fun y => [(b3, .cells #[.int .i64 y] 3 (0, 0)), (b2, .cells #[.int .i64 x2] 3 (0, 0)), (b1, .cells #[.int .i64 x0] 140 (0, 0))]) (fun y => []) (fun _ => []) (fun _ => []) (fun _ => []) (fun _ => .skip) (fun i y => X1m X1l x0 x2 (List.drop i u4) y = some r) (fun _ => False) (0)  c13 rfl rfl hc14 rfl (by simp) rfl rfl (hi15 _ G8 (HpLe.refl _) mcs) (fun _ _ hv => by obtain ⟨_, _, hv⟩ := hv; exact (Yr.len _ hv).trans rfl) (by kernel_rfl) r5 ?_ ?_ (fun _ _ h => h.elim)
  ·intro l92 tm93 D94 i95 v89 v96 hV97 hI w99 S11 hw16
   have r91 := hI; clear hI
   obtain ⟨x17, h18, h19⟩ := hV97
   refine .dup (G := G8) mcs ?_
   obtain ⟨_, _, rfl, h20, h21⟩ := h19
   obtain ⟨v22, rfl, h23⟩ := h20
   obtain ⟨rfl, _⟩ := List.cons.inj h23
   obtain ⟨v24, rfl, h25⟩ := h21
   obtain ⟨rfl, _⟩ := List.cons.inj h25
   rw [Xad h18] at r91
   have r26 : X4a X1l x0 x2 (X1m X1l x0 x2 (List.drop (i95 + 1) u4)) x17 v89 = some r := r91; clear r91; unfold X4a at r26; try dsimp only at r26
   refine .gn 3 ?_
   refine .beginRound 3 rfl rfl [_, _, _, _] rfl (.block (.drawL (.q 0 (.q 1 (.q 2 (.q 3 (.q 5 (.e 4 1 (.e 6 2 (.e 7 2 .nil)))))))) [_, _, _, _] (by kernel_rfl) (by kernel_rfl) (X1 [0, 1, 2, 3] rfl) (.go 5 ?_)))
   obtain ⟨u27, hu27, r28⟩ := X0 r26
   refine .cVd [_, _, _] Tryz.call77 (X13 mcs  hu27) ?_
   refine .clsL (HpLe.refl _) (X1 [0, 1, 2, 3] rfl) ?_
   obtain ⟨u29, hu29, r30⟩ := X0 r28
   refine .callS (b1 := []) (b2 := [_, _, _, _]) (s1 := []) [_, _, _] [] .d2 rfl rfl Tryz.call80 rfl rfl (X5r mcs  hu29) rfl (fun v31 bo so h32 => ?_)
   obtain ⟨rfl, rfl, rfl⟩ := h32
   refine .gn 0 ?_
   refine .store 0 [_] [_, _, _, _] .d2 rfl rfl rfl ty3 rfl rfl rfl rfl (.go 1 ?_)
   refine .prune [] trivial (.go 1 ?_)
   refine .round_endX (u29) 3 rfl rfl r30 rfl rfl (fun F hF => List.mem_cons_of_mem _ hF) (by simp)
  ·intro q33 v89 hI hb34
   have r91 := hI; clear hI
   refine .gn 0 ?_
   refine .mkmerge 3 rfl [_, _, _] rfl (fun mk35 => ?_)
   rw [List.drop_length] at r91; rw [X1m] at r91; try dsimp only at r91
   refine .go 1 ?_
   exact .arr (hb73 (mk35, v89) r91) ⟨rfl, trivial⟩
theorem Xer {x0 : Int} {x1 : List Int} {x2 : List Int} {r : (List (Int × Int))} (hG : G ∈ Fs) (s1 : SlR ri G a1 k1 x1) (s2 : SlR ri G a2 k2 x2) (h : Xa2 x0 x1 x2 = some r) : RetS Tryz.prog 145 #[.int .i64 x0, .slice a1 x1.length k1, .slice a2 x2.length k2] Fs [] [] (fun v bo so => ∃ (oa0 : Option Addr) (ok0 : Nat) (oc0 : List Value), v = .slice oa0 r.length ok0 ∧ bo = [] ∧ so = [.s (.slice oa0 r.length ok0) 168 2 r.length oc0] ∧ OL (Rep.pair ri ri) G oc0 r) := by
 unfold Xa2 at h
 try dsimp only at h
 refine RetS.st [(0, _), (1, _), (2, _)] Tryz.func145 Tryz.ntmps145 hG fun w0 S0 hS0 B0 => ?_
 refine .go 15 ?_
 refine .block (.own_nil 168 2 ?_)
 refine .lp (fun y m => ∃ (Z0 : Nat) (Z1 : List Int) (Z2 : List (Int × Int)) (Z3 : _) (Z4 : Nat) (Z5 : _), y = ⟨[(7, .slice Z3 Z2.length Z4), (12, .int .i64 (Z0 : Int))], [], [], [.s (.slice Z3 Z2.length Z4) 168 2 Z2.length Z5]⟩ ∧ Z1.length = m ∧ OL (Rep.pair ri ri) G Z5 Z2 ∧ List.drop Z0 x2 = Z1 ∧ X39 x0 x1 Z1 Z2 = some r) [(0, _), (1, _), (10, _), (11, _)] [] [] ⟨0, x2, ([] : List (Int × Int)), none, 0, [], rfl, rfl, (OL.nil (Rp' := (Rep.pair ri ri))), rfl, h⟩ (fun y m hI hb65 => ?_)
 obtain ⟨i55, w56, v58, a59, k60, cs61, rfl, rfl, o62, g57, r64⟩ := hI
 refine .gn 0 ?_
 cases w56 with
 | nil =>
  rw [X39] at r64; try dsimp only at r64
  refine .go 5 ?_
  refine .cond_dec rfl (fun c => absurd c (Xl g57)) (fun _ => ?_)
  refine .exit rfl (.go 5 ?_)
  cases r64
  refine .rS [.tmp 6] [_] Tryz.func145 Tryz.results145 ⟨a59, k60, cs61, rfl, rfl, rfl, o62⟩
 | cons x71 xs72 =>
  have r70 : X7h x0 x1 (X39 x0 x1 xs72) x71 v58 = some r := r64; clear r64; unfold X7h at r70; try dsimp only at r70
  refine .go 5 ?_
  refine .cond_dec rfl (fun _ => ?_) (fun c => absurd (X15 g57) c)
  refine .go 2 ?_
  refine .block (.go 2 ?_)
  obtain ⟨c73, p74, h75⟩ := SlR.get s2 (X3 g57)
  obtain rfl := h75
  refine .q .ro (.idxR s2 rfl rfl (X3 g57) sl22 ty3.sz) rfl (.q .ro (.load_rp p74 mcs rfl ty3 rfl) rfl (.go 8 ?_))
  obtain ⟨u76, hu76, r77⟩ := X0 r70
  refine .cV [_, _, _] Tryz.call79 (X4w mcs s1 hu76) ?_
  refine .q .ro (.build [_, _] [(0, _), (1, _)] ty168 pl168 rfl rfl) rfl ?_
  refine .lit [_, _] [(0, _)] .ro sl81 ty168 rfl rfl rfl rfl rfl rfl (fun b80 hb80 => ?_)
  have o81 : OL (Rep.pair ri ri) G [.int .i64 x71, .int .i64 u76] ([(x71, u76)] : List (Int × Int)) := ((OL.cons rfl (Rep.pairI (Rep.intI .i64 x71) (Rep.intI .i64 u76)) (OL.nil (Rp' := (Rep.pair ri ri)))) :)
  refine .reval 23 (n' := ([(x71, u76)] : List (Int × Int)).length) rfl rfl ?_
  obtain ⟨u87, hu87, r88⟩ := X0 r77
  refine .appO (Q := (Rep.pair ri ri)) 0 .ro sl81 ty168 rfl rfl rfl rfl rfl rfl o62 o81 rfl rfl rfl B0 hu87 rfl (fun a83 k84 cs85 o86 => ?_)
  refine .go 7 ?_
  exact (hb65 _ _ ⟨(i55 + 1), xs72, u87, a83, k84, cs85, rfl, rfl, o86, (X4 g57), r88⟩ (Nat.lt_succ_self _)).ax ⟨rfl, (congrArg (fun z => some (Value.int .i64 z)) (X5 (SlR.len s2) g57)), rfl, rfl, rfl, rfl, trivial⟩
theorem Xcf {x0_0 : Int} {x1 : Int} {x2 : Int} {x3 : Int} {x4_0 : List Int} {x4_1 : Int} {r : ((List (Int × Int)) × ((List Int) × Int) × Int)} (hG : G ∈ Fs) (s4_0 : SlR ri G a4_0 k4_0 x4_0) (h : X9s x0_0 x1 x2 x3 (x4_0, x4_1) = some r) : RetW Tryz.prog 112 #[.agg #[.int .i64 x0_0], .int .i64 x1, .int .i64 x2, .int .i64 x3, .agg #[.slice a4_0 x4_0.length k4_0, .int .i64 x4_1]] Fs [] [] (fun v bo so G => ∃ a0 : Option Addr, ∃ k0 : Nat, ∃ (oa0 : Option Addr) (ok0 : Nat) (oc0 : List Value), v = .tuple #[.slice oa0 r.1.length ok0, .agg #[.slice a0 r.2.1.1.length k0, .int .i64 r.2.1.2], .int .i64 r.2.2] ∧ bo = [] ∧ so = [.s (.slice oa0 r.1.length ok0) 168 2 r.1.length oc0] ∧ SlR ri G a0 k0 r.2.1.1 ∧ OL (Rep.pair ri ri) G oc0 r.1) := by
 unfold X9s at h
 try dsimp only at h
 refine RetW.st [(0, _), (1, _), (2, _), (3, _), (4, _)] Tryz.func112 Tryz.ntmps112 hG fun w0 S0 hS0 B0 => ?_
 refine .go 2 ?_
 refine .box [_] .ro rfl rfl rfl (fun b1 hb1 => ?_)
 refine .box [_, _] .ro rfl rfl rfl (fun b2 hb2 => ?_)
 refine .go 1 ?_
 refine .alloc .ro ty56 rfl (fun b3 hb3 => ?_)
 refine .go 4 ?_
 refine .q .ro (.load_own_a 2 [_] rfl rfl ty45 rfl) rfl ?_
 obtain ⟨u4, hu4, r5⟩ := X0 h
 refine .cV [_] Tryz.call72 (X3r mcs  hu4) ?_
 refine .go 7 ?_
 refine .block (.go 5 ?_)
 obtain ⟨u14, h15, r16⟩ := X0 r5
 refine .kR (fun y => y = ⟨[(32, .bool u14)], G :: Fs, [], []⟩) [(1, _), (2, _), (3, _), (5, _), (9, _), (11, _), (13, _)] [_, _, _] [0, 1, 2] [] [] 5 ?_ ?_
 ·rintro _ rfl
  refine .gn 2 ?_
  refine .cB r16 (fun c19 r20 => ?_) (fun c19 r21 => ?_)
  ·cases r20
  ·refine .go 3 ?_
   obtain ⟨u22, hu22, r23⟩ := X0 r21
   refine .cV [_] Tryz.call144 (Xcu mcs  hu22) ?_
   refine .go 2 ?_
   refine .kR (fun y => y = ⟨[(41, .bool (decide (((!u22) = true) ∨ (x3 < 1))))], G :: Fs, [], []⟩) [(1, _), (2, _), (3, _), (5, _), (9, _), (11, _), (13, _)] [_, _, _] [0, 1, 2] [] [] 3 ?_ ?_
   ·rintro _ rfl
    refine .gn 1 ?_
    refine .kR (fun y => y = ⟨[(47, .bool (decide ((((!u22) = true) ∨ (x3 < 1)) ∨ (x0_0 ≤ x3))))], G :: Fs, [], []⟩) [(1, _), (2, _), (3, _), (5, _), (9, _), (11, _), (13, _)] [_, _, _] [0, 1, 2] [] [] 5 ?_ ?_
    ·rintro _ rfl
     refine .gn 1 ?_
     refine .kR (fun y => y = ⟨[(51, .bool (decide (((((!u22) = true) ∨ (x3 < 1)) ∨ (x0_0 ≤ x3)) ∨ (512 < x3))))], G :: Fs, [], []⟩) [(1, _), (2, _), (3, _), (5, _), (9, _), (11, _), (13, _)] [_, _, _] [0, 1, 2] [] [] 3 ?_ ?_
     ·rintro _ rfl
      refine .gn 2 ?_
      refine .cH r23 (fun c38 r39 => ?_) (fun c38 r40 => ?_)
      ·cases r39
      ·refine .go 4 ?_
       refine .q .ro (.load_own_a 1 [_, _] rfl rfl ty56 rfl) rfl (.go 3 ?_)
       obtain ⟨u41, hu41, r42⟩ := X0 r40
       refine .cW [_, _, _] Tryz.call65 (Xd4 mcs s4_0 hu41) B0 (fun v44 bo so G45 e46 B47 h43 => ?_)
       obtain ⟨a49, k50, a53, k54, cs55, rfl, rfl, rfl, s51, o56⟩ := h43
       refine .gn 4 ?_
       refine .store 1 [_, _] [_, _, _] .ro rfl rfl rfl ty56 rfl rfl rfl rfl (.go 9 ?_)
       refine .cH r42 (fun c57 r58 => ?_) (fun c57 r59 => ?_)
       ·cases r58
       ·refine .go 11 ?_
        refine .kB (fun y => ∃ (Z0 : List Int) (Z1 : _) (Z2 : Nat) (Z3 Z4 Z5 Z6 : _), y = ⟨[(17, .slice Z1 Z0.length Z2)], G45 :: Fs, [(b3, .cells #[.slice none 0 0, .int .i64 Z4] 56 (0, 0)), (b2, .cells #[.slice a49 u41.1.1.length k50, .int .i64 Z5] 56 (0, 0)), (b1, .cells #[.int .i64 Z6] 45 (0, 0))], [.s (.slice Z1 Z0.length Z2) 3 1 Z0.length Z3]⟩ ∧ OL ri G45 Z3 Z0 ∧ (X3p x1 u4.1 u41.1.1 u41.2.1) Z0 Z4 Z5 Z6 = some r) [(1, _), (9, _), (11, _), (13, _), (15, _)] [] [] [_] [0] ?_ ?_
        ·rintro _ ⟨v10, a11, k17, cs18, v24, v25, v28, rfl, o29, r32⟩
         refine .gn 0 ?_
         unfold X3p at r32
         try dsimp only at r32
         refine .go 1 ?_
         refine .freezeR 1 rfl rfl o56 [_] rfl B47 (fun G33 e36 B37 s48 => ?_)
         refine .freezeR 0 rfl rfl (OL.mono e36 o29) [] rfl B37 (fun G52 e60 B61 s62 => ?_)
         refine .drawL (.q 0 (.q 1 (.q 3 (.q 5 (.q 7 (.e 2 1 (.e 4 1 (.e 6 1 (.q 8 (.e 9 1 (.q 10 .nil))))))))))) [_, _] (by kernel_rfl) (by kernel_rfl) (X1 [1, 2] rfl) (.go 4 ?_)
         refine .dq (.load_own_a 0 [_, _] rfl rfl ty56 rfl) rfl ?_
         refine .lit [_] [(0, _)] .d1 sl22 ty3 rfl rfl rfl rfl rfl rfl (fun b63 hb63 => ?_)
         have o66 : OL ri G52 [.int .i64 x1] ([x1] : List Int) := ((OL.cons rfl (Rep.intI .i64 x1) (OL.nil (Rp' := ri))) :)
         refine .reval 78 (n' := ([x1] : List Int).length) rfl rfl (.clsL (HpLe.refl _) (X1 [1, 2] rfl) ?_)
         obtain ⟨u67, hu67, r68⟩ := X0 r32
         refine .appR (Q := ri) 0 .d1 sl22 ty3 rfl rfl rfl rfl rfl o66 rfl rfl (SlR.mono e60 s48) rfl mcs hu67 rfl (fun a69 k70 cs71 o73 => ?_)
         refine .clsL (HpLe.refl _) (X1 [1, 2] rfl) ?_
         refine .freezeR 0 rfl rfl o73 [] rfl B61 (fun G74 e75 B76 s77 => ?_)
         obtain ⟨u78, hu78, r79⟩ := X0 r68
         refine .cSd [_, _, _] Tryz.call145 (Xer mcs s77 (SlR.mono e75 s62) hu78) (fun v80 bo so h81 => ?_)
         obtain ⟨a82, k83, cs84, rfl, rfl, rfl, o85⟩ := h81
         refine .gn 0 ?_
         refine .clsL e75 (X1 [1, 2] rfl) (.go 1 ?_)
         refine .store 0 [_, _] [_, _, _] .d1 rfl rfl rfl ty56 rfl rfl rfl rfl (.clsL e75 (X1 [1, 2] rfl) (.go 2 ?_))
         cases r79
         refine .rW 3 [.tmp 10, .cell 11 56, .tmp 12] [_, _, _] Tryz.func112 Tryz.results112 ⟨RV.tmp rfl, RV.cell_a 0 [_, _] rfl rfl ty56 rfl, RV.tmp rfl, trivial⟩ B76 hS0 (fun G' hg => ⟨a49, k50, a82, k83, cs84, rfl, rfl, rfl, (SlR.mono hg (SlR.mono (HpLe.trans (HpLe.trans e36 e60) e75) s51)), (OL.mono hg o85)⟩)
        ·intro hb86
         refine .block (.own_nil 3 1 ?_)
         refine .lp (fun y m => ∃ (Z0 : Nat) (Z1 : List Int) (Z2 : _) (Z3 : Nat) (Z4 Z5 : _), y = ⟨[(17, .slice Z2 Z1.length Z3), (67, .int .i64 Z5)], [], [], [.s (.slice Z2 Z1.length Z3) 3 1 Z1.length Z4]⟩ ∧ Z0 = m ∧ OL ri G45 Z4 Z1 ∧ X64 (X3p x1 u4.1 u41.1.1 u41.2.1) x3 u41.1.2 x0_0 Z0 Z1 Z5 = some r) [(1, _), (9, _), (11, _), (13, _), (15, _), (66, _)] [_, _, _] [_] ⟨big, ([] : List Int), none, 0, [], 0, rfl, rfl, (OL.nil (Rp' := ri)), r59⟩ (fun y m hI hb87 => ?_)
         obtain ⟨n88, v89, a90, k91, cs92, v93, rfl, rfl, o94, r95⟩ := hI
         refine .gn 0 ?_
         obtain ⟨m96, rfl⟩ : ∃ m, n88 = m + 1 := by cases n88 with | zero => exact absurd (show (none : Option _) = some _ from r95) (by simp) | succ m => exact ⟨m, rfl⟩
         have r97 : X8k (X3p x1 u4.1 u41.1.1 u41.2.1) x3 u41.1.2 x0_0 (X64 (X3p x1 u4.1 u41.1.1 u41.2.1) x3 u41.1.2 x0_0 m96) v89 v93 = some r := r95; clear r95; unfold X8k at r97; try dsimp only at r97
         refine .go 5 ?_
         refine .cH r97 (fun c98 r99 => ?_) (fun c98 r100 => ?_)
         ·refine .go 2 ?_
          refine .block (.go 9 ?_)
          refine .lit [_] [(0, _)] .ro sl22 ty3 rfl rfl rfl rfl rfl rfl (fun b101 hb101 => ?_)
          have o102 : OL ri G45 [.int .i64 (w64 (v93 + 1))] ([(w64 (v93 + 1))] : List Int) := ((OL.cons rfl (Rep.intI .i64 (w64 (v93 + 1))) (OL.nil (Rp' := ri))) :)
          refine .reval 73 (n' := ([(w64 (v93 + 1))] : List Int).length) rfl rfl ?_
          obtain ⟨u103, hu103, r104⟩ := X0 r99
          refine .appO (Q := ri) 0 .ro sl22 ty3 rfl rfl rfl rfl rfl rfl o94 o102 rfl rfl rfl B47 hu103 rfl (fun a105 k106 cs107 o108 => ?_)
          refine .go 7 ?_
          exact (hb87 _ _ ⟨m96, u103, a105, k106, cs107, (w64 (v93 + 1)), rfl, rfl, o108, r104⟩ (Nat.lt_succ_self _)).ar
         ·refine .exit rfl ?_
          exact (hb86 _ ⟨v89, a90, k91, cs92, 0, u41.1.2, x0_0, rfl, o94, r100⟩).ar
     ·intro hb35
      refine .split 48 rfl (fun c34 => ?_) (fun c34 => ?_)
      ·refine .go 3 ?_
       exact (hb35 _ rfl).ax ⟨X4y c34, rfl, rfl, rfl, rfl, rfl, rfl, rfl, trivial⟩
      ·refine .go 5 ?_
       exact (hb35 _ rfl).ax ⟨X4z c34, rfl, rfl, rfl, rfl, rfl, rfl, rfl, trivial⟩
    ·intro hb31
     refine .split 42 rfl (fun c30 => ?_) (fun c30 => ?_)
     ·refine .go 5 ?_
      exact (hb31 _ rfl).ax ⟨X4y c30, rfl, rfl, rfl, rfl, rfl, rfl, rfl, trivial⟩
     ·refine .go 9 ?_
      exact (hb31 _ rfl).ax ⟨X4z c30, rfl, rfl, rfl, rfl, rfl, rfl, rfl, trivial⟩
   ·intro hb27
    refine .split_b 38 rfl (fun c26 => ?_) (fun c26 => ?_)
    ·refine .go 3 ?_
     exact (hb27 _ rfl).ax ⟨X4y c26, rfl, rfl, rfl, rfl, rfl, rfl, rfl, trivial⟩
    ·refine .go 5 ?_
     exact (hb27 _ rfl).ax ⟨X4z (Xd2 c26), rfl, rfl, rfl, rfl, rfl, rfl, rfl, trivial⟩
 ·intro hb13
  refine .split_b 27 rfl (fun c12 => ?_) (fun c12 => ?_)
  ·have r109 := ifT h15 c12
   refine .go 5 ?_
   exact (hb13 _ rfl).ax ⟨sval r109, rfl, rfl, rfl, rfl, rfl, rfl, rfl, trivial⟩
  ·have r110 := ifBF h15 c12
   refine .go 5 ?_
   obtain ⟨u111, hu111, r113⟩ := X0 r110
   refine .cV [_, _] Tryz.call126 (X72 mcs  hu111) ?_
   refine .go 3 ?_
   exact (hb13 _ rfl).ax ⟨sval r113, rfl, rfl, rfl, rfl, rfl, rfl, rfl, trivial⟩
theorem X86 {x0_0 : Int} {x1_0 : Int} {x1_1 : Int} {x2 : Int} {x3 : Int} {x4_0 : List Int} {x4_1 : Int} {r : ((List (List Int)) × ((List Int) × Int) × Int)} (hG : G ∈ Fs) (s4_0 : SlR ri G a4_0 k4_0 x4_0) (h : X6i x0_0 (x1_0, x1_1) x2 x3 (x4_0, x4_1) = some r) : RetW Tryz.prog 49 #[.agg #[.int .i64 x0_0], .agg #[.int .i64 x1_0, .int .i64 x1_1], .int .i64 x2, .int .i64 x3, .agg #[.slice a4_0 x4_0.length k4_0, .int .i64 x4_1]] Fs [] [] (fun v bo so G => ∃ a0 : Option Addr, ∃ k0 : Nat, ∃ a1 : Option Addr, ∃ k1 : Nat, v = .tuple #[.slice a0 r.1.length k0, .agg #[.slice a1 r.2.1.1.length k1, .int .i64 r.2.1.2], .int .i64 r.2.2] ∧ bo = [] ∧ so = [] ∧ SlR (Rep.sl ri) G a0 k0 r.1 ∧ SlR ri G a1 k1 r.2.1.1) := by
 unfold X6i at h
 try dsimp only at h
 refine RetW.st [(0, _), (1, _), (2, _), (3, _), (4, _)] Tryz.func49 Tryz.ntmps49 hG fun w0 S0 hS0 B0 => ?_
 refine .go 2 ?_
 refine .box [_] .ro rfl rfl rfl (fun b1 hb1 => ?_)
 refine .box [_, _] .ro rfl rfl rfl (fun b2 hb2 => ?_)
 refine .box [_, _] .ro rfl rfl rfl (fun b3 hb3 => ?_)
 refine .go 1 ?_
 refine .alloc .ro ty56 rfl (fun b4 hb4 => ?_)
 refine .go 5 ?_
 refine .q .ro (.load_own_a 3 [_] rfl rfl ty45 rfl) rfl (.q .ro (.load_own_a 2 [_, _] rfl rfl ty69 rfl) rfl (.go 1 ?_))
 obtain ⟨u5, hu5, r6⟩ := X0 h
 refine .cV [_, _, _] Tryz.call111 (Xce mcs  hu5) ?_
 refine .go 7 ?_
 refine .cH r6 (fun c9 r10 => ?_) (fun c9 r11 => ?_)
 ·cases r10
 ·refine .go 7 ?_
  refine .kR (fun y => y = ⟨[(39, .bool (decide ((x3 < 0) ∨ (x2 ≤ x3))))], G :: Fs, [], []⟩) [(2, _), (3, _), (5, _), (6, _), (9, _), (11, _)] [_, _, _, _] [0, 1, 2, 3] [] [] 4 ?_ ?_
  ·rintro _ rfl
   refine .gn 1 ?_
   refine .cH r11 (fun c16 r17 => ?_) (fun c16 r18 => ?_)
   ·cases r17
   ·refine .go 3 ?_
    refine .q .ro (.load_own_a 1 [_, _] rfl rfl ty56 rfl) rfl (.go 6 ?_)
    obtain ⟨u19, hu19, r20⟩ := X0 r18
    refine .cW [_, _, _] Tryz.call65 (Xd4 mcs s4_0 hu19) B0 (fun v22 bo so G23 e24 B25 h21 => ?_)
    obtain ⟨a27, k28, a31, k32, cs33, rfl, rfl, rfl, s29, o34⟩ := h21
    refine .gn 4 ?_
    refine .alloc .ro ty56 rfl (fun b35 hb35 => ?_)
    refine .store 0 [_, _] [_, _, _, _, _] .ro rfl rfl rfl ty56 rfl rfl rfl rfl (.go 9 ?_)
    refine .cH r20 (fun c36 r37 => ?_) (fun c36 r38 => ?_)
    ·cases r37
    ·refine .go 5 ?_
     obtain ⟨u39, hu39, r40⟩ := X0 r38
     refine .makeN (G := G23) (Q := ri) 3 1 .ro sl51 ty22 rfl rfl hu39 rfl rfl (fun b41 es42 cs43 hb41 o44 => ?_)
     refine .go 8 ?_
     refine .kB (fun y => ∃ (Z0 : _) (Z1 : List Int) (Z2 : _) (Z3 : Nat) (Z4 : List (List Int)) (Z5 Z6 Z7 Z8 Z9 Z10 Z11 Z12 : _), y = ⟨[(15, .slice Z2 Z1.length Z3), (17, .slice (some ⟨b41, 0, none⟩) Z4.length u39.length)], Z0 :: Fs, [(b35, .cells #[.slice a27 u19.1.1.length k28, .int .i64 Z7] 56 (0, 0)), (b4, .cells #[.slice none 0 0, .int .i64 Z8] 56 (0, 0)), (b3, .cells #[.slice a4_0 x4_0.length k4_0, .int .i64 Z9] 56 (0, 0)), (b2, .cells #[.int .i64 Z10, .int .i64 Z11] 69 (0, 0)), (b1, .cells #[.int .i64 Z12] 45 (0, 0))], [.s (.slice (some ⟨b41, 0, none⟩) Z4.length u39.length) 22 1 Z4.length Z6, .g (packG 3 1 Z5)]⟩ ∧ HpLe G23 Z0 ∧ Bd w0 S0 Fs Z0 ∧ SlR ri Z0 Z2 Z3 Z1 ∧ NL ri Z0 Z5 Z6 Z4 ∧ Z4.length = u39.length ∧ (Xx x4_0) Z1 Z4 Z7 Z8 Z9 Z10 Z11 Z12 = some r) [(9, _), (11, _)] [] [] [] [] ?_ ?_
     ·rintro _ ⟨G14, v15, a26, k30, v46, es47, cs48, v50, v52, v53, v54, v55, v57, rfl, e58, B59, s60, o61, hl62, r63⟩
      refine .gn 0 ?_
      unfold Xx at r63
      try dsimp only at r63
      refine .go 4 ?_
      refine .own_nil 3 1 ?_
      obtain ⟨u66, hu66, r67⟩ := X0 r63
      refine .appR (Q := ri) 0 .ro sl22 ty3 rfl rfl rfl rfl rfl (OL.nil (Rp' := ri)) rfl rfl (SlR.mono (HpLe.trans e24 e58) s4_0) rfl mcs hu66 rfl (fun a68 k70 cs71 o72 => ?_)
      refine .go 1 ?_
      refine .store 2 [_, _] [_, _, _, _, _] .ro rfl rfl rfl ty22 rfl rfl rfl rfl (.go 9 ?_)
      refine .store 2 [_, _] [_, _, _, _, _] .ro rfl rfl rfl ty3 rfl rfl rfl rfl (.go 2 ?_)
      refine .drawL (.q 0 (.q 1 (.q 2 (.e 3 1 (.q 4 .nil))))) [_, _, _, _] (by kernel_rfl) (by kernel_rfl) (X1 [0, 2, 3, 4] rfl) (.go 1 ?_)
      refine .dq (.load_own_a 1 [_, _] rfl rfl ty56 rfl) rfl (.go 1 ?_)
      refine .store 1 [_, _] [_, _, _, _, _] .d1 rfl rfl rfl ty56 rfl rfl rfl rfl (.clsL (HpLe.refl _) (X1 [0, 2, 3, 4] rfl) (.go 2 ?_))
      refine .pullS 2 rfl [_, _, _] rfl (.pullS 2 rfl [_, _, _] rfl ?_)
      refine .freezeN (Q := ri) rfl o61 rfl B59 (fun G73 e74 B75 s76 => ?_)
      refine .freezeR 0 rfl rfl (OL.mono e74 o72) [] rfl B75 (fun G77 e78 B79 s80 => ?_)
      cases r67
      refine .rW 5 [.tmp 10, .cell 11 56, .tmp 12] [_, _, _] Tryz.func49 Tryz.results49 ⟨RV.tmp rfl, RV.cell_a 1 [_, _] rfl rfl ty56 rfl, RV.tmp rfl, trivial⟩ B79 hS0 (fun G' hg => ⟨(some ⟨b41, 0, none⟩), u39.length, a68, k70, rfl, rfl, rfl, (SlR.mono hg (SlR.mono e78 s76)), (SlR.mono hg s80)⟩)
     ·intro hb82
      refine .block ?_
      refine .freezeR 2 rfl rfl o34 [_, _] rfl B25 (fun G83 e84 B85 s86 => ?_)
      refine .pull 4 rfl [_, _, _, _, _] rfl (.pull 4 rfl [_, _, _, _, _] rfl (.pull 4 rfl [_, _, _, _, _] rfl (.pull 4 rfl [_, _, _, _, _] rfl (.pull 4 rfl [_, _, _, _, _] rfl (.pullS 1 rfl [_, _] rfl (.pullS 1 rfl [_, _] rfl ?_))))))
      refine .lp (fun y m => ∃ (Z0 : Nat) (Z1 Z2 : _) (Z3 : List (List Int)) (Z4 Z5 Z6 Z7 Z8 Z9 Z10 Z11 : _), y = ⟨[(61, .int .i64 Z2), (17, .slice (some ⟨b41, 0, none⟩) Z3.length u39.length)], [Z1], [(b35, .cells #[.slice a27 u19.1.1.length k28, .int .i64 Z6] 56 (0, 0)), (b4, .cells #[.slice none 0 0, .int .i64 Z7] 56 (0, 0)), (b3, .cells #[.slice a4_0 x4_0.length k4_0, .int .i64 Z8] 56 (0, 0)), (b2, .cells #[.int .i64 Z9, .int .i64 Z10] 69 (0, 0)), (b1, .cells #[.int .i64 Z11] 45 (0, 0))], [.s (.slice (some ⟨b41, 0, none⟩) Z3.length u39.length) 22 1 Z3.length Z5, .g (packG 3 1 Z4)]⟩ ∧ Z0 = m ∧ HpLe G83 Z1 ∧ Bd w0 S0 Fs Z1 ∧ NL ri Z1 Z4 Z5 Z3 ∧ Z3.length = u39.length ∧ Xy (Xx x4_0) x3 u19.2.1 x2 Z0 Z2 Z3 Z6 Z7 Z8 Z9 Z10 Z11 = some r) [(3, _), (5, _), (6, _), (9, _), (11, _), (15, _), (60, _)] [] [] ⟨big, G83, 0, u39, es42, cs43, u19.1.2, 0, x4_1, x1_0, x1_1, x0_0, rfl, rfl, (HpLe.refl _), B85, (NL.mono e84 o44), rfl, r40⟩ (fun y m hI hb87 => ?_)
      obtain ⟨n88, G89, v90, v91, es92, cs93, v94, v95, v96, v97, v98, v99, rfl, rfl, e100, B101, o102, hl103, r104⟩ := hI
      refine .gn 0 ?_
      obtain ⟨m105, rfl⟩ : ∃ m, n88 = m + 1 := by cases n88 with | zero => exact absurd (show (none : Option _) = some _ from r104) (by simp) | succ m => exact ⟨m, rfl⟩
      have r106 : X6r (Xx x4_0) x3 u19.2.1 x2 (Xy (Xx x4_0) x3 u19.2.1 x2 m105) v90 v91 v94 v95 v96 v97 v98 v99 = some r := r104; clear r104; unfold X6r at r106; try dsimp only at r106
      refine .go 5 ?_
      refine .cH r106 (fun c107 r108 => ?_) (fun c107 r109 => ?_)
      ·refine .go 2 ?_
       refine .block (.go 16 ?_)
       refine .kI (fun y => ∃ (Z0 : _), y = ⟨[(19, .int .i64 Z0)], G89 :: Fs, [], []⟩ ∧ (X4e (Xy (Xx x4_0) x3 u19.2.1 x2 m105) v90 u19.2.1 v94 v95 v96 v97 v98 v99 v91) Z0 = some r) [(61, _), (17, _), (3, _), (5, _), (6, _), (9, _), (11, _), (15, _), (60, _), (18, _)] [_, _, _, _, _] [0, 1, 2, 3, 4] [_, _] [0, 1] ?_ ?_
       ·rintro _ ⟨v110, rfl, r113⟩
        refine .gn 0 ?_
        unfold X4e at r113
        try dsimp only at r113
        refine .go 1 ?_
        refine .kG (fun y => ∃ (Z0 : _) (Z1 : List (Int × Int)) (Z2 : _) (Z3 : Nat) (Z4 Z5 : _), y = ⟨[(20, .slice Z2 Z1.length Z3), (22, .int .i64 Z5)], Z0 :: Fs, [], [.s (.slice Z2 Z1.length Z3) 168 2 Z1.length Z4]⟩ ∧ HpLe G89 Z0 ∧ Bd w0 S0 Fs Z0 ∧ OL (Rep.pair ri ri) Z0 Z4 Z1 ∧ (X6q (Xy (Xx x4_0) x3 u19.2.1 x2 m105) v90 v94 v95 v96 v97 v98 v99 v91) Z1 Z5 = some r) [(61, _), (17, _), (3, _), (5, _), (6, _), (9, _), (11, _), (15, _), (60, _)] [_, _, _, _, _] [0, 1, 2, 3, 4] [_, _] [0, 1] ?_ ?_
        ·rintro _ ⟨G114, v115, a116, k117, cs118, v119, rfl, e120, B121, o122, r123⟩
         refine .gn 0 ?_
         unfold X6q at r123
         try dsimp only at r123
         refine .go 6 ?_
         refine .cH r123 (fun c124 r125 => ?_) (fun c124 r126 => ?_)
         ·cases r125
         ·refine .go 7 ?_
          refine .block (.pullS 2 rfl [_, _, _] rfl (.pullS 2 rfl [_, _, _] rfl ?_))
          refine .lp (fun y m => ∃ (Z0 : Nat) (Z1 : List (Int × Int)) (Z2 : _) (Z3 : List (List Int)) (Z4 Z5 : _), y = ⟨[(17, .slice (some ⟨b41, 0, none⟩) Z3.length u39.length), (96, .int .i64 (Z0 : Int))], [Z2], [], [.s (.slice (some ⟨b41, 0, none⟩) Z3.length u39.length) 22 1 Z3.length Z5, .g (packG 3 1 Z4)]⟩ ∧ Z1.length = m ∧ HpLe G114 Z2 ∧ Bd w0 S0 Fs Z2 ∧ NL ri Z2 Z4 Z5 Z3 ∧ Z3.length = u39.length ∧ List.drop Z0 v115 = Z1 ∧ X2k (Xy (Xx x4_0) x3 u19.2.1 x2 m105) v90 v94 v95 v96 v97 v98 v99 Z1 Z0 Z3 = some r) [(61, _), (3, _), (5, _), (6, _), (9, _), (11, _), (15, _), (60, _), (94, _), (95, _)] [_, _, _, _, _] [_] ⟨0, v115, G114, v91, es92, cs93, rfl, rfl, (HpLe.refl _), B121, (NL.mono e120 o102), hl103, rfl, r126⟩ (fun y m hI hb127 => ?_)
          obtain ⟨i128, w129, G130, v131, es132, cs133, rfl, rfl, e134, B135, o136, hl137, g138, r139⟩ := hI
          refine .gn 0 ?_
          cases w129 with
          | nil =>
           rw [X2k] at r139; try dsimp only at r139
           refine .go 5 ?_
           refine .cond_dec rfl (fun c => absurd c (Xl g138)) (fun _ => ?_)
           refine .exit rfl (.go 5 ?_)
           refine .pullS 1 rfl [_, _, _] rfl (.pullS 1 rfl [_, _, _] rfl (.pullS 2 rfl [_, _, _] rfl (.drop 0 1 _ [_, _] rfl rfl ?_)))
           exact (hb87 _ _ ⟨m105, G130, (w64 (v90 + 1)), v131, es132, cs133, v94, v95, v96, v97, v98, v99, rfl, rfl, (HpLe.trans (HpLe.trans e100 e120) e134), B135, o136, hl137, r139⟩ (Nat.lt_succ_self _)).ar
          | cons x140 xs141 =>
           have r142 : X6p (Xy (Xx x4_0) x3 u19.2.1 x2 m105) v90 v94 v95 v96 v97 v98 v99 (X2k (Xy (Xx x4_0) x3 u19.2.1 x2 m105) v90 v94 v95 v96 v97 v98 v99 xs141 (i128 + 1)) x140 i128 v131 = some r := r139; clear r139; unfold X6p at r142; try dsimp only at r142
           refine .go 5 ?_
           refine .cond_dec rfl (fun _ => ?_) (fun c => absurd (X15 g138) c)
           refine .go 2 ?_
           refine .block (.go 3 ?_)
           obtain ⟨c143, p144, h145⟩ := OL.get (OL.mono e134 o122) (X3 g138)
           obtain ⟨_, _, rfl, rfl, rfl⟩ := h145
           refine .q .ro (.idxO 2 rfl rfl rfl (X3 g138) sl81 ty168.sz) rfl (.q .ro (.loadO_a 2 0 [_, _] rfl (X3 g138) p144 rfl (.inl ⟨rfl, rfl⟩) ty168 rfl) rfl ?_)
           refine .alloc .ro ty168 rfl (fun b146 hb146 => ?_)
           refine .go 1 ?_
           refine .store 0 [_, _] [_, _, _, _, _, _] .ro rfl rfl rfl ty168 rfl rfl rfl rfl (.go 1 ?_)
           refine .drawL (.q 0 (.q 1 (.q 2 (.q 3 (.q 6 (.q 7 (.alt (.e 4 1 (.alt (.e 5 1 (.e 8 1 (.e 9 1 (.e 10 2 (.e 11 2 .nil))))) (.e 8 1 (.e 5 1 (.e 9 1 (.e 10 2 (.e 11 2 .nil))))))) (.e 8 1 (.e 4 1 (.e 5 1 (.e 9 1 (.e 10 2 (.e 11 2 .nil))))))))))))) [_, _, _, _, _, _] (by kernel_rfl) (by kernel_rfl) (X1 [0, 1, 2, 3, 4, 5] rfl) ?_
           obtain ⟨u147, hu147, r148⟩ := X0 r142
           obtain ⟨u149, hu149, r150⟩ := X0 r148
           obtain ⟨u151, hu151, r152⟩ := X0 r150
           obtain ⟨u153, hu153, r154⟩ := X0 r152
           refine .go 6 ?_
           refine .alt ?_ ?_
           ·obtain ⟨e155, he156, hn157, ho158, p159⟩ := NL.get o136 hu147
            refine .q .d1 (.idxO 0 rfl rfl rfl hu147 sl51 ty22.sz) rfl (.clsL (HpLe.refl _) (X1 [0, 1, 2, 3, 4, 5] rfl) ?_)
            refine .alt ?_ ?_
            ·refine .q .d1 (.loadO 0 0 rfl hu147 p159 rfl (.inl ⟨rfl, rfl⟩) ty22 rfl) rfl ?_
             refine .clsL (HpLe.refl _) (X1 [0, 1, 2, 3, 4, 5] rfl) ?_
             refine .lit [_] [(0, _)] .d1 sl22 ty3 rfl rfl rfl rfl rfl rfl (fun b160 hb160 => ?_)
             have o161 : OL ri G130 [.int .i64 x140.2] ([x140.2] : List Int) := ((OL.cons rfl (Rep.intI .i64 x140.2) (OL.nil (Rp' := ri))) :)
             refine .reval 109 (n' := ([x140.2] : List Int).length) rfl rfl (.clsL (HpLe.refl _) (X1 [0, 1, 2, 3, 4, 5] rfl) ?_)
             refine .freezeR 0 rfl rfl o161 [_, _, _] rfl B135 (fun G162 e163 B164 s165 => ?_)
             refine .takeN 1 rfl he156 hn157 ?_
             refine .appR (Q := ri) 0 .d1 sl22 ty3 rfl rfl rfl rfl rfl (OL.mono e163 ho158) rfl rfl s165 rfl mcs hu149 rfl (fun a166 k167 cs169 o170 => ?_)
             refine .clsL e163 (X1 [0, 1, 2, 3, 4, 5] rfl) ?_
             obtain ⟨e171, he172, hn173, ho174, p175⟩ := NL.get (NL.mono e163 o136) hu151
             refine .q .d2 (.idxO 1 rfl rfl rfl hu151 sl51 ty22.sz) rfl ?_
             refine .storeN 0 1 (Q := ri) .d2 rfl rfl rfl (NL.mono e163 o136) he156 o170 hu153 rfl (.inl ⟨rfl, rfl⟩) rfl ty22 rfl (fun es176 cs177 hlcs177 o178 => ?_)
             refine .reval 17 hlcs177 rfl (.reval 101 hlcs177 rfl (.reval 103 hlcs177 rfl (.go 6 ?_)))
             refine .drop 1 0 [_, _, _, _, _] _ rfl rfl ?_
             exact (hb127 _ _ ⟨(i128 + 1), xs141, G162, u153, es176, cs177, rfl, rfl, (HpLe.trans e134 e163), B164, o178, (hlcs177.trans hl137), (X4 g138), r154⟩ (Nat.lt_succ_self _)).ax ⟨rfl, (congrArg (fun z => some (Value.int .i64 z)) (X5 (OL.len' o122) g138)), rfl, rfl, rfl, rfl, rfl, rfl, rfl, rfl, rfl, rfl, trivial⟩
            ·refine .lit [_] [(0, _)] .d1 sl22 ty3 rfl rfl rfl rfl rfl rfl (fun b179 hb179 => ?_)
             have o180 : OL ri G130 [.int .i64 x140.2] ([x140.2] : List Int) := ((OL.cons rfl (Rep.intI .i64 x140.2) (OL.nil (Rp' := ri))) :)
             refine .reval 109 (n' := ([x140.2] : List Int).length) rfl rfl (.clsL (HpLe.refl _) (X1 [0, 1, 2, 3, 4, 5] rfl) (.q .d1 (.loadO 1 0 rfl hu147 p159 rfl (.inl ⟨rfl, rfl⟩) ty22 rfl) rfl (.clsL (HpLe.refl _) (X1 [0, 1, 2, 3, 4, 5] rfl) ?_)))
             refine .freezeR 0 rfl rfl o180 [_, _, _] rfl B135 (fun G181 e182 B183 s184 => ?_)
             refine .takeN 1 rfl he156 hn157 ?_
             refine .appR (Q := ri) 0 .d1 sl22 ty3 rfl rfl rfl rfl rfl (OL.mono e182 ho158) rfl rfl s184 rfl mcs hu149 rfl (fun a185 k186 cs187 o188 => ?_)
             refine .clsL e182 (X1 [0, 1, 2, 3, 4, 5] rfl) ?_
             obtain ⟨e189, he190, hn191, ho192, p193⟩ := NL.get (NL.mono e182 o136) hu151
             refine .q .d2 (.idxO 1 rfl rfl rfl hu151 sl51 ty22.sz) rfl ?_
             refine .storeN 0 1 (Q := ri) .d2 rfl rfl rfl (NL.mono e182 o136) he156 o188 hu153 rfl (.inl ⟨rfl, rfl⟩) rfl ty22 rfl (fun es194 cs195 hlcs195 o196 => ?_)
             refine .reval 17 hlcs195 rfl (.reval 101 hlcs195 rfl (.reval 103 hlcs195 rfl (.go 6 ?_)))
             refine .drop 1 0 [_, _, _, _, _] _ rfl rfl ?_
             exact (hb127 _ _ ⟨(i128 + 1), xs141, G181, u153, es194, cs195, rfl, rfl, (HpLe.trans e134 e182), B183, o196, (hlcs195.trans hl137), (X4 g138), r154⟩ (Nat.lt_succ_self _)).ax ⟨rfl, (congrArg (fun z => some (Value.int .i64 z)) (X5 (OL.len' o122) g138)), rfl, rfl, rfl, rfl, rfl, rfl, rfl, rfl, rfl, rfl, trivial⟩
           ·refine .lit [_] [(0, _)] .d1 sl22 ty3 rfl rfl rfl rfl rfl rfl (fun b197 hb197 => ?_)
            have o198 : OL ri G130 [.int .i64 x140.2] ([x140.2] : List Int) := ((OL.cons rfl (Rep.intI .i64 x140.2) (OL.nil (Rp' := ri))) :)
            refine .reval 109 (n' := ([x140.2] : List Int).length) rfl rfl (.clsL (HpLe.refl _) (X1 [0, 1, 2, 3, 4, 5] rfl) ?_)
            obtain ⟨e199, he200, hn201, ho202, p203⟩ := NL.get o136 hu147
            refine .q .d1 (.idxO 1 rfl rfl rfl hu147 sl51 ty22.sz) rfl (.clsL (HpLe.refl _) (X1 [0, 1, 2, 3, 4, 5] rfl) (.q .d1 (.loadO 1 0 rfl hu147 p203 rfl (.inl ⟨rfl, rfl⟩) ty22 rfl) rfl (.clsL (HpLe.refl _) (X1 [0, 1, 2, 3, 4, 5] rfl) ?_)))
            refine .freezeR 0 rfl rfl o198 [_, _, _] rfl B135 (fun G204 e205 B206 s207 => ?_)
            refine .takeN 1 rfl he200 hn201 ?_
            refine .appR (Q := ri) 0 .d1 sl22 ty3 rfl rfl rfl rfl rfl (OL.mono e205 ho202) rfl rfl s207 rfl mcs hu149 rfl (fun a208 k209 cs210 o211 => ?_)
            refine .clsL e205 (X1 [0, 1, 2, 3, 4, 5] rfl) ?_
            obtain ⟨e212, he213, hn214, ho215, p216⟩ := NL.get (NL.mono e205 o136) hu151
            refine .q .d2 (.idxO 1 rfl rfl rfl hu151 sl51 ty22.sz) rfl ?_
            refine .storeN 0 1 (Q := ri) .d2 rfl rfl rfl (NL.mono e205 o136) he200 o211 hu153 rfl (.inl ⟨rfl, rfl⟩) rfl ty22 rfl (fun es217 cs218 hlcs218 o219 => ?_)
            refine .reval 17 hlcs218 rfl (.reval 101 hlcs218 rfl (.reval 103 hlcs218 rfl (.go 6 ?_)))
            refine .drop 1 0 [_, _, _, _, _] _ rfl rfl ?_
            exact (hb127 _ _ ⟨(i128 + 1), xs141, G204, u153, es217, cs218, rfl, rfl, (HpLe.trans e134 e205), B206, o219, (hlcs218.trans hl137), (X4 g138), r154⟩ (Nat.lt_succ_self _)).ax ⟨rfl, (congrArg (fun z => some (Value.int .i64 z)) (X5 (OL.len' o122) g138)), rfl, rfl, rfl, rfl, rfl, rfl, rfl, rfl, rfl, rfl, trivial⟩
        ·intro hb220
         refine .drawL (.q 0 (.q 1 (.q 2 (.q 3 (.q 4 (.q 5 (.q 6 (.q 7 (.q 8 (.q 9 (.q 10 (.q 11 (.q 12 (.q 13 (.q 14 (.q 15 (.q 16 (.q 17 (.alt (.e 18 1 (.q 19 (.q 20 (.q 21 (.q 22 (.e 23 1 (.q 24 (.e 25 1 (.q 26 .nil))))))))) (.e 23 1 (.e 18 1 (.q 19 (.q 20 (.q 21 (.q 22 (.q 24 (.e 25 1 (.q 26 .nil)))))))))))))))))))))))))))) [_, _, _, _, _] (by kernel_rfl) (by kernel_rfl) (X1 [0, 1, 2, 3, 4] rfl) ?_
         obtain ⟨u221, hu221, r222⟩ := X0 r113
         obtain ⟨u223, hu223, r224⟩ := X0 r222
         refine .dq (.load_own_a 4 [_] rfl rfl ty45 rfl) rfl (.go 15 ?_)
         obtain ⟨a225, k226, h227, s228⟩ := SlR.sub (SlR.mono e100 s86) hu221
         refine .dq (.sliceR (SlR.mono e100 s86) rfl hu221 sl22 ty3.sz (fun h => .yes' rfl h) (fun h => .yes' rfl h) h227) rfl (.dq (.build [_, _] [(0, _)] ty56 pl56 rfl rfl) rfl ?_)
         refine .alt ?_ ?_
         ·refine .callW (b1 := []) (b2 := [_, _, _, _, _]) (s1 := []) [_, _, _, _, _] [] .d1 rfl rfl Tryz.call112 rfl rfl (Xcf mcs s228 hu223) rfl B101 (fun v229 bo so G230 e231 B232 h233 => ?_)
          obtain ⟨a234, k235, a236, k237, cs238, rfl, rfl, rfl, s239, o240⟩ := h233
          refine .gn 0 ?_
          refine .clsL e231 (X1 [0, 1, 2, 3, 4] rfl) (.go 4 ?_)
          refine .alloc .d1 ty56 rfl (fun b241 hb241 => ?_)
          refine .clsL e231 (X1 [1, 2, 3, 4, 5] rfl) (.go 1 ?_)
          refine .store 0 [_, _] [_, _, _, _, _, _] .d1 rfl rfl rfl ty56 rfl rfl rfl rfl (.clsL e231 (X1 [1, 2, 3, 4, 5] rfl) (.go 2 ?_))
          refine .drop 1 0 [_, _, _, _, _] _ rfl rfl ?_
          exact (hb220 _ ⟨G230, u223.1, a236, k237, cs238, u223.2.2, rfl, e231, B232, o240, r224⟩).ar
         ·refine .alloc .d1 ty56 rfl (fun b242 hb242 => ?_)
          refine .clsL (HpLe.refl _) (X1 [1, 2, 3, 4, 5] rfl) ?_
          refine .callW (b1 := []) (b2 := [_, _, _, _, _, _]) (s1 := []) [_, _, _, _, _] [] .d1 rfl rfl Tryz.call112 rfl rfl (Xcf mcs s228 hu223) rfl B101 (fun v243 bo so G244 e245 B246 h247 => ?_)
          obtain ⟨a248, k249, a250, k251, cs252, rfl, rfl, rfl, s253, o254⟩ := h247
          refine .gn 0 ?_
          refine .clsL e245 (X1 [1, 2, 3, 4, 5] rfl) (.go 5 ?_)
          refine .store 0 [_, _] [_, _, _, _, _, _] .d1 rfl rfl rfl ty56 rfl rfl rfl rfl (.clsL e245 (X1 [1, 2, 3, 4, 5] rfl) (.go 2 ?_))
          refine .drop 1 0 [_, _, _, _, _] _ rfl rfl ?_
          exact (hb220 _ ⟨G244, u223.1, a250, k251, cs252, u223.2.2, rfl, e245, B246, o254, r224⟩).ar
       ·intro hb255
        refine .cH r108 (fun c256 r257 => ?_) (fun c256 r258 => ?_)
        ·refine .go 3 ?_
         exact (hb255 _ ⟨(1), rfl, r257⟩).ar
        ·refine .go 1 ?_
         exact (hb255 _ ⟨(0), rfl, r258⟩).ar
      ·refine .exit rfl ?_
       exact (hb82 _ ⟨G89, u19.2.1, a31, k32, v91, es92, cs93, v94, v95, v96, v97, v98, v99, rfl, (HpLe.trans e84 e100), B101, (SlR.mono e100 s86), o102, hl103, r109⟩).ar
  ·intro hb13
   refine .split 35 rfl (fun c12 => ?_) (fun c12 => ?_)
   ·refine .go 4 ?_
    exact (hb13 _ rfl).ax ⟨X4y c12, rfl, rfl, rfl, rfl, rfl, rfl, trivial⟩
   ·refine .go 7 ?_
    exact (hb13 _ rfl).ax ⟨X4z c12, rfl, rfl, rfl, rfl, rfl, rfl, trivial⟩
end Go.Proofs.YtfcicopgdahmcaaGreatDoor
end

section
set_option maxHeartbeats 4000000
set_option maxRecDepth 100000
namespace Go.Proofs.YtfcicopgdahmcaaGreatDoor
open Go.RowKit
set_option linter.unusedSimpArgs false
set_option linter.unusedVariables false
set_option synthInstance.maxSize 2000
set_option synthInstance.maxHeartbeats 400000
variable {Fs : List Hp} {G : Hp} {a4 a0 a1 a2 a0_3 a0_4 : Option Addr} {k4 k0 k1 k2 k0_3 k0_4 : Nat} {cc0 : List Value} {bb0 : Option Nat}
theorem Xdz {x0_0 : Int} {x1 : Int} {x2 : Int} {x3 : Int} {x4 : List (Bool × (List Int))} {r : Int} (hG : G ∈ Fs) (s4 : SlR (Rep.pair Rep.bool (Rep.sl ri)) G a4 k4 x4) (h : X7i x0_0 x1 x2 x3 x4 = some r) : RetS Tryz.prog 84 #[.agg #[.int .i64 x0_0], .int .i64 x1, .int .i64 x2, .int .i64 x3, .slice a4 x4.length k4] Fs [] [] (rv (.int .i64 r)) := by
 unfold X7i at h
 try dsimp only at h
 refine RetS.st [(0, _), (1, _), (2, _), (3, _), (4, _)] Tryz.func84 Tryz.ntmps84 hG fun w0 S0 hS0 B0 => ?_
 refine .go 2 ?_
 refine .box [_] .ro rfl rfl rfl (fun b1 hb1 => ?_)
 refine .go 8 ?_
 refine .kR (fun y => y = ⟨[(20, .bool (decide ((x1 < 0) ∨ (64 < x1))))], G :: Fs, [], []⟩) [(1, _), (2, _), (3, _), (4, _), (5, _)] [_] [0] [] [] 3 ?_ ?_
 ·rintro _ rfl
  refine .gn 1 ?_
  refine .cH h (fun c6 r7 => ?_) (fun c6 r8 => ?_)
  ·cases r7
  ·refine .go 9 ?_
   refine .cH r8 (fun c9 r10 => ?_) (fun c9 r11 => ?_)
   ·cases r10
   ·refine .go 13 ?_
    refine .kB (fun y => ∃ (Z0 Z1 Z2 : _), y = ⟨[(11, .int .i64 Z0), (12, .bool Z1)], G :: Fs, [(b1, .cells #[.int .i64 Z2] 45 (0, 0))], []⟩ ∧ (X2l x3) Z0 Z1 Z2 = some r) [(3, _)] [] [] [] [] ?_ ?_
    ·rintro _ ⟨v98, v99, v12, rfl, r13⟩
     refine .gn 0 ?_
     unfold X2l at r13
     try dsimp only at r13
     refine .go 1 ?_
     refine .block (.go 6 ?_)
     refine .cB r13 (fun c14 r15 => ?_) (fun c14 r16 => ?_)
     ·cases r15
     ·refine .go 7 ?_
      refine .cH r16 (fun c17 r18 => ?_) (fun c17 r19 => ?_)
      ·cases r18
      ·refine .go 6 ?_
       cases r19
       refine .drop 1 0 [] _ rfl rfl ?_
       refine .rS [.tmp 10] [_] Tryz.func84 Tryz.results84 ⟨rfl, rfl, rfl⟩
    ·intro hb20
     refine .block ?_
     refine .lp (fun y m => ∃ (Z0 : Nat) (Z1 : List (Bool × (List Int))) (Z2 Z3 : _), y = ⟨[(11, .int .i64 Z2), (12, .bool Z3), (27, .int .i64 (Z0 : Int))], [], [], []⟩ ∧ Z1.length = m ∧ List.drop Z0 x4 = Z1 ∧ X2m (X2l x3) x1 x0_0 Z1 Z2 Z3 = some r) [(1, _), (3, _), (5, _), (25, _), (26, _)] [_] [] ⟨0, x4, 0, true, rfl, rfl, rfl, r11⟩ (fun y m hI hb21 => ?_)
     obtain ⟨i22, w23, v24, v25, rfl, rfl, g26, r27⟩ := hI
     refine .gn 0 ?_
     cases w23 with
     | nil =>
      rw [X2m] at r27; try dsimp only at r27
      refine .go 5 ?_
      refine .cond_dec rfl (fun c => absurd c (Xl g26)) (fun _ => ?_)
      refine .exit rfl ?_
      exact (hb20 _ ⟨v24, v25, x0_0, rfl, r27⟩).ar
     | cons x28 xs29 =>
      have r30 : X6s (X2l x3) x1 x0_0 (X2m (X2l x3) x1 x0_0 xs29) x28 v24 v25 = some r := r27; clear r27; unfold X6s at r30; try dsimp only at r30
      refine .go 5 ?_
      refine .cond_dec rfl (fun _ => ?_) (fun c => absurd (X15 g26) c)
      refine .go 2 ?_
      refine .block (.go 2 ?_)
      obtain ⟨c31, p32, h33⟩ := SlR.get s4 (X3 g26)
      obtain ⟨_, _, rfl, rfl, a34, k35, rfl, s36⟩ := h33
      refine .q .ro (.idxR s4 rfl rfl (X3 g26) sl60 ty63.sz) rfl (.q .ro (.load_rp_a [_, _] p32 mcs rfl ty63 rfl) rfl ?_)
      refine .alloc .ro ty63 rfl (fun b37 hb37 => ?_)
      refine .store 0 [_, _] [_, _] .ro rfl rfl rfl ty63 rfl rfl rfl rfl (.go 8 ?_)
      refine .cB r30 (fun c38 r39 => ?_) (fun c38 r40 => ?_)
      ·refine .exit rfl ?_
       refine .go 4 ?_
       refine .drop 1 0 [_] _ rfl rfl ?_
       exact (hb21 _ _ ⟨(i22 + 1), xs29, v24, v25, rfl, rfl, (X4 g26), r39⟩ (Nat.lt_succ_self _)).ax ⟨rfl, rfl, (congrArg (fun z => some (Value.int .i64 z)) (X5 (SlR.len s4) g26)), rfl, rfl, rfl, rfl, rfl, trivial⟩
      ·refine .go 10 ?_
       refine .cH r40 (fun c41 r42 => ?_) (fun c41 r43 => ?_)
       ·cases r42
       ·refine .go 10 ?_
        obtain ⟨u44, h45, r46⟩ := X0 r43
        refine .kR (fun y => y = ⟨[(48, .bool u44)], G :: Fs, [], []⟩) [(11, _), (12, _), (27, _), (1, _), (3, _), (5, _), (25, _), (26, _)] [_, _] [0, 1] [] [] 6 ?_ ?_
        ·rintro _ rfl
         refine .gn 7 ?_
         refine .drop 1 0 [_] _ rfl rfl ?_
         exact (hb21 _ _ ⟨(i22 + 1), xs29, (w64 (v24 + 1)), u44, rfl, rfl, (X4 g26), r46⟩ (Nat.lt_succ_self _)).ax ⟨rfl, rfl, (congrArg (fun z => some (Value.int .i64 z)) (X5 (SlR.len s4) g26)), rfl, rfl, rfl, rfl, rfl, trivial⟩
        ·intro hb47
         refine .split_b 42 rfl (fun c48 => ?_) (fun c48 => ?_)
         ·have r49 := ifT h45 c48
          refine .go 9 ?_
          obtain ⟨u50, hu50, r51⟩ := X0 r49
          refine .cV [_, _] Tryz.call73 (X1g mcs s36 hu50) ?_
          refine .go 1 ?_
          exact (hb47 _ rfl).ax ⟨sval r51, rfl, rfl, rfl, rfl, rfl, rfl, rfl, rfl, trivial⟩
         ·have r52 := ifBF h45 c48
          refine .go 6 ?_
          exact (hb47 _ rfl).ax ⟨sval r52, rfl, rfl, rfl, rfl, rfl, rfl, rfl, rfl, trivial⟩
 ·intro hb3
  refine .split 17 rfl (fun c2 => ?_) (fun c2 => ?_)
  ·refine .go 3 ?_
   exact (hb3 _ rfl).ax ⟨X4y c2, rfl, rfl, rfl, rfl, rfl, trivial⟩
  ·refine .go 5 ?_
   exact (hb3 _ rfl).ax ⟨X4z c2, rfl, rfl, rfl, rfl, rfl, trivial⟩
theorem Xe0 {Fs : List Hp} {G : Hp} {p1 : Value} {a1 : Option Addr} {k1 : Nat} {x1 : List (Int × Bool)} {l : (List (Int × Int))} (hG : G ∈ Fs) (hp1 : Rp G p1 [.slice a1 x1.length k1]) (s1 : SlR (Rep.pair ri Rep.bool) G a1 k1 x1) (h : X96 x1 = some l) : IterX Tryz.prog 202 [p1] Fs l.length (fun i v => ∃ x, l[i]? = some x ∧ (Yr.pair (Yr.v ri) (Yr.v ri)).r G v x) := by
 unfold X96 at h
 try dsimp only at h
 intro y 𝒢 ℰ R0 hy hR0
 refine RetG.of (vs := [_, _]) Tryz.func202 rfl Tryz.ntmps202 [(0, _), (1, _)] ⟨rfl, rfl, trivial⟩ rfl fun w0 => Cov.dup hG ?_
 have B0 : Bd w0 (blks [] [.g R0]) Fs G := Bd.fin hG
 generalize hS0 : blks [] [.g R0] = S0 at B0 ⊢
 replace h : _ = some (List.drop 0 l) := h
 refine .go 2 ?_
 refine .q .ro (.load_rp hp1 mcs rfl ty218 rfl) rfl (.go 3 ?_)
 refine .block ?_
 refine .lp (fun y m => ∃ (Z0 : Nat) (Z1 : List (Int × Bool)) (Z2 : Guest) (Z3 : Nat), y = ⟨[(7, .int .i64 (Z0 : Int))], [], [], [.g Z2]⟩ ∧ Z1.length = m ∧ 𝒢 Z3 Z2 ∧ Z3 ≤ l.length ∧ List.drop Z0 x1 = Z1 ∧ X3g Z1 Z0  = some (List.drop Z3 l)) [(0, _), (5, _), (6, _)] [] [] ⟨0, x1, R0, 0, rfl, rfl, hR0, (Nat.zero_le _), rfl, h⟩ (fun y m hI hb30 => ?_)
 obtain ⟨i22, w23, R25, i26, rfl, rfl, hR27, le28, g24, r29⟩ := hI
 refine .gn 0 ?_
 cases w23 with
 | nil =>
  rw [X3g] at r29; try dsimp only at r29
  refine .go 5 ?_
  refine .cond_dec rfl (fun c => absurd c (Xl g24)) (fun _ => ?_)
  refine .exit rfl ?_
  have hi := Xjw r29 le28
  refine .leave (.inl rfl) [] [] rfl Tryz.func202 Tryz.results202 trivial mcm (.inl rfl) (X5t _) ⟨rfl, R25, .inl (hi ▸ hR27), rfl⟩
 | cons x34 xs35 =>
  have r33 : X6t (X3g xs35 (i22 + 1)) x34 i22  = some (List.drop i26 l) := r29; clear r29; unfold X6t at r33; try dsimp only at r33
  refine .go 5 ?_
  refine .cond_dec rfl (fun _ => ?_) (fun c => absurd (X15 g24) c)
  refine .go 2 ?_
  refine .block (.go 3 ?_)
  obtain ⟨c36, p37, h38⟩ := SlR.get s1 (X3 g24)
  obtain ⟨_, _, rfl, rfl, rfl⟩ := h38
  refine .q .ro (.idxR s1 rfl rfl (X3 g24) sl218 ty220.sz) rfl (.q .ro (.load_rp_a [_, _] p37 mcs rfl ty220 rfl) rfl ?_)
  refine .alloc .ro ty220 rfl (fun b39 hb39 => ?_)
  refine .go 1 ?_
  refine .store 0 [_, _] [_] .ro rfl rfl rfl ty220 rfl rfl rfl rfl (.go 6 ?_)
  refine .split_b 14 rfl (fun hc40 => ?_) (fun hc40 => ?_)
  ·have r41 := ifT r33 hc40
   refine .go 11 ?_
   obtain ⟨h42, r43⟩ := Xhi r41; clear r41
   refine .yieldX hy ⟨_, h42, ⟨[_], _, rfl, ⟨_, rfl, ((Rep.intI .i64 (w64 ((i22 : Int) + 1))) :)⟩, ⟨_, rfl, ((Rep.intI .i64 x34.1) :)⟩⟩⟩ hR27 mcm rfl rfl rfl (fun R44 hR45 => ?_) (fun R46 hE47 => ?_)
   ·refine .go 1 ?_
    refine .q .ro (.not_t rfl) rfl (.go 2 ?_)
    refine .cond_false rfl (.go 6 ?_)
    refine .drop 1 0 [] _ rfl rfl ?_
    exact (hb30 _ _ ⟨(i22 + 1), xs35, R44, (i26 + 1), rfl, rfl, hR45, (Xoj h42), (X4 g24), r43⟩ (Nat.lt_succ_self _)).ax ⟨(congrArg (fun z => some (Value.int .i64 z)) (X5 (SlR.len s1) g24)), rfl, rfl, rfl, trivial⟩
   ·refine .go 1 ?_
    refine .q .ro (.not_f rfl) rfl (.go 2 ?_)
    refine .cond_true rfl (.drop 1 0 [] _ rfl rfl ?_)
    refine .leave (.inr ⟨_, rfl⟩) [] [] rfl Tryz.func202 Tryz.results202 trivial mcm (.inl rfl) (X5t _) ⟨rfl, R46, .inr hE47, rfl⟩
  ·have r48 := ifBF r33 hc40
   refine .go 9 ?_
   refine .cond_false rfl (.go 6 ?_)
   refine .drop 1 0 [] _ rfl rfl ?_
   exact (hb30 _ _ ⟨(i22 + 1), xs35, R25, i26, rfl, rfl, hR27, le28, (X4 g24), r48⟩ (Nat.lt_succ_self _)).ax ⟨(congrArg (fun z => some (Value.int .i64 z)) (X5 (SlR.len s1) g24)), rfl, rfl, rfl, trivial⟩
theorem Xd5 {x0 : List (Int × Bool)} {r : (List (Int × Int))} (hG : G ∈ Fs) (s0 : SlR (Rep.pair ri Rep.bool) G a0 k0 x0) (h : X9p x0 = some r) : RetW Tryz.prog 199 #[.slice a0 x0.length k0] Fs [] [] (fun v bo so G => ∃ (Fi0 : FuncId) (ci0 : List Value), v = .func (.func Fi0) #[] ci0.toArray ∧ bo = [] ∧ so = [] ∧ (∀ args w, (callFunc Fi0 args).run Tryz.prog w = .ok (.enter Fi0 args) w) ∧ IterRX Tryz.prog (Yr.pair (Yr.v ri) (Yr.v ri)) Fi0 ci0 G r) := by
 unfold X9p at h
 try dsimp only at h
 refine RetW.st [(0, _)] Tryz.func199 Tryz.ntmps199 hG fun w0 S0 hS0 B0 => ?_
 refine .go 2 ?_
 refine .box [_] .ro rfl rfl rfl (fun b1 hb1 => ?_)
 refine .go 4 ?_
 refine .q .ro (.makeFunc (vf := []) (vc := [_]) rfl rfl) rfl (.go 2 ?_)
 refine .freezeBR 0 rfl [] rfl B0 (fun G2 e3 B4 p5 => ?_)
 obtain ⟨u7, hu7, r8⟩ := X0 h
 cases r8
 refine .rW 0 [.tmp 2] [_] Tryz.func199 Tryz.results199 ⟨RV.tmp rfl, trivial⟩ B4 hS0 (fun G' hg => ⟨_, _, rfl, rfl, rfl, Tryz.call202, (fun Fs' G1 hle hm => Xe0 (G := G1) hm (Rp.mono (HpLe.trans hg hle) p5) (SlR.mono (HpLe.trans hg hle) (SlR.mono e3 s0)) hu7)⟩)
theorem Xgq {x0_0 : Int} {x1 : List (Int × Bool)} {r : (Int × Int × Int)} (hG : G ∈ Fs) (s1 : SlR (Rep.pair ri Rep.bool) G a1 k1 x1) (h : Xae x0_0 x1 = some r) : RetS Tryz.prog 187 #[.agg #[.int .i64 x0_0], .slice a1 x1.length k1] Fs [] [] (rv (.tuple #[.int .i64 r.1, .int .i64 r.2.1, .int .i64 r.2.2])) := by
 unfold Xae at h
 try dsimp only at h
 refine RetS.st [(0, _), (1, _)] Tryz.func187 Tryz.ntmps187 hG fun w0 S0 hS0 B0 => ?_
 refine .marks0 (.go 2 ?_)
 refine .box [_] .ro rfl rfl rfl (fun b1 hb1 => ?_)
 refine .alloc .ro ty140 rfl (fun b2 hb2 => ?_)
 refine .alloc .ro ty3 rfl (fun b3 hb3 => ?_)
 refine .alloc .ro ty33 rfl (fun b4 hb4 => ?_)
 refine .go 3 ?_
 refine .q .ro (.load_own_a 3 [_] rfl rfl ty45 rfl) rfl ?_
 obtain ⟨u5, hu5, r6⟩ := X0 h
 refine .cV [_] Tryz.call72 (X3r mcs  hu5) ?_
 refine .go 3 ?_
 refine .alloc .ro ty140 rfl (fun b9 hb9 => ?_)
 refine .store 0 [_] [_, _, _, _, _] .ro rfl rfl rfl ty140 rfl rfl rfl rfl (.go 8 ?_)
 refine .cB r6 (fun c10 r11 => ?_) (fun c10 r12 => ?_)
 ·cases r11
 ·refine .go 8 ?_
  refine .kR (fun y => y = ⟨[(28, .bool (decide ((32 < (x1.length : Int)) ∨ (x0_0 ≤ (x1.length : Int)))))], G :: Fs, [], []⟩) [(1, _), (4, _), (5, _), (6, _), (7, _)] [_, _, _, _, _] [0, 1, 2, 3, 4] [_] [0] 6 ?_ ?_
  ·rintro _ rfl
   refine .gn 1 ?_
   refine .cH r12 (fun c17 r18 => ?_) (fun c17 r19 => ?_)
   ·cases r18
   ·refine .go 3 ?_
    refine .alloc .ro ty3 rfl (fun b20 hb20 => ?_)
    refine .store 0 [_] [_, _, _, _, _, _] .ro rfl rfl rfl ty3 rfl rfl rfl rfl (.go 5 ?_)
    obtain ⟨u21, hu21, r22⟩ := X0 r19
    refine .cW [_] Tryz.call199 (Xd5 mcs s1 hu21) B0 (fun v24 bo so G25 e26 B27 h23 => ?_)
    obtain ⟨F29, c30, rfl, rfl, rfl, hc31, hi32⟩ := h23
    refine .gn 1 ?_
    refine .cutBD (β := MK × Int) (fun y => mks y.1.1) (fun y => []) [(4, _), (5, _), (6, _), (7, _), (9, _)] (fun y => G25 :: Fs) (fun y => [(b20, .cells #[.int .i64 y.2] 3 (0, 0))]) [_, _, _, _, _] (fun y => [.g (marksG y.1)]) [] (fun y => (X4j u5.1) y.2 = some r) ⟨rfl, rfl, rfl, rfl, rfl, trivial⟩ [1, 2, 3, 4, 5] rfl [] rfl ?_ ?_
    ·intro y hI
     obtain ⟨mk86, v87⟩ := y
     have r89 := hI; clear hI
     try dsimp only at r89
     refine .gn 0 ?_
     unfold X4j at r89
     try dsimp only at r89
     refine .go 1 ?_
     refine .drawL (.q 0 (.q 1 (.e 2 1 (.e 3 2 (.e 4 2 .nil))))) [_, _, _, _, _] (by kernel_rfl) (by kernel_rfl) (X1 [0, 1, 2, 3, 5] rfl) (.go 2 ?_)
     refine .store 4 [_] [_, _, _, _, _, _] .d1 rfl rfl rfl ty140 rfl rfl rfl rfl (.clsL (HpLe.refl _) (X1 [0, 1, 2, 3, 5] rfl) (.store 3 [_] [_, _, _, _, _, _] .d2 rfl rfl rfl ty3 rfl rfl rfl rfl (.store 2 [_] [_, _, _, _, _, _] .d2 rfl rfl rfl ty33 rfl rfl rfl rfl (.go 1 ?_))))
     cases r89
     refine .out (.inr ⟨_, rfl⟩) rfl (Cov.unmarkAll _ _ ?_)
     refine .outSD 6 [.cell 4 140, .cell 5 3, .cell 6 33] [_, _, _] Tryz.func187 Tryz.results187 ⟨RV.cell 4 rfl rfl ty140 rfl, RV.cell 3 rfl rfl ty3 rfl, RV.cell 2 rfl rfl ty33 rfl, trivial⟩ mcm ⟨rfl, rfl, rfl⟩
    ·intro hb92
     refine .block (.pull 4 rfl [_, _, _, _, _, _] rfl (.pull 4 rfl [_, _, _, _, _, _] rfl (.pull 4 rfl [_, _, _, _, _, _] rfl (.pull 4 rfl [_, _, _, _, _, _] rfl (.pull 4 rfl [_, _, _, _, _, _] rfl ?_)))))
     refine .rangeX (α := Int) (β := Unit) (fun y => []) (fun y => [(b20, .cells #[.int .i64 y] 3 (0, 0)), (b9, .cells #[.int .i64 u5.1] 140 (0, 0)), (b4, .cells #[.int .i64 0] 33 (0, 0)), (b3, .cells #[.int .i64 0] 3 (0, 0)), (b2, .cells #[.int .i64 0] 140 (0, 0))]) (fun y => []) (fun _ => []) (fun _ => []) (fun _ => []) (fun _ => .skip) (fun i y => X4k (X4j u5.1) u5.1 (List.drop i u21) y = some r) (fun _ => False) (0)  c30 rfl rfl hc31 rfl (by simp) rfl rfl (hi32 _ G25 (HpLe.refl _) mcs) (fun _ _ hv => by obtain ⟨_, _, hv⟩ := hv; exact (Yr.len _ hv).trans rfl) (by kernel_rfl) r22 ?_ ?_ (fun _ _ h => h.elim)
     ·intro l15 tm16 D28 i34 v35 v36 hV37 hI w38 S39 hw40
      have r41 := hI; clear hI
      obtain ⟨x42, h43, h44⟩ := hV37
      refine .dup (G := G25) mcs ?_
      obtain ⟨_, _, rfl, h46, h47⟩ := h44
      obtain ⟨v48, rfl, h49⟩ := h46
      obtain ⟨rfl, _⟩ := List.cons.inj h49
      obtain ⟨v50, rfl, h51⟩ := h47
      obtain ⟨rfl, _⟩ := List.cons.inj h51
      rw [Xad h43] at r41
      have r52 : X97 (X4j u5.1) u5.1 (X4k (X4j u5.1) u5.1 (List.drop (i34 + 1) u21)) x42 v35 = some r := r41; clear r41; unfold X97 at r52; try dsimp only at r52
      refine .gn 3 ?_
      refine .beginRound 5 rfl rfl [_, _, _, _, _, _] rfl (.block (.go 5 ?_))
      obtain ⟨u53, hu53, r54⟩ := X0 r52
      refine .cV [_, _] Tryz.call126 (X72 mcs  hu53) ?_
      refine .go 2 ?_
      refine .cB r54 (fun c55 r56 => ?_) (fun c55 r57 => ?_)
      ·cases r56
      ·refine .go 4 ?_
       refine .store 0 [_] [_, _, _, _, _, _] .ro rfl rfl rfl ty3 rfl rfl rfl rfl (.go 2 ?_)
       refine .round_endX ((w64 (v35 + 1))) 5 rfl rfl r57 rfl rfl (fun F hF => List.mem_cons_of_mem _ hF) (by simp)
     ·intro q58 v35 hI hb59
      have r41 := hI; clear hI
      refine .gn 0 ?_
      refine .mkmerge 5 rfl [_, _, _, _, _, _] rfl (fun mk60 => ?_)
      rw [List.drop_length] at r41; rw [X4k] at r41; try dsimp only at r41
      refine .go 1 ?_
      exact .arr (hb92 (mk60, v35) r41) ⟨rfl, rfl, rfl, rfl, rfl, trivial⟩
  ·intro hb14
   refine .split 22 rfl (fun c13 => ?_) (fun c13 => ?_)
   ·refine .go 6 ?_
    exact (hb14 _ rfl).ax ⟨X4y c13, rfl, rfl, rfl, rfl, rfl, trivial⟩
   ·refine .go 11 ?_
    exact (hb14 _ rfl).ax ⟨X4z c13, rfl, rfl, rfl, rfl, rfl, trivial⟩
theorem X32 {x0 : Int} {x1 : Int} {x2 : Int} {r : Int} (hG : G ∈ Fs)  (h : X20 x0 x1 x2 = some r) : RetS Tryz.prog 190 #[.int .i64 x0, .int .i64 x1, .int .i64 x2] Fs [] [] (rv (.int .i64 r)) := by
 unfold X20 at h
 try dsimp only at h
 refine RetS.st [(0, _), (1, _), (2, _)] Tryz.func190 Tryz.ntmps190 hG fun w0 S0 hS0 B0 => ?_
 refine .go 12 ?_
 obtain ⟨u1, hu1, r2⟩ := X0 h
 refine .q .ro (.remt rfl rfl (X6z hu1)) rfl (.go 2 ?_)
 cases r2
 refine .rS [.tmp 6] [_] Tryz.func190 Tryz.results190 ⟨rfl, rfl, rfl⟩
theorem Xe1 {x0_0 : Int} {x1 : List (List Int)} {r : (Int × Int)} (hG : G ∈ Fs) (s1 : SlR (Rep.sl ri) G a1 k1 x1) (h : Xaf x0_0 x1 = some r) : RetS Tryz.prog 194 #[.agg #[.int .i64 x0_0], .slice a1 x1.length k1] Fs [] [] (rv (.tuple #[.int .i64 r.1, .int .i64 r.2])) := by
 unfold Xaf at h
 try dsimp only at h
 refine RetS.st [(0, _), (1, _)] Tryz.func194 Tryz.ntmps194 hG fun w0 S0 hS0 B0 => ?_
 refine .go 2 ?_
 refine .box [_] .ro rfl rfl rfl (fun b1 hb1 => ?_)
 refine .go 5 ?_
 refine .q .ro (.load_own_a 0 [_] rfl rfl ty45 rfl) rfl ?_
 obtain ⟨u2, hu2, r3⟩ := X0 h
 refine .cV [_] Tryz.call72 (X3r mcs  hu2) ?_
 refine .go 12 ?_
 refine .cB r3 (fun c6 r7 => ?_) (fun c6 r8 => ?_)
 ·cases r7
 ·refine .go 12 ?_
  refine .kB (fun y => ∃ (Z0 Z1 : _), y = ⟨[(8, .bool Z0)], G :: Fs, [(b1, .cells #[.int .i64 Z1] 45 (0, 0))], []⟩ ∧ (X74 u2.1) Z0 Z1 = some r) [(6, _)] [] [] [] [] ?_ ?_
  ·rintro _ ⟨v66, v67, rfl, r69⟩
   refine .gn 0 ?_
   unfold X74 at r69
   try dsimp only at r69
   refine .go 5 ?_
   refine .cB r69 (fun c71 r72 => ?_) (fun c71 r73 => ?_)
   ·cases r72
   ·refine .go 7 ?_
    cases r73
    refine .drop 1 0 [] _ rfl rfl ?_
    refine .rS [.tmp 4, .tmp 5] [_, _] Tryz.func194 Tryz.results194 ⟨rfl, rfl, rfl⟩
  ·intro hb74
   refine .block ?_
   refine .lp (fun y m => ∃ (Z0 : Nat) (Z1 : List (List Int)) (Z2 : _), y = ⟨[(8, .bool Z2), (20, .int .i64 (Z0 : Int))], [], [], []⟩ ∧ Z1.length = m ∧ List.drop Z0 x1 = Z1 ∧ X68 (X74 u2.1) u2.1 x0_0 Z1 Z2 = some r) [(6, _), (18, _), (19, _)] [_] [] ⟨0, x1, false, rfl, rfl, rfl, r8⟩ (fun y m hI hb10 => ?_)
   obtain ⟨i11, w12, v13, rfl, rfl, g14, r15⟩ := hI
   refine .gn 0 ?_
   cases w12 with
   | nil =>
    rw [X68] at r15; try dsimp only at r15
    refine .go 5 ?_
    refine .cond_dec rfl (fun c => absurd c (Xl g14)) (fun _ => ?_)
    refine .exit rfl ?_
    exact (hb74 _ ⟨v13, x0_0, rfl, r15⟩).ar
   | cons x16 xs17 =>
    have r18 : Xa3 (X74 u2.1) u2.1 x0_0 (X68 (X74 u2.1) u2.1 x0_0 xs17) x16 v13 = some r := r15; clear r15; unfold Xa3 at r18; try dsimp only at r18
    refine .go 5 ?_
    refine .cond_dec rfl (fun _ => ?_) (fun c => absurd (X15 g14) c)
    refine .go 2 ?_
    refine .block (.go 2 ?_)
    obtain ⟨c19, p20, h21⟩ := SlR.get s1 (X3 g14)
    obtain ⟨a23, k24, rfl, s25⟩ := h21
    refine .q .ro (.idxR s1 rfl rfl (X3 g14) sl51 ty22.sz) rfl (.q .ro (.load_rp p20 mcs rfl ty22 rfl) rfl (.go 7 ?_))
    obtain ⟨u26, hu26, r27⟩ := X0 r18
    refine .cV [_, _] Tryz.call73 (X1g mcs s25 hu26) ?_
    refine .go 2 ?_
    refine .cB r27 (fun c28 r29 => ?_) (fun c28 r30 => ?_)
    ·cases r29
    ·refine .go 4 ?_
     refine .kR (fun y => y = ⟨[(33, .bool (decide ((v13 = true) ∨ (512 < (x16.length : Int)))))], G :: Fs, [], []⟩) [(8, _), (20, _), (6, _), (18, _), (19, _)] [_] [0] [] [] 4 ?_ ?_
     ·rintro _ rfl
      refine .gn 7 ?_
      exact (hb10 _ _ ⟨(i11 + 1), xs17, (decide ((v13 = true) ∨ (512 < (x16.length : Int)))), rfl, rfl, (X4 g14), r30⟩ (Nat.lt_succ_self _)).ax ⟨rfl, (congrArg (fun z => some (Value.int .i64 z)) (X5 (SlR.len s1) g14)), rfl, rfl, rfl, trivial⟩
     ·intro hb31
      refine .split_b 29 rfl (fun c32 => ?_) (fun c32 => ?_)
      ·refine .go 4 ?_
       exact (hb31 _ rfl).ax ⟨X4y c32, rfl, rfl, rfl, rfl, rfl, trivial⟩
      ·refine .go 7 ?_
       exact (hb31 _ rfl).ax ⟨X4z (Xd2 c32), rfl, rfl, rfl, rfl, rfl, trivial⟩
theorem Xc0 {x0 : List Int} {r : (List Int)} (hG : G ∈ Fs) (s0 : SlR ri G a0 k0 x0) (h : X75 x0 = some r) : RetS Tryz.prog 196 #[.slice a0 x0.length k0] Fs [] [] (fun v bo so => ∃ a0 : Option Addr, ∃ k0 : Nat, v = .slice a0 r.length k0 ∧ bo = [] ∧ so = [] ∧ SlR ri G a0 k0 r) := by
 unfold X75 at h
 try dsimp only at h
 refine RetS.st [(0, _)] Tryz.func196 Tryz.ntmps196 hG fun w0 S0 hS0 B0 => ?_
 refine .go 11 ?_
 refine .kB (fun y => ∃ (Z0 : _), y = ⟨[(3, .int .i64 Z0)], G :: Fs, [], []⟩ ∧ (X3v x0) Z0 = some r) [(0, _)] [] [] [] [] ?_ ?_
 ·rintro _ ⟨v55, rfl, r57⟩
  refine .gn 0 ?_
  unfold X3v at r57
  try dsimp only at r57
  refine .go 4 ?_
  obtain ⟨u59, hu59, r60⟩ := X0 r57
  obtain ⟨a61, k62, h63, s64⟩ := SlR.sub s0 hu59
  refine .q .ro (.sliceR s0 rfl hu59 sl22 ty3.sz (fun _ => .no) (fun h => .yes' rfl h) h63) rfl (.go 2 ?_)
  cases r60
  refine .rS [.tmp 2] [_] Tryz.func196 Tryz.results196 ⟨a61, k62, rfl, rfl, rfl, s64⟩
 ·intro hb65
  refine .block ?_
  refine .lp (fun y m => ∃ (Z0 : Nat) (Z1 : _), y = ⟨[(3, .int .i64 Z1)], [], [], []⟩ ∧ Z0 = m ∧ X56 (X3v x0) x0 Z0 Z1 = some r) [(0, _)] [] [] ⟨big, (x0.length : Int), rfl, rfl, h⟩ (fun y m hI hb94 => ?_)
  obtain ⟨n90, v92, rfl, rfl, r93⟩ := hI
  refine .gn 0 ?_
  obtain ⟨m97, rfl⟩ : ∃ m, n90 = m + 1 := by cases n90 with | zero => exact absurd (show (none : Option _) = some _ from r93) (by simp) | succ m => exact ⟨m, rfl⟩
  have r96 : X7j (X3v x0) x0 (X56 (X3v x0) x0 m97) v92 = some r := r93; clear r93; unfold X7j at r96; try dsimp only at r96
  refine .go 6 ?_
  obtain ⟨u10, h11, r12⟩ := X0 r96
  refine .kR (fun y => y = ⟨[(15, .bool u10)], G :: Fs, [], []⟩) [(3, _), (0, _)] [] [] [] [] 7 ?_ ?_
  ·rintro _ rfl
   refine .gn 1 ?_
   refine .cB r12 (fun c13 r14 => ?_) (fun c13 r15 => ?_)
   ·refine .go 1 ?_
    refine .block (.go 6 ?_)
    exact (hb94 _ _ ⟨m97, (w64 (v92 - 1)), rfl, rfl, r14⟩ (Nat.lt_succ_self _)).ar
   ·refine .exit rfl ?_
    exact (hb65 _ ⟨(v92), rfl, r15⟩).ar
  ·intro hb16
   refine .split 8 rfl (fun c17 => ?_) (fun c17 => ?_)
   ·have r18 := ifT h11 c17
    refine .go 7 ?_
    obtain ⟨u19, hu19, r20⟩ := X0 r18
    obtain ⟨c21, p23, h24⟩ := SlR.get s0 hu19
    obtain rfl := h24
    refine .q .ro (.idxR s0 rfl rfl hu19 sl22 ty3.sz) rfl (.go 1 ?_)
    refine .q .ro (.load_rp p23 mcs rfl ty3 rfl) rfl (.go 3 ?_)
    exact (hb16 _ rfl).ax ⟨sval r20, rfl, rfl, trivial⟩
   ·have r25 := ifF h11 c17
    refine .go 7 ?_
    exact (hb16 _ rfl).ax ⟨sval r25, rfl, rfl, trivial⟩
theorem Xda {x0 : List Int} {pre0 post0 : List Value} {r : ((Int × Int) × (List Int))} (hG : G ∈ Fs) (vva0 : VA a0 bb0 x0.length k0 pre0 cc0) (oo0 : OL ri G cc0 x0) (h : X6n x0 = some r) : RetS Tryz.prog 196 #[.slice a0 x0.length k0] Fs [] [.g (viewG bb0 3 pre0 cc0 post0)] (fun v bo so => ∃ pq0 : Value, ∃ lc0 : List Value, v = pq0 ∧ bo = [] ∧ so = [.g (viewG bb0 3 pre0 lc0 post0)] ∧ PartV a0 1 pq0 r.1.1.toNat (r.1.2 - r.1.1).toNat ∧ OL ri G lc0 r.2 ∧ r.2.length = x0.length) := by
 unfold X6n at h
 try dsimp only at h
 refine RetS.st [(0, _)] Tryz.func196 Tryz.ntmps196 hG fun w0 S0 hS0 B0 => ?_
 refine .go 11 ?_
 refine .kB (fun y => ∃ (Z0 : _), y = ⟨[(3, .int .i64 Z0)], G :: Fs, [], []⟩ ∧ (X30 x0) Z0 = some r) [(0, _)] [] [] [_] [0] ?_ ?_
 ·rintro _ ⟨v56, rfl, r58⟩
  refine .gn 0 ?_
  unfold X30 at r58
  try dsimp only at r58
  refine .go 4 ?_
  obtain ⟨u60, hu60, r61⟩ := X0 r58
  refine .q .ro (.sliceP rfl (PartV.all vva0.1) hu60 sl22 ty3.sz (fun _ => .no) (fun h => .yes' rfl h)) rfl (.go 2 ?_)
  cases r61
  refine .rS [.tmp 2] [_] Tryz.func196 Tryz.results196 ⟨_, cc0, rfl, rfl, rfl, (PartV.psub (PartV.all vva0.1) hu60), oo0, rfl⟩
 ·intro hb62
  refine .block ?_
  refine .lp (fun y m => ∃ (Z0 : Nat) (Z1 : _), y = ⟨[(3, .int .i64 Z1)], [], [], []⟩ ∧ Z0 = m ∧ X3t (X30 x0) x0 Z0 Z1 = some r) [(0, _)] [] [_] ⟨big, (x0.length : Int), rfl, rfl, h⟩ (fun y m hI hb91 => ?_)
  obtain ⟨n87, v89, rfl, rfl, r90⟩ := hI
  refine .gn 0 ?_
  obtain ⟨m94, rfl⟩ : ∃ m, n87 = m + 1 := by cases n87 with | zero => exact absurd (show (none : Option _) = some _ from r90) (by simp) | succ m => exact ⟨m, rfl⟩
  have r93 : X6j (X30 x0) x0 (X3t (X30 x0) x0 m94) v89 = some r := r90; clear r90; unfold X6j at r93; try dsimp only at r93
  refine .go 6 ?_
  obtain ⟨u10, h11, r12⟩ := X0 r93
  refine .kR (fun y => y = ⟨[(15, .bool u10)], G :: Fs, [], []⟩) [(3, _), (0, _)] [] [] [_] [0] 7 ?_ ?_
  ·rintro _ rfl
   refine .gn 1 ?_
   refine .cB r12 (fun c13 r14 => ?_) (fun c13 r15 => ?_)
   ·refine .go 1 ?_
    refine .block (.go 6 ?_)
    exact (hb91 _ _ ⟨m94, (w64 (v89 - 1)), rfl, rfl, r14⟩ (Nat.lt_succ_self _)).ar
   ·refine .exit rfl ?_
    exact (hb62 _ ⟨(v89), rfl, r15⟩).ar
  ·intro hb16
   refine .split 8 rfl (fun c17 => ?_) (fun c17 => ?_)
   ·have r18 := ifT h11 c17
    refine .go 7 ?_
    obtain ⟨u19, hu19, r20⟩ := X0 r18
    obtain ⟨c21, p23, h24⟩ := OL.get oo0 hu19
    obtain rfl := h24
    refine .q .ro (.idxV 0 rfl vva0 oo0 rfl rfl hu19 sl22 ty3.sz rfl rfl) rfl (.go 1 ?_)
    refine .q .ro (.loadV 0 0 rfl vva0 oo0 rfl rfl hu19 p23 rfl (.inl ⟨rfl, rfl⟩) ty3 rfl) rfl (.go 3 ?_)
    exact (hb16 _ rfl).ax ⟨sval r20, rfl, rfl, trivial⟩
   ·have r25 := ifF h11 c17
    refine .go 7 ?_
    exact (hb16 _ rfl).ax ⟨sval r25, rfl, rfl, trivial⟩
theorem Xbt {x0 : List Int} {r : (List Int)} (hG : G ∈ Fs) (s0 : SlR ri G a0 k0 x0) (h : Xa4 x0 = some r) : RetS Tryz.prog 195 #[.slice a0 x0.length k0] Fs [] [] (fun v bo so => ∃ (oa0 : Option Addr) (ok0 : Nat) (oc0 : List Value), v = .slice oa0 r.length ok0 ∧ bo = [] ∧ so = [.s (.slice oa0 r.length ok0) 3 1 r.length oc0] ∧ OL ri G oc0 r) := by
 unfold Xa4 at h
 try dsimp only at h
 refine RetS.st [(0, _)] Tryz.func195 Tryz.ntmps195 hG fun w0 S0 hS0 B0 => ?_
 refine .go 7 ?_
 obtain ⟨u1, hu1, r2⟩ := X0 h
 refine .cS [_] Tryz.call196 (Xc0 mcs s0 hu1) (fun v4 bo so h3 => ?_)
 obtain ⟨a5, k6, rfl, rfl, rfl, s7⟩ := h3
 refine .gn 0 ?_
 refine .own_nil 3 1 ?_
 obtain ⟨u13, hu13, r14⟩ := X0 r2
 refine .appR (Q := ri) 0 .ro sl22 ty3 rfl rfl rfl rfl rfl (OL.nil (Rp' := ri)) rfl rfl s7 rfl mcs hu13 rfl (fun a9 k10 cs11 o12 => ?_)
 refine .go 2 ?_
 cases r14
 refine .rS [.tmp 2] [_] Tryz.func195 Tryz.results195 ⟨a9, k10, cs11, rfl, rfl, rfl, o12⟩
theorem X5s {x0 : Int} {x1 : Int} {r : Int} (hG : G ∈ Fs)  (h : Xn x0 x1 = some r) : RetS Tryz.prog 197 #[.int .i64 x0, .int .i64 x1] Fs [] [] (rv (.int .i64 r)) := by
 unfold Xn at h
 try dsimp only at h
 refine RetS.st [(0, _), (1, _)] Tryz.func197 Tryz.ntmps197 hG fun w0 S0 hS0 B0 => ?_
 refine .go 14 ?_
 refine .block ?_
 refine .lp (fun y m => ∃ (Z0 : Nat) (Z1 Z2 Z3 Z4 : _), y = ⟨[(5, .int .i64 Z1), (6, .int .i64 Z2), (7, .int .i64 Z3), (8, .int .i64 Z4)], [], [], []⟩ ∧ Z0 = m ∧ X17 x0 Z0 Z1 Z2 Z3 Z4 = some r) [(0, _)] [] [] ⟨big, x0, x1, 0, 1, rfl, rfl, h⟩ (fun y m hI hb22 => ?_)
 obtain ⟨n15, v17, v18, v19, v20, rfl, rfl, r21⟩ := hI
 refine .gn 0 ?_
 obtain ⟨m25, rfl⟩ : ∃ m, n15 = m + 1 := by cases n15 with | zero => exact absurd (show (none : Option _) = some _ from r21) (by simp) | succ m => exact ⟨m, rfl⟩
 have r24 : X2c x0 (X17 x0 m25) v17 v18 v19 v20 = some r := r21; clear r21; unfold X2c at r24; try dsimp only at r24
 refine .go 6 ?_
 refine .cH r24 (fun c26 r27 => ?_) (fun c26 r30 => ?_)
 ·refine .go 1 ?_
  refine .block (.go 4 ?_)
  obtain ⟨u28, hu28, r29⟩ := X0 r27
  refine .q .ro (.quow rfl rfl (X6z hu28)) rfl (.go 21 ?_)
  exact (hb22 _ _ ⟨m25, v18, (w64 (v17 - (w64 ((w64 (Int.tdiv v17 v18)) * v18)))), v20, (w64 (v19 - (w64 ((w64 (Int.tdiv v17 v18)) * v20)))), rfl, rfl, r29⟩ (Nat.lt_succ_self _)).ar
 ·refine .exit rfl ?_
  refine .go 4 ?_
  obtain ⟨u31, hu31, r32⟩ := X0 r30
  refine .q .ro (.remt rfl rfl (X6z hu31)) rfl (.go 3 ?_)
  obtain ⟨u33, hu33, r34⟩ := X0 r32
  refine .q .ro (.remt rfl rfl (X6z hu33)) rfl (.go 2 ?_)
  cases r34
  refine .rS [.tmp 4] [_] Tryz.func197 Tryz.results197 ⟨rfl, rfl, rfl⟩
theorem Xgr {x0 : Int} {x1 : List Int} {x2 : List Int} {r : (List Int)} (hG : G ∈ Fs) (s1 : SlR ri G a1 k1 x1) (s2 : SlR ri G a2 k2 x2) (h : Xag x0 x1 x2 = some r) : RetS Tryz.prog 200 #[.int .i64 x0, .slice a1 x1.length k1, .slice a2 x2.length k2] Fs [] [] (fun v bo so => ∃ (oa0 : Option Addr) (ok0 : Nat) (oc0 : List Value), v = .slice oa0 r.length ok0 ∧ bo = [] ∧ so = [.s (.slice oa0 r.length ok0) 3 1 r.length oc0] ∧ OL ri G oc0 r) := by
 unfold Xag at h
 try dsimp only at h
 refine RetS.st [(0, _), (1, _), (2, _)] Tryz.func200 Tryz.ntmps200 hG fun w0 S0 hS0 B0 => ?_
 refine .go 12 ?_
 obtain ⟨u1, hu1, r2⟩ := X0 h
 refine .makeR (G := G) (Q := ri) .ro sl22 ty3 rfl rfl rfl ((Rep.intI .i64 0) :) rfl rfl hu1 rfl rfl (fun b3 cs4 hb3 o5 => ?_)
 refine .go 9 ?_
 refine .block ?_
 refine .lp (fun y m => ∃ (Z0 : Nat) (Z1 Z2 : List Int) (Z3 : _) (Z4 : Nat) (Z5 : _), y = ⟨[(7, .slice Z3 Z2.length Z4), (19, .int .i64 (Z0 : Int))], [], [], [.s (.slice Z3 Z2.length Z4) 3 1 Z2.length Z5]⟩ ∧ Z1.length = m ∧ OL ri G Z5 Z2 ∧ List.drop Z0 x1 = Z1 ∧ X5i x0 x2 Z1 Z0 Z2 = some r) [(0, _), (2, _), (17, _), (18, _)] [] [] ⟨0, x1, u1, (some ⟨b3, 0, none⟩), u1.length, cs4, rfl, rfl, o5, rfl, r2⟩ (fun y m hI hb56 => ?_)
 obtain ⟨i46, w47, v49, a50, k51, cs52, rfl, rfl, o53, g48, r55⟩ := hI
 refine .gn 0 ?_
 cases w47 with
 | nil =>
  rw [X5i] at r55; try dsimp only at r55
  refine .go 5 ?_
  refine .cond_dec rfl (fun c => absurd c (Xl g48)) (fun _ => ?_)
  refine .exit rfl (.go 5 ?_)
  cases r55
  refine .rS [.tmp 6] [_] Tryz.func200 Tryz.results200 ⟨a50, k51, cs52, rfl, rfl, rfl, o53⟩
 | cons x62 xs63 =>
  have r61 : X98 x0 x2 (X5i x0 x2 xs63 (i46 + 1)) x62 i46 v49 = some r := r55; clear r55; unfold X98 at r61; try dsimp only at r61
  refine .go 5 ?_
  refine .cond_dec rfl (fun _ => ?_) (fun c => absurd (X15 g48) c)
  refine .go 2 ?_
  refine .block (.go 3 ?_)
  obtain ⟨c64, p65, h66⟩ := SlR.get s1 (X3 g48)
  obtain rfl := h66
  refine .q .ro (.idxR s1 rfl rfl (X3 g48) sl22 ty3.sz) rfl (.q .ro (.load_rp p65 mcs rfl ty3 rfl) rfl (.go 7 ?_))
  refine .owncap 0 rfl (fun h67 => ?_)
  obtain ⟨u68, hu68, r69⟩ := X0 r61
  refine .q .ro (.sliceP rfl (PartV.all h67) hu68 sl22 ty3.sz (fun h => .yes' rfl h) (fun _ => .no)) rfl (.go 2 ?_)
  refine .toV 0 rfl (fun vb70 po71 va72 vb73 => ?_)
  obtain ⟨u74, hu74, r75⟩ := X0 r69
  refine .lendP 0 27 rfl va72 o53 (PartV.psub (PartV.all h67) hu68) rfl hu74 rfl (fun a76 k77 h78 o79 va80 => ?_)
  obtain ⟨u82, hu82, r83⟩ := X0 r75
  refine .callS (b1 := []) (b2 := []) (s1 := [_]) [_, _, _, _] [] .ro rfl rfl Tryz.call67 rfl rfl (X1p mcs va80 o79 s2 hu82) rfl (fun v85 bo so h84 => ?_)
  obtain ⟨cs86, rfl, rfl, rfl, o87, hl88⟩ := h84
  refine .gn 0 ?_
  refine .backP 0 rfl va72 o53 rfl hu74 o87 hl88 (fun cs90 hl92 o91 va93 => ?_)
  refine .ofV 0 rfl vb73 hl92 o91 rfl (.reval 7 hl92 rfl (.reval 25 hl92 rfl (.go 6 ?_)))
  exact (hb56 _ _ ⟨(i46 + 1), xs63, (lcpy v49 u68.1 u74.length u82), a50, k51, cs90, rfl, rfl, o91, (X4 g48), r83⟩ (Nat.lt_succ_self _)).ax ⟨rfl, (congrArg (fun z => some (Value.int .i64 z)) (X5 (SlR.len s1) g48)), rfl, rfl, rfl, rfl, trivial⟩
theorem Xcg {x0_0 : Int} {x1 : List (Int × Int)} {r : ((List Int) × Int)} (hG : G ∈ Fs) (s1 : SlR (Rep.pair ri ri) G a1 k1 x1) (h : X5u x0_0 x1 = some r) : RetS Tryz.prog 188 #[.agg #[.int .i64 x0_0], .slice a1 x1.length k1] Fs [] [] (fun v bo so => ∃ (oa0 : Option Addr) (ok0 : Nat) (oc0 : List Value), v = .tuple #[.slice oa0 r.1.length ok0, .int .i64 r.2] ∧ bo = [] ∧ so = [.s (.slice oa0 r.1.length ok0) 3 1 r.1.length oc0] ∧ OL ri G oc0 r.1) := by
 unfold X5u at h
 try dsimp only at h
 refine RetS.st [(0, _), (1, _)] Tryz.func188 Tryz.ntmps188 hG fun w0 S0 hS0 B0 => ?_
 refine .go 2 ?_
 refine .box [_] .ro rfl rfl rfl (fun b1 hb1 => ?_)
 refine .go 15 ?_
 refine .kB (fun y => ∃ (Z0 : List Int) (Z1 : _) (Z2 : Nat) (Z3 : _) (Z4 : List Int) (Z5 : _) (Z6 : Nat) (Z7 Z8 : _), y = ⟨[(6, .slice Z1 Z0.length Z2), (7, .slice Z5 Z4.length Z6)], G :: Fs, [(b1, .cells #[.int .i64 Z8] 45 (0, 0))], [.s (.slice Z1 Z0.length Z2) 3 1 Z0.length Z3, .s (.slice Z5 Z4.length Z6) 3 1 Z4.length Z7]⟩ ∧ OL ri G Z3 Z0 ∧ OL ri G Z7 Z4 ∧ X29 Z0 Z4 Z8 = some r) [(2, _)] [] [] [] [] ?_ ?_
 ·rintro _ ⟨v11, a12, k13, cs14, v15, a16, k17, cs18, v19, rfl, o20, o21, r23⟩
  refine .gn 0 ?_
  unfold X29 at r23
  try dsimp only at r23
  refine .go 2 ?_
  refine .q .ro (.load_own_a 0 [_] rfl rfl ty45 rfl) rfl (.go 2 ?_)
  refine .freezeR 0 rfl rfl o20 [_] rfl B0 (fun G24 e25 B26 s27 => ?_)
  refine .freezeR 0 rfl rfl (OL.mono e25 o21) [] rfl B26 (fun G28 e29 B30 s31 => ?_)
  refine .lit [_, _] [(0, _), (1, _)] .ro sl51 ty22 rfl rfl rfl rfl rfl rfl (fun b32 hb32 => ?_)
  have o33 : OL (Rep.sl ri) G28 [.slice a12 v11.length k13, .slice a16 v15.length k17] ([v11, v15] : List (List Int)) := ((OL.cons rfl (Rep.slI (SlR.mono e29 s27)) (OL.cons rfl (Rep.slI s31) (OL.nil (Rp' := (Rep.sl ri))))) :)
  refine .reval 42 (n' := ([v11, v15] : List (List Int)).length) rfl rfl ?_
  refine .freezeR 0 rfl rfl o33 [] rfl B30 (fun G34 e35 B36 s37 => ?_)
  obtain ⟨u38, hu38, r39⟩ := X0 r23
  refine .cV [_, _] Tryz.call194 (Xe1 mcs s37 hu38) ?_
  refine .go 12 ?_
  refine .cH r39 (fun c40 r41 => ?_) (fun c40 r42 => ?_)
  ·cases r41
  ·refine .go 3 ?_
   refine .mkMap (Value.int .i64) (Value.bool) .ro rfl (fun b43 hb43 => ?_)
   refine .go 9 ?_
   refine .kB (fun y => ∃ (Z0 : List (Int × Bool)) (Z1 : _), y = ⟨[], G34 :: Fs, [(b43, mObj (Value.int .i64) (Value.bool) Z0), (b1, .cells #[.int .i64 Z1] 45 (0, 0))], []⟩ ∧ (X1v v11 v15 u38.1) Z0 Z1 = some r) [(6, _), (7, _), (10, _)] [] [] [] [] ?_ ?_
   ·rintro _ ⟨v44, v46, rfl, r47⟩
    refine .gn 0 ?_
    unfold X1v at r47
    try dsimp only at r47
    refine .go 6 ?_
    refine .lit [_] [(0, _)] .ro sl22 ty3 rfl rfl rfl rfl rfl rfl (fun b48 hb48 => ?_)
    have o49 : OL ri G34 [.int .i64 1] ([1] : List Int) := ((OL.cons rfl (Rep.intI .i64 1) (OL.nil (Rp' := ri))) :)
    refine .reval 62 (n' := ([1] : List Int).length) rfl rfl (.go 9 ?_)
    refine .kB (fun y => ∃ (Z0 : _) (Z1 : List Int) (Z2 : _) (Z3 : Nat) (Z4 : _) (Z5 : List (Int × Bool)) (Z6 : _), y = ⟨[(15, .slice Z2 Z1.length Z3)], Z0 :: Fs, [(b43, mObj (Value.int .i64) (Value.bool) Z5), (b1, .cells #[.int .i64 Z6] 45 (0, 0))], [.s (.slice Z2 Z1.length Z3) 3 1 Z1.length Z4]⟩ ∧ HpLe G34 Z0 ∧ Bd w0 S0 Fs Z0 ∧ OL ri Z0 Z4 Z1 ∧ X1t Z1 Z5 Z6 = some r) [] [] [] [] [] ?_ ?_
    ·rintro _ ⟨G50, v52, a53, k54, cs55, v56, v57, rfl, e58, B59, o60, r61⟩
     refine .gn 0 ?_
     unfold X1t at r61
     try dsimp only at r61
     refine .go 3 ?_
     refine .freezeR 0 rfl rfl o60 [] rfl B59 (fun G62 e63 B65 s66 => ?_)
     obtain ⟨u68, hu68, r69⟩ := X0 r61
     refine .cS [_] Tryz.call195 (Xbt mcs s66 hu68) (fun v70 bo so h71 => ?_)
     obtain ⟨a72, k73, cs74, rfl, rfl, rfl, o75⟩ := h71
     refine .gn 3 ?_
     cases r69
     refine .drop 2 0 [] _ rfl rfl ?_
     refine .rS [.tmp 4, .tmp 5] [_, _] Tryz.func188 Tryz.results188 ⟨a72, k73, cs74, rfl, rfl, rfl, (OL.flat (Rep.flat_int _) o75)⟩
    ·intro hb76
     refine .block (.own_nil 3 1 (.pullS 1 rfl [_, _] rfl (.pullS 1 rfl [_, _] rfl ?_)))
     refine .lp (fun y m => ∃ (Z0 : Nat) (Z1 : List Int) (Z2 : _) (Z3 : List Int) (Z4 : _) (Z5 : Nat) (Z6 : _) (Z7 : List Int) (Z8 : _) (Z9 : Nat) (Z10 : _), y = ⟨[(15, .slice Z4 Z3.length Z5), (16, .slice Z8 Z7.length Z9), (65, .int .i64 (Z0 : Int))], [Z2], [], [.s (.slice Z4 Z3.length Z5) 3 1 Z3.length Z6, .s (.slice Z8 Z7.length Z9) 3 1 Z7.length Z10]⟩ ∧ Z1.length = m ∧ HpLe G34 Z2 ∧ Bd w0 S0 Fs Z2 ∧ OL ri Z2 Z6 Z3 ∧ OL ri Z2 Z10 Z7 ∧ List.drop Z0 v11 = Z1 ∧ X1u X1t v15 u38.1 v44 v46 Z1 Z0 Z3 Z7 = some r) [(7, _), (10, _), (63, _), (64, _)] [_, _] [] ⟨0, v11, G34, ([] : List Int), none, 0, [], ([1] : List Int), (some ⟨b48, 0, none⟩), 1, [.int .i64 1], rfl, rfl, (HpLe.refl _), B36, (OL.nil (Rp' := ri)), o49, rfl, r47⟩ (fun y m hI hb78 => ?_)
     obtain ⟨i80, w82, G83, v84, a85, k86, cs87, v88, a89, k90, cs91, rfl, rfl, e92, B93, o94, o95, g96, r97⟩ := hI
     refine .gn 0 ?_
     cases w82 with
     | nil =>
      rw [X1u] at r97; try dsimp only at r97
      refine .go 5 ?_
      refine .cond_dec rfl (fun c => absurd c (Xl g96)) (fun _ => ?_)
      refine .exit rfl (.pullS 1 rfl [_, _] rfl (.drop 0 1 _ [_] rfl rfl ?_))
      exact (hb76 _ ⟨G83, v84, a85, k86, cs87, v44, v46, rfl, e92, B93, o94, r97⟩).ar
     | cons x98 xs99 =>
      have r100 : X5j X1t v15 u38.1 v44 v46 (X1u X1t v15 u38.1 v44 v46 xs99 (i80 + 1)) x98 i80 v84 v88 = some r := r97; clear r97; unfold X5j at r100; try dsimp only at r100
      refine .go 5 ?_
      refine .cond_dec rfl (fun _ => ?_) (fun c => absurd (X15 g96) c)
      refine .go 2 ?_
      refine .block (.go 3 ?_)
      obtain ⟨c101, p102, h103⟩ := SlR.get (SlR.mono (HpLe.trans (HpLe.trans e29 e35) e92) s27) (X3 g96)
      obtain rfl := h103
      refine .q .ro (.idxR (SlR.mono (HpLe.trans (HpLe.trans e29 e35) e92) s27) rfl rfl (X3 g96) sl22 ty3.sz) rfl (.q .ro (.load_rp p102 mcs rfl ty3 rfl) rfl (.go 4 ?_))
      refine .freezeR 0 rfl rfl o94 [_] rfl B93 (fun G104 e105 B106 s107 => ?_)
      refine .freezeR 0 rfl rfl (OL.mono e105 o95) [] rfl B106 (fun G108 e109 B110 s111 => ?_)
      refine .drawL (.q 0 (.q 1 (.q 2 (.q 3 (.q 4 (.q 5 (.q 6 (.q 7 (.q 8 (.q 11 (.q 12 (.q 13 (.q 14 (.e 9 1 (.e 10 1 (.e 15 1 (.e 16 1 (.e 17 1 (.q 18 .nil))))))))))))))))))) [_, _] (by kernel_rfl) (by kernel_rfl) (X1 [0, 1] rfl) (.go 4 ?_)
      obtain ⟨u112, hu112, r113⟩ := X0 r100
      obtain ⟨c114, p115, h116⟩ := SlR.get (SlR.mono (HpLe.trans (HpLe.trans (HpLe.trans e35 e92) e105) e109) s31) hu112
      obtain rfl := h116
      refine .dq (.idxR (SlR.mono (HpLe.trans (HpLe.trans (HpLe.trans e35 e92) e105) e109) s31) rfl rfl hu112 sl22 ty3.sz) rfl (.dq (.load_rp p115 mcs rfl ty3 rfl) rfl (.go 7 ?_))
      obtain ⟨u117, hu117, r118⟩ := X0 r113
      refine .cVd [_, _, _] Tryz.call79 (X4w mcs (SlR.mono e109 s107) hu117) ?_
      refine .clsL (HpLe.refl _) (X1 [0, 1] rfl) ?_
      obtain ⟨u119, hu119, r120⟩ := X0 r118
      refine .cVd [_, _, _] Tryz.call190 (X32 mcs  hu119) ?_
      refine .clsL (HpLe.refl _) (X1 [0, 1] rfl) ?_
      obtain ⟨u121, hu121, r122⟩ := X0 r120
      refine .cVd [_, _, _] Tryz.call79 (X4w mcs s111 hu121) ?_
      refine .clsL (HpLe.refl _) (X1 [0, 1] rfl) ?_
      obtain ⟨u123, hu123, r124⟩ := X0 r122
      refine .cVd [_, _] Tryz.call197 (X5s mcs  hu123) ?_
      refine .clsL (HpLe.refl _) (X1 [0, 1] rfl) ?_
      obtain ⟨u125, hu125, r126⟩ := X0 r124
      refine .cVd [_, _, _] Tryz.call77 (X13 mcs  hu125) ?_
      refine .clsL (HpLe.refl _) (X1 [0, 1] rfl) (.go 6 ?_)
      obtain ⟨u127, hu127, r128⟩ := X0 r126
      refine .makeR (G := G108) (Q := ri) .ro sl22 ty3 rfl rfl rfl ((Rep.intI .i64 0) :) rfl rfl hu127 rfl rfl (fun b129 cs130 hb129 o131 => ?_)
      refine .go 6 ?_
      refine .owncap 0 rfl (fun h132 => ?_)
      obtain ⟨u133, hu133, r134⟩ := X0 r128
      refine .copyG 0 (Q := ri) .ro sl22 ty3.sz rfl o131 hu133 rfl (PartV.all h132) rfl (SrcV.rd (SlR.mono e109 s107) mcs) rfl (fun cs135 hlcs135 o136 => ?_)
      refine .reval 90 hlcs135 rfl (.reval 20 hlcs135 rfl (.reval 91 hlcs135 rfl (.go 7 ?_)))
      refine .toV 0 rfl (fun vb137 po138 va139 vb140 => ?_)
      obtain ⟨u141, hu141, r142⟩ := X0 r134
      refine .callS (b1 := []) (b2 := [_, _]) (s1 := [_]) [_, _, _, _] [] .ro rfl rfl Tryz.call67 rfl rfl (X1p mcs va139 o136 s111 hu141) rfl (fun v143 bo so h144 => ?_)
      obtain ⟨cs145, rfl, rfl, rfl, o146, hl147⟩ := h144
      refine .gn 0 ?_
      refine .ofV 0 rfl vb140 hl147 o146 rfl (.reval 90 hl147 rfl (.reval 20 hl147 rfl (.reval 91 hl147 rfl (.reval 95 hl147 rfl (.go 11 ?_)))))
      obtain ⟨u148, hu148, r149⟩ := X0 r142
      refine .cV [_, _, _] Tryz.call190 (X32 mcs  hu148) ?_
      refine .lit [_, _] [(0, _), (1, _)] .ro sl22 ty3 rfl rfl rfl rfl rfl rfl (fun b150 hb150 => ?_)
      have o151 : OL ri G108 [.int .i64 u148, .int .i64 1] ([u148, 1] : List Int) := ((OL.cons rfl (Rep.intI .i64 u148) (OL.cons rfl (Rep.intI .i64 1) (OL.nil (Rp' := ri)))) :)
      refine .reval 105 (n' := ([u148, 1] : List Int).length) rfl rfl ?_
      refine .freezeR 0 rfl rfl o151 [_] rfl B110 (fun G152 e153 B154 s155 => ?_)
      obtain ⟨u156, hu156, r157⟩ := X0 r149
      refine .cS [_, _, _] Tryz.call200 (Xgr mcs (SlR.mono e153 s111) s155 hu156) (fun v158 bo so h159 => ?_)
      obtain ⟨a160, k161, cs162, rfl, rfl, rfl, o163⟩ := h159
      refine .gn 7 ?_
      refine .pullS 1 rfl [_, _] rfl ?_
      exact (hb78 _ _ ⟨(i80 + 1), xs99, G152, u141, (some ⟨b129, 0, none⟩), u127.length, cs145, u156, a160, k161, cs162, rfl, rfl, (HpLe.trans (HpLe.trans (HpLe.trans e92 e105) e109) e153), B154, (OL.mono e153 o146), o163, (X4 g96), r157⟩ (Nat.lt_succ_self _)).ax ⟨rfl, rfl, (congrArg (fun z => some (Value.int .i64 z)) (X5 (SlR.len (SlR.mono (HpLe.trans e29 e35) s27)) g96)), rfl, rfl, rfl, rfl, trivial⟩
   ·intro hb164
    refine .block ?_
    refine .lp (fun y m => ∃ (Z0 : Nat) (Z1 : List Int) (Z2 : List (Int × Bool)), y = ⟨[(52, .int .i64 (Z0 : Int))], [], [(b43, mObj (Value.int .i64) (Value.bool) Z2)], []⟩ ∧ Z1.length = m ∧ List.drop Z0 v11 = Z1 ∧ X28 (X1v v11 v15 u38.1) v19 Z1 Z2 = some r) [(6, _), (7, _), (10, _), (12, _), (50, _), (51, _)] [_] [] ⟨0, v11, ([] : List (Int × Bool)), rfl, rfl, rfl, r42⟩ (fun y m hI hb165 => ?_)
    obtain ⟨i166, w167, v169, rfl, rfl, g170, r171⟩ := hI
    refine .gn 0 ?_
    cases w167 with
    | nil =>
     rw [X28] at r171; try dsimp only at r171
     refine .go 5 ?_
     refine .cond_dec rfl (fun c => absurd c (Xl g170)) (fun _ => ?_)
     refine .exit rfl ?_
     exact (hb164 _ ⟨v169, v19, rfl, r171⟩).ar
    | cons x172 xs173 =>
     have r174 : X5k (X1v v11 v15 u38.1) v19 (X28 (X1v v11 v15 u38.1) v19 xs173) x172 v169 = some r := r171; clear r171; unfold X5k at r174; try dsimp only at r174
     refine .go 5 ?_
     refine .cond_dec rfl (fun _ => ?_) (fun c => absurd (X15 g170) c)
     refine .go 2 ?_
     refine .block (.go 2 ?_)
     obtain ⟨c175, p176, h177⟩ := SlR.get (SlR.mono (HpLe.trans e29 e35) s27) (X3 g170)
     obtain rfl := h177
     refine .q .ro (.idxR (SlR.mono (HpLe.trans e29 e35) s27) rfl rfl (X3 g170) sl22 ty3.sz) rfl (.q .ro (.load_rp p176 mcs rfl ty3 rfl) rfl (.go 7 ?_))
     refine .q .ro (.mapGet 0 (f := Value.int .i64) (g := Value.bool) (l := v169) (x := x172) (z := false) rfl rfl rfl Tryz.underlying303 Tryz.underlying3 Xnl Xnm (by kernel_rfl)) rfl (.go 1 ?_)
     refine .cB r174 (fun c178 r179 => ?_) (fun c178 r180 => ?_)
     ·cases r179
     ·refine .go 4 ?_
      refine .mapPut 0 (f := Value.int .i64) (g := Value.bool) (l := v169) (x := x172) (y := true) (.inl rfl) .ro rfl rfl rfl rfl Tryz.underlying303 Tryz.underlying3 Xnl Xnm _ rfl (.go 6 ?_)
      exact (hb165 _ _ ⟨(i166 + 1), xs173, (mput v169 x172 true), rfl, rfl, (X4 g170), r180⟩ (Nat.lt_succ_self _)).ax ⟨(congrArg (fun z => some (Value.int .i64 z)) (X5 (SlR.len (SlR.mono (HpLe.trans e29 e35) s27)) g170)), rfl, rfl, rfl, rfl, rfl, rfl, trivial⟩
 ·intro hb181
  refine .block (.own_nil 3 1 (.own_nil 3 1 (.pullS 1 rfl [_, _] rfl ?_)))
  refine .lp (fun y m => ∃ (Z0 : Nat) (Z1 : List (Int × Int)) (Z2 : List Int) (Z3 : _) (Z4 : Nat) (Z5 : _) (Z6 : List Int) (Z7 : _) (Z8 : Nat) (Z9 : _), y = ⟨[(6, .slice Z3 Z2.length Z4), (7, .slice Z7 Z6.length Z8), (23, .int .i64 (Z0 : Int))], [], [], [.s (.slice Z3 Z2.length Z4) 3 1 Z2.length Z5, .s (.slice Z7 Z6.length Z8) 3 1 Z6.length Z9]⟩ ∧ Z1.length = m ∧ OL ri G Z5 Z2 ∧ OL ri G Z9 Z6 ∧ List.drop Z0 x1 = Z1 ∧ X1w X29 x0_0 Z1 Z2 Z6 = some r) [(2, _), (21, _), (22, _)] [_] [] ⟨0, x1, ([] : List Int), none, 0, [], ([] : List Int), none, 0, [], rfl, rfl, (OL.nil (Rp' := ri)), (OL.nil (Rp' := ri)), rfl, h⟩ (fun y m hI hb182 => ?_)
  obtain ⟨i183, w184, v185, a186, k187, cs189, v191, a192, k193, cs196, rfl, rfl, o198, o199, g201, r202⟩ := hI
  refine .gn 0 ?_
  cases w184 with
  | nil =>
   rw [X1w] at r202; try dsimp only at r202
   refine .go 5 ?_
   refine .cond_dec rfl (fun c => absurd c (Xl g201)) (fun _ => ?_)
   refine .exit rfl ?_
   exact (hb181 _ ⟨v185, a186, k187, cs189, v191, a192, k193, cs196, x0_0, rfl, o198, o199, r202⟩).ar
  | cons x203 xs204 =>
   have r205 : X5l X29 x0_0 (X1w X29 x0_0 xs204) x203 v185 v191 = some r := r202; clear r202; unfold X5l at r205; try dsimp only at r205
   refine .go 5 ?_
   refine .cond_dec rfl (fun _ => ?_) (fun c => absurd (X15 g201) c)
   refine .go 2 ?_
   refine .block (.go 2 ?_)
   obtain ⟨c206, p207, h208⟩ := SlR.get s1 (X3 g201)
   obtain ⟨_, _, rfl, rfl, rfl⟩ := h208
   refine .q .ro (.idxR s1 rfl rfl (X3 g201) sl81 ty168.sz) rfl (.q .ro (.load_rp_a [_, _] p207 mcs rfl ty168 rfl) rfl ?_)
   refine .alloc .ro ty168 rfl (fun b209 hb209 => ?_)
   refine .store 0 [_, _] [_, _] .ro rfl rfl rfl ty168 rfl rfl rfl rfl (.go 1 ?_)
   refine .drawL (.q 0 (.q 1 (.q 2 (.q 5 (.q 6 (.q 7 (.alt (.e 3 1 (.alt (.e 4 1 (.e 8 1 (.e 9 1 (.q 10 (.q 11 .nil))))) (.e 8 1 (.e 4 1 (.e 9 1 (.q 10 (.q 11 .nil))))))) (.e 8 1 (.e 3 1 (.e 4 1 (.e 9 1 (.q 10 (.q 11 .nil))))))))))))) [_, _] (by kernel_rfl) (by kernel_rfl) (X1 [0, 1] rfl) ?_
   obtain ⟨u210, hu210, r211⟩ := X0 r205
   obtain ⟨u212, hu212, r213⟩ := X0 r211
   refine .go 6 ?_
   refine .alt ?_ ?_
   ·refine .lit [_] [(0, _)] .d1 sl22 ty3 rfl rfl rfl rfl rfl rfl (fun b214 hb214 => ?_)
    have o215 : OL ri G [.int .i64 x203.1] ([x203.1] : List Int) := ((OL.cons rfl (Rep.intI .i64 x203.1) (OL.nil (Rp' := ri))) :)
    refine .reval 30 (n' := ([x203.1] : List Int).length) rfl rfl (.clsL (HpLe.refl _) (X1 [0, 1] rfl) ?_)
    refine .alt ?_ ?_
    ·refine .appO (Q := ri) 0 .d1 sl22 ty3 rfl rfl rfl rfl rfl rfl o198 o215 rfl rfl rfl B0 hu210 rfl (fun a216 k217 cs218 o219 => ?_)
     refine .clsL (HpLe.refl _) (X1 [0, 1] rfl) ?_
     refine .lit [_] [(0, _)] .d1 sl22 ty3 rfl rfl rfl rfl rfl rfl (fun b220 hb220 => ?_)
     have o221 : OL ri G [.int .i64 x203.2] ([x203.2] : List Int) := ((OL.cons rfl (Rep.intI .i64 x203.2) (OL.nil (Rp' := ri))) :)
     refine .reval 35 (n' := ([x203.2] : List Int).length) rfl rfl (.clsL (HpLe.refl _) (X1 [0, 1] rfl) ?_)
     refine .appO (Q := ri) 1 .d1 sl22 ty3 rfl rfl rfl rfl rfl rfl o199 o221 rfl rfl rfl B0 hu212 rfl (fun a222 k223 cs224 o225 => ?_)
     refine .clsL (HpLe.refl _) (X1 [0, 1] rfl) (.go 8 ?_)
     refine .drop 1 0 [_] _ rfl rfl ?_
     exact (hb182 _ _ ⟨(i183 + 1), xs204, u210, a216, k217, cs218, u212, a222, k223, cs224, rfl, rfl, o219, o225, (X4 g201), r213⟩ (Nat.lt_succ_self _)).ax ⟨rfl, rfl, (congrArg (fun z => some (Value.int .i64 z)) (X5 (SlR.len s1) g201)), rfl, rfl, rfl, trivial⟩
    ·refine .lit [_] [(0, _)] .d1 sl22 ty3 rfl rfl rfl rfl rfl rfl (fun b226 hb226 => ?_)
     have o227 : OL ri G [.int .i64 x203.2] ([x203.2] : List Int) := ((OL.cons rfl (Rep.intI .i64 x203.2) (OL.nil (Rp' := ri))) :)
     refine .reval 35 (n' := ([x203.2] : List Int).length) rfl rfl (.clsL (HpLe.refl _) (X1 [0, 1] rfl) (.pullS 1 rfl [_, _, _, _] rfl ?_))
     refine .appO (Q := ri) 1 .d1 sl22 ty3 rfl rfl rfl rfl rfl rfl o198 o215 rfl rfl rfl B0 hu210 rfl (fun a228 k229 cs230 o231 => ?_)
     refine .clsL (HpLe.refl _) (X1 [0, 1] rfl) ?_
     refine .appO (Q := ri) 1 .d1 sl22 ty3 rfl rfl rfl rfl rfl rfl o199 o227 rfl rfl rfl B0 hu212 rfl (fun a232 k233 cs234 o235 => ?_)
     refine .clsL (HpLe.refl _) (X1 [0, 1] rfl) (.go 8 ?_)
     refine .drop 1 0 [_] _ rfl rfl ?_
     exact (hb182 _ _ ⟨(i183 + 1), xs204, u210, a228, k229, cs230, u212, a232, k233, cs234, rfl, rfl, o231, o235, (X4 g201), r213⟩ (Nat.lt_succ_self _)).ax ⟨rfl, rfl, (congrArg (fun z => some (Value.int .i64 z)) (X5 (SlR.len s1) g201)), rfl, rfl, rfl, trivial⟩
   ·refine .lit [_] [(0, _)] .d1 sl22 ty3 rfl rfl rfl rfl rfl rfl (fun b236 hb236 => ?_)
    have o237 : OL ri G [.int .i64 x203.2] ([x203.2] : List Int) := ((OL.cons rfl (Rep.intI .i64 x203.2) (OL.nil (Rp' := ri))) :)
    refine .reval 35 (n' := ([x203.2] : List Int).length) rfl rfl (.clsL (HpLe.refl _) (X1 [0, 1] rfl) ?_)
    refine .lit [_] [(0, _)] .d1 sl22 ty3 rfl rfl rfl rfl rfl rfl (fun b238 hb238 => ?_)
    have o239 : OL ri G [.int .i64 x203.1] ([x203.1] : List Int) := ((OL.cons rfl (Rep.intI .i64 x203.1) (OL.nil (Rp' := ri))) :)
    refine .reval 30 (n' := ([x203.1] : List Int).length) rfl rfl (.clsL (HpLe.refl _) (X1 [0, 1] rfl) ?_)
    refine .appO (Q := ri) 1 .d1 sl22 ty3 rfl rfl rfl rfl rfl rfl o198 o239 rfl rfl rfl B0 hu210 rfl (fun a240 k241 cs242 o243 => ?_)
    refine .clsL (HpLe.refl _) (X1 [0, 1] rfl) ?_
    refine .appO (Q := ri) 1 .d1 sl22 ty3 rfl rfl rfl rfl rfl rfl o199 o237 rfl rfl rfl B0 hu212 rfl (fun a244 k245 cs246 o247 => ?_)
    refine .clsL (HpLe.refl _) (X1 [0, 1] rfl) (.go 8 ?_)
    refine .drop 1 0 [_] _ rfl rfl ?_
    exact (hb182 _ _ ⟨(i183 + 1), xs204, u210, a240, k241, cs242, u212, a244, k245, cs246, rfl, rfl, o243, o247, (X4 g201), r213⟩ (Nat.lt_succ_self _)).ax ⟨rfl, rfl, (congrArg (fun z => some (Value.int .i64 z)) (X5 (SlR.len s1) g201)), rfl, rfl, rfl, trivial⟩
theorem Xgs {x0 : List (Int × Bool)} {x1 : Int} {r : (List (Int × Int))} (hG : G ∈ Fs) (s0 : SlR (Rep.pair ri Rep.bool) G a0 k0 x0) (h : Xbs x0 x1 = some r) : RetS Tryz.prog 189 #[.slice a0 x0.length k0, .int .i64 x1] Fs [] [] (fun v bo so => ∃ (oa0 : Option Addr) (ok0 : Nat) (oc0 : List Value), v = .slice oa0 r.length ok0 ∧ bo = [] ∧ so = [.s (.slice oa0 r.length ok0) 168 2 r.length oc0] ∧ OL (Rep.pair ri ri) G oc0 r) := by
 unfold Xbs at h
 try dsimp only at h
 refine RetS.st [(0, _), (1, _)] Tryz.func189 Tryz.ntmps189 hG fun w0 S0 hS0 B0 => ?_
 refine .marks0 (.go 2 ?_)
 refine .box [_] .ro rfl rfl rfl (fun b1 hb1 => ?_)
 refine .go 4 ?_
 refine .alloc .ro ty81 rfl (fun b2 hb2 => ?_)
 refine .go 5 ?_
 obtain ⟨u3, hu3, r4⟩ := X0 h
 refine .cW [_] Tryz.call199 (Xd5 mcs s0 hu3) B0 (fun v6 bo so G7 e8 B9 h5 => ?_)
 obtain ⟨F11, c12, rfl, rfl, rfl, hc13, hi14⟩ := h5
 refine .gn 1 ?_
 refine .cutBD (β := MK × (List (Int × Int)) × Option Addr × Nat × List Value) (fun y => mks y.1.1) (fun y => []) [(5, _)] (fun y => G7 :: Fs) (fun y => [(b2, .cells #[.slice y.2.2.1 y.2.1.length y.2.2.2.1] 81 (0, 0))]) [_] (fun y => [.g (marksG y.1), .s (.slice y.2.2.1 y.2.1.length y.2.2.2.1) 168 2 y.2.1.length y.2.2.2.2]) [] (fun y => OL (Rep.pair ri ri) G7 y.2.2.2.2 y.2.1 ∧ X33 y.2.1 = some r) ⟨rfl, trivial⟩ [1] rfl [] rfl ?_ ?_
 ·intro y hI
  obtain ⟨mk10, v15, a16, k17, cs18⟩ := y
  obtain ⟨o19, r20⟩ := hI
  try dsimp only at o19 r20
  refine .gn 0 ?_
  unfold X33 at r20
  try dsimp only at r20
  refine .go 5 ?_
  cases r20
  refine .drop 2 0 [] _ rfl rfl ?_
  refine .out (.inr ⟨_, rfl⟩) rfl (Cov.unmarkAll _ _ ?_)
  refine .outS [.tmp 4] [_] Tryz.func189 Tryz.results189 ⟨RV.tmp rfl, trivial⟩ mcm ⟨a16, k17, cs18, rfl, rfl, rfl, (OL.flat (Rep.flat_pair (Rep.flat_int _) (Rep.flat_int _)) o19)⟩
 ·intro hb21
  refine .block (.own_nil 168 2 (.pull 1 rfl [_, _] rfl (.pull 1 rfl [_, _] rfl ?_)))
  refine .rangeX (α := (List (Int × Int)) × Option Addr × Nat × List Value) (β := (List (Int × Int)) × Option Addr × Nat × List Value) (fun y => []) (fun y => [(b2, .cells #[.slice y.2.1 y.1.length y.2.2.1] 81 (0, 0)), (b1, .cells #[.int .i64 x1] 3 (0, 0))]) (fun y => [.s (.slice y.2.1 y.1.length y.2.2.1) 168 2 y.1.length y.2.2.2]) (fun y => []) (fun y => [(b2, .cells #[.slice y.2.1 y.1.length y.2.2.1] 81 (0, 0)), (b1, .cells #[.int .i64 x1] 3 (0, 0))]) (fun y => [.s (.slice y.2.1 y.1.length y.2.2.1) 168 2 y.1.length y.2.2.2]) (fun _ => (.exit 0)) (fun i y => OL (Rep.pair ri ri) G7 y.2.2.2 y.1 ∧ X4l X33 x1 (List.drop i u3) y.1 = some r) (fun y => OL (Rep.pair ri ri) G7 y.2.2.2 y.1 ∧ X33 y.1 = some r) (([] : List (Int × Int)), none, 0, [])  c12 rfl rfl hc13 rfl (by simp) rfl rfl (hi14 _ G7 (HpLe.refl _) mcs) (fun _ _ hv => by obtain ⟨_, _, hv⟩ := hv; exact (Yr.len _ hv).trans rfl) (by kernel_rfl) ⟨(OL.nil (Rp' := (Rep.pair ri ri))), r4⟩ ?_ ?_ ?_
  ·intro l22 tm23 D24 i25 y v26 hV27 hI w28 S29 hw30
   obtain ⟨v31, a32, k33, cs34⟩ := y
   obtain ⟨o35, r36⟩ := hI
   try dsimp only at o35 r36
   obtain ⟨x37, h38, h39⟩ := hV27
   refine .dup (G := G7) mcs ?_
   obtain ⟨_, _, rfl, h40, h41⟩ := h39
   obtain ⟨v42, rfl, h43⟩ := h40
   obtain ⟨rfl, _⟩ := List.cons.inj h43
   obtain ⟨v44, rfl, h45⟩ := h41
   obtain ⟨rfl, _⟩ := List.cons.inj h45
   rw [Xad h38] at r36
   have r46 : X99 X33 x1 (X4l X33 x1 (List.drop (i25 + 1) u3)) x37 v31 = some r := r36; clear r36; unfold X99 at r46; try dsimp only at r46
   refine .gn 7 ?_
   refine .beginRound 2 rfl rfl [_, _, _] rfl (.block (.go 8 ?_))
   refine .cH r46 (fun c47 r48 => ?_) (fun c47 r49 => ?_)
   ·refine .round_exit (v31, a32, k33, cs34) 2 rfl rfl ⟨o35, r48⟩ rfl rfl rfl (fun F hF => List.mem_cons_of_mem _ hF) (by simp) rfl
   ·refine .go 5 ?_
    refine .q .ro (.build [_, _] [(0, _), (1, _)] ty168 pl168 rfl rfl) rfl ?_
    refine .lit [_, _] [(0, _)] .ro sl81 ty168 rfl rfl rfl rfl rfl rfl (fun b50 hb50 => ?_)
    have o51 : OL (Rep.pair ri ri) G7 [.int .i64 x37.1, .int .i64 x37.2] ([x37] : List (Int × Int)) := ((OL.cons rfl (Rep.pairI (Rep.intI .i64 x37.1) (Rep.intI .i64 x37.2)) (OL.nil (Rp' := (Rep.pair ri ri)))) :)
    refine .reval 20 (n' := ([x37] : List (Int × Int)).length) rfl rfl ?_
    obtain ⟨u52, hu52, r53⟩ := X0 r49
    refine .appO (Q := (Rep.pair ri ri)) 0 .ro sl81 ty168 rfl rfl rfl rfl rfl rfl o35 o51 rfl rfl rfl (Bd.fin mcs) hu52 rfl (fun a54 k55 cs56 o57 => ?_)
    refine .store 0 [_] [_, _, _] .ro rfl rfl rfl ty81 rfl rfl rfl rfl (.go 1 ?_)
    refine .prune [] trivial (.go 1 ?_)
    refine .round_endX (u52, a54, k55, cs56) 2 rfl rfl ⟨o57, r53⟩ rfl rfl (fun F hF => List.mem_cons_of_mem _ hF) (by simp)
  ·intro q58 y hI hb59
   obtain ⟨v31, a32, k33, cs34⟩ := y
   obtain ⟨o35, r36⟩ := hI
   try dsimp only at o35 r36
   refine .gn 0 ?_
   refine .pullS 1 rfl [_, _] rfl ?_
   refine .mkmerge 2 rfl [_, _] rfl (fun mk60 => ?_)
   rw [List.drop_length] at r36; rw [X4l] at r36; try dsimp only at r36
   refine .go 1 ?_
   exact .arr (hb21 (mk60, v31, a32, k33, cs34) ⟨o35, r36⟩) ⟨rfl, trivial⟩
  ·intro q58 y hI hb59
   obtain ⟨x61, a62, k63, cs65⟩ := y
   obtain ⟨o66, r36⟩ := hI
   try dsimp only at o66 r36
   refine .gn 0 ?_
   refine .pullS 1 rfl [_, _] rfl ?_
   refine .mkmerge 2 rfl [_, _] rfl (fun mk67 => ?_)
   refine .exit rfl ?_
   exact .arr (hb21 (mk67, x61, a62, k63, cs65) ⟨o66, r36⟩) ⟨rfl, trivial⟩
theorem Xe2 {x0_0 : Int} {x1 : List (Int × Bool)} {x2 : Int} {r : ((List Int) × Int)} (hG : G ∈ Fs) (s1 : SlR (Rep.pair ri Rep.bool) G a1 k1 x1) (h : Xah x0_0 x1 x2 = some r) : RetS Tryz.prog 170 #[.agg #[.int .i64 x0_0], .slice a1 x1.length k1, .int .i64 x2] Fs [] [] (fun v bo so => ∃ (oa0 : Option Addr) (ok0 : Nat) (oc0 : List Value), v = .tuple #[.slice oa0 r.1.length ok0, .int .i64 r.2] ∧ bo = [] ∧ so = [.s (.slice oa0 r.1.length ok0) 3 1 r.1.length oc0] ∧ OL ri G oc0 r.1) := by
 unfold Xah at h
 try dsimp only at h
 refine RetS.st [(0, _), (1, _), (2, _)] Tryz.func170 Tryz.ntmps170 hG fun w0 S0 hS0 B0 => ?_
 refine .go 2 ?_
 refine .box [_] .ro rfl rfl rfl (fun b1 hb1 => ?_)
 refine .go 5 ?_
 refine .q .ro (.load_own_a 0 [_] rfl rfl ty45 rfl) rfl (.go 1 ?_)
 obtain ⟨u2, hu2, r3⟩ := X0 h
 refine .cV [_, _] Tryz.call187 (Xgq mcs s1 hu2) ?_
 refine .go 9 ?_
 refine .block (.go 6 ?_)
 refine .cH r3 (fun c6 r7 => ?_) (fun c6 r8 => ?_)
 ·cases r7
 ·refine .go 5 ?_
  refine .kR (fun y => y = ⟨[(30, .bool (decide ((x2 < 1) ∨ ((x1.length : Int) < x2))))], G :: Fs, [], []⟩) [(1, _), (2, _), (3, _), (9, _)] [_] [0] [] [] 5 ?_ ?_
  ·rintro _ rfl
   refine .gn 2 ?_
   refine .cH r8 (fun c13 r14 => ?_) (fun c13 r15 => ?_)
   ·cases r14
   ·refine .go 7 ?_
    refine .cH r15 (fun c16 r17 => ?_) (fun c16 r18 => ?_)
    ·cases r17
    ·refine .go 3 ?_
     refine .drawL (.q 0 (.q 1 (.q 2 (.e 3 1 (.e 4 1 (.q 5 (.q 6 (.q 7 (.q 8 .nil))))))))) [_] (by kernel_rfl) (by kernel_rfl) (X1 [0] rfl) (.dq (.load_own_a 0 [_] rfl rfl ty45 rfl) rfl (.go 2 ?_))
     obtain ⟨u19, hu19, r20⟩ := X0 r18
     refine .cSd [_, _] Tryz.call189 (Xgs mcs s1 hu19) (fun v22 bo so h21 => ?_)
     obtain ⟨a24, k25, cs26, rfl, rfl, rfl, o27⟩ := h21
     refine .gn 0 ?_
     refine .clsL (HpLe.refl _) (X1 [0] rfl) ?_
     refine .freezeR 0 rfl rfl o27 [] rfl B0 (fun G28 e29 B30 s31 => ?_)
     obtain ⟨u33, hu33, r34⟩ := X0 r20
     refine .cSd [_, _] Tryz.call188 (Xcg mcs s31 hu33) (fun v36 bo so h35 => ?_)
     obtain ⟨a38, k39, cs40, rfl, rfl, rfl, o41⟩ := h35
     refine .gn 0 ?_
     refine .clsL e29 (X1 [0] rfl) (.go 5 ?_)
     cases r34
     refine .drop 1 0 [] _ rfl rfl ?_
     refine .rS [.tmp 6, .tmp 7] [_, _] Tryz.func170 Tryz.results170 ⟨a38, k39, cs40, rfl, rfl, rfl, (OL.flat (Rep.flat_int _) o41)⟩
  ·intro hb10
   refine .split 25 rfl (fun c9 => ?_) (fun c9 => ?_)
   ·refine .go 5 ?_
    exact (hb10 _ rfl).ax ⟨X4y c9, rfl, rfl, rfl, rfl, trivial⟩
   ·refine .go 9 ?_
    exact (hb10 _ rfl).ax ⟨X4z c9, rfl, rfl, rfl, rfl, trivial⟩
theorem Xe3 {x0 : Int} {x1 : Int} {r : (Int × Int)} (hG : G ∈ Fs)  (h : X9a x0 x1 = some r) : RetS Tryz.prog 172 #[.int .i64 x0, .int .i64 x1] Fs [] [] (rv (.tuple #[.int .i64 r.1, .int .i64 r.2])) := by
 unfold X9a at h
 try dsimp only at h
 refine RetS.st [(0, _), (1, _)] Tryz.func172 Tryz.ntmps172 hG fun w0 S0 hS0 B0 => ?_
 refine .go 11 ?_
 refine .kR (fun y => y = ⟨[(11, .bool (decide ((x1 < 1) ∨ (x0 < 0))))], G :: Fs, [], []⟩) [(0, _), (1, _)] [] [] [] [] 3 ?_ ?_
 ·rintro _ rfl
  refine .gn 1 ?_
  refine .kR (fun y => y = ⟨[(15, .bool (decide (((x1 < 1) ∨ (x0 < 0)) ∨ (32 < x0))))], G :: Fs, [], []⟩) [(0, _), (1, _)] [] [] [] [] 3 ?_ ?_
  ·rintro _ rfl
   refine .gn 1 ?_
   refine .cH h (fun c9 r10 => ?_) (fun c9 r11 => ?_)
   ·cases r10
   ·refine .go 8 ?_
    refine .cH r11 (fun c12 r13 => ?_) (fun c12 r14 => ?_)
    ·cases r13
    ·refine .go 6 ?_
     refine .q .ro (.quow rfl rfl (by decide)) rfl (.go 3 ?_)
     cases r14
     refine .rS [.tmp 4, .tmp 5] [_, _] Tryz.func172 Tryz.results172 ⟨rfl, rfl, rfl⟩
  ·intro hb6
   refine .split 12 rfl (fun c5 => ?_) (fun c5 => ?_)
   ·refine .go 3 ?_
    exact (hb6 _ rfl).ax ⟨X4y c5, rfl, rfl, trivial⟩
   ·refine .go 5 ?_
    exact (hb6 _ rfl).ax ⟨X4z c5, rfl, rfl, trivial⟩
 ·intro hb2
  refine .split 8 rfl (fun c1 => ?_) (fun c1 => ?_)
  ·refine .go 3 ?_
   exact (hb2 _ rfl).ax ⟨X4y c1, rfl, rfl, trivial⟩
  ·refine .go 5 ?_
   exact (hb2 _ rfl).ax ⟨X4z c1, rfl, rfl, trivial⟩
theorem Xes {x0 : List (Int × Bool)} {r : Int} (hG : G ∈ Fs) (s0 : SlR (Rep.pair ri Rep.bool) G a0 k0 x0) (h : X8s x0 = some r) : RetS Tryz.prog 173 #[.slice a0 x0.length k0] Fs [] [] (rv (.int .i64 r)) := by
 unfold X8s at h
 try dsimp only at h
 refine RetS.st [(0, _)] Tryz.func173 Tryz.ntmps173 hG fun w0 S0 hS0 B0 => ?_
 refine .go 15 ?_
 refine .block ?_
 refine .lp (fun y m => ∃ (Z0 : Nat) (Z1 : List (Int × Bool)) (Z2 : _), y = ⟨[(3, .int .i64 Z2), (8, .int .i64 (Z0 : Int))], [], [], []⟩ ∧ Z1.length = m ∧ List.drop Z0 x0 = Z1 ∧ X3a Z1 Z2 = some r) [(6, _), (7, _)] [] [] ⟨0, x0, 0, rfl, rfl, rfl, h⟩ (fun y m hI hb22 => ?_)
 obtain ⟨i17, w18, v20, rfl, rfl, g19, r21⟩ := hI
 refine .gn 0 ?_
 cases w18 with
 | nil =>
  rw [X3a] at r21; try dsimp only at r21
  refine .go 5 ?_
  refine .cond_dec rfl (fun c => absurd c (Xl g19)) (fun _ => ?_)
  refine .exit rfl (.go 5 ?_)
  cases r21
  refine .rS [.tmp 2] [_] Tryz.func173 Tryz.results173 ⟨rfl, rfl, rfl⟩
 | cons x26 xs27 =>
  have r25 : X7k (X3a xs27) x26 v20 = some r := r21; clear r21; unfold X7k at r25; try dsimp only at r25
  refine .go 5 ?_
  refine .cond_dec rfl (fun _ => ?_) (fun c => absurd (X15 g19) c)
  refine .go 2 ?_
  refine .block (.go 2 ?_)
  obtain ⟨c28, p29, h30⟩ := SlR.get s0 (X3 g19)
  obtain ⟨_, _, rfl, rfl, rfl⟩ := h30
  refine .q .ro (.idxR s0 rfl rfl (X3 g19) sl218 ty220.sz) rfl (.q .ro (.load_rp_a [_, _] p29 mcs rfl ty220 rfl) rfl ?_)
  refine .alloc .ro ty220 rfl (fun b31 hb31 => ?_)
  refine .store 0 [_, _] [_] .ro rfl rfl rfl ty220 rfl rfl rfl rfl (.go 6 ?_)
  refine .cB r25 (fun c32 r33 => ?_) (fun c32 r34 => ?_)
  ·refine .go 10 ?_
   refine .drop 1 0 [] _ rfl rfl ?_
   exact (hb22 _ _ ⟨(i17 + 1), xs27, (w64 (v20 + 1)), rfl, rfl, (X4 g19), r33⟩ (Nat.lt_succ_self _)).ax ⟨rfl, (congrArg (fun z => some (Value.int .i64 z)) (X5 (SlR.len s0) g19)), rfl, rfl, trivial⟩
  ·refine .go 6 ?_
   refine .drop 1 0 [] _ rfl rfl ?_
   exact (hb22 _ _ ⟨(i17 + 1), xs27, v20, rfl, rfl, (X4 g19), r34⟩ (Nat.lt_succ_self _)).ax ⟨rfl, (congrArg (fun z => some (Value.int .i64 z)) (X5 (SlR.len s0) g19)), rfl, rfl, trivial⟩
theorem Xgt {x0_0 : Int} {x1 : List (Int × Bool)} {x2 : Int} {x3 : Int} {r : ((Int × Int × Int × (List Int) × (List Int)) × Int)} (hG : G ∈ Fs) (s1 : SlR (Rep.pair ri Rep.bool) G a1 k1 x1) (h : Xai x0_0 x1 x2 x3 = some r) : RetW Tryz.prog 174 #[.agg #[.int .i64 x0_0], .slice a1 x1.length k1, .int .i64 x2, .int .i64 x3] Fs [] [] (fun v bo so G => ∃ a0 : Option Addr, ∃ k0 : Nat, ∃ a1 : Option Addr, ∃ k1 : Nat, v = .tuple #[.agg #[.int .i64 r.1.1, .int .i64 r.1.2.1, .int .i64 r.1.2.2.1, .slice a0 r.1.2.2.2.1.length k0, .slice a1 r.1.2.2.2.2.length k1], .int .i64 r.2] ∧ bo = [] ∧ so = [] ∧ SlR ri G a0 k0 r.1.2.2.2.1 ∧ SlR ri G a1 k1 r.1.2.2.2.2) := by
 unfold Xai at h
 try dsimp only at h
 refine RetW.st [(0, _), (1, _), (2, _), (3, _)] Tryz.func174 Tryz.ntmps174 hG fun w0 S0 hS0 B0 => ?_
 refine .go 2 ?_
 refine .box [_] .ro rfl rfl rfl (fun b1 hb1 => ?_)
 refine .alloc .ro ty256 rfl (fun b2 hb2 => ?_)
 refine .go 5 ?_
 refine .q .ro (.load_own_a 1 [_] rfl rfl ty45 rfl) rfl (.go 2 ?_)
 obtain ⟨u3, hu3, r4⟩ := X0 h
 refine .cS [_, _, _] Tryz.call170 (Xe2 mcs s1 hu3) (fun v6 bo so h5 => ?_)
 obtain ⟨a8, k9, cs10, rfl, rfl, rfl, o11⟩ := h5
 refine .gn 11 ?_
 refine .kR (fun y => y = ⟨[(32, .bool (decide ((u3.2 ≠ 0) ∧ (u3.2 ≠ 11))))], G :: Fs, [], []⟩) [(1, _), (2, _), (3, _), (4, _), (8, _), (11, _)] [_, _] [0, 1] [_] [0] 3 ?_ ?_
 ·rintro _ rfl
  refine .gn 1 ?_
  refine .cH r4 (fun c16 r17 => ?_) (fun c16 r18 => ?_)
  ·cases r17
  ·refine .go 7 ?_
   refine .kR (fun y => y = ⟨[(40, .bool (decide ((x3 < 0) ∨ (32 < x3))))], G :: Fs, [], []⟩) [(1, _), (2, _), (3, _), (4, _), (8, _)] [_, _] [0, 1] [_] [0] 3 ?_ ?_
   ·rintro _ rfl
    refine .gn 1 ?_
    refine .kR (fun y => y = ⟨[(47, .bool (decide (((x3 < 0) ∨ (32 < x3)) ∨ (32 < (w64 (x2 + (w64 (2 * x3))))))))], G :: Fs, [], []⟩) [(1, _), (2, _), (3, _), (4, _), (8, _)] [_, _] [0, 1] [_] [0] 6 ?_ ?_
    ·rintro _ rfl
     refine .gn 1 ?_
     refine .cH r18 (fun c27 r28 => ?_) (fun c27 r29 => ?_)
     ·cases r28
     ·refine .go 9 ?_
      refine .q .ro (.load_own_a 1 [_] rfl rfl ty45 rfl) rfl (.go 4 ?_)
      refine .q .ro (.build [_, _, _, _, _] [(0, _), (2, _)] ty256 pl256 rfl rfl) rfl ?_
      refine .alloc .ro ty256 rfl (fun b30 hb30 => ?_)
      refine .store 0 [_, _, _, _, _] [_, _, _] .ro rfl rfl rfl ty256 rfl rfl rfl rfl (.go 8 ?_)
      refine .kB (fun y => ∃ (Z0 Z1 Z2 Z3 : _) (Z4 : List Int) (Z5 : _) (Z6 : Nat) (Z7 : _) (Z8 : List Int) (Z9 : _) (Z10 : Nat) (Z11 Z12 Z13 Z14 Z15 : _), y = ⟨[], Z0 :: Fs, [(b30, .cells #[.int .i64 Z1, .int .i64 Z2, .int .i64 Z3, .slice Z5 Z4.length Z6, .slice Z9 Z8.length Z10] 256 (0, 0)), (b2, .cells #[.int .i64 Z12, .int .i64 Z13, .int .i64 Z14, .slice none 0 0, .slice none 0 0] 256 (0, 0)), (b1, .cells #[.int .i64 Z15] 45 (0, 0))], [.s (.slice Z5 Z4.length Z6) 3 1 Z4.length Z7, .s (.slice Z9 Z8.length Z10) 3 1 Z8.length Z11]⟩ ∧ HpLe G Z0 ∧ Bd w0 S0 Fs Z0 ∧ OL ri Z0 Z7 Z4 ∧ OL ri Z0 Z11 Z8 ∧ X14 Z1 Z2 Z3 Z4 Z8 Z12 Z13 Z14 Z15 = some r) [(8, _), (13, _)] [] [] [_] [0] ?_ ?_
      ·rintro _ ⟨G21, v25, v26, v31, v32, a33, k34, cs35, v36, a37, k38, cs39, v40, v41, v42, v43, rfl, e44, B46, o47, o48, r49⟩
       refine .gn 0 ?_
       unfold X14 at r49
       try dsimp only at r49
       refine .go 2 ?_
       refine .q .ro (.load_own_a 0 [_, _, _, _, _] rfl rfl ty256 rfl) rfl (.store 1 [_, _, _, _, _] [_, _, _] .ro rfl rfl rfl ty256 rfl rfl rfl rfl (.go 2 ?_))
       refine .freezeR 0 rfl rfl o47 [_, _] rfl B46 (fun G50 e51 B52 s53 => ?_)
       refine .freezeR 0 rfl rfl (OL.mono e51 o48) [_] rfl B52 (fun G54 e55 B56 s57 => ?_)
       cases r49
       refine .drop 0 1 _ [] rfl rfl ?_
       refine .rW 3 [.cell 8 256, .tmp 9] [_, _] Tryz.func174 Tryz.results174 ⟨RV.cell_a 1 [_, _, _, _, _] rfl rfl ty256 rfl, RV.tmp rfl, trivial⟩ B56 hS0 (fun G' hg => ⟨a33, k34, a37, k38, rfl, rfl, rfl, (SlR.mono hg (SlR.mono e55 s53)), (SlR.mono hg s57)⟩)
      ·intro hb58
       refine .block (.own_nil 3 1 (.own_nil 3 1 (.pull 2 rfl [_, _, _] rfl (.pull 2 rfl [_, _, _] rfl (.pull 2 rfl [_, _, _] rfl (.pullS 1 rfl [_, _, _] rfl ?_))))))
       refine .lp (fun y m => ∃ (Z0 : Nat) (Z1 : List (Int × Bool)) (Z2 Z3 Z4 Z5 : _) (Z6 : List Int) (Z7 : _) (Z8 : Nat) (Z9 : _) (Z10 : List Int) (Z11 : _) (Z12 : Nat) (Z13 Z14 Z15 Z16 Z17 : _), y = ⟨[(59, .int .i64 (Z0 : Int))], [Z2], [(b30, .cells #[.int .i64 Z3, .int .i64 Z4, .int .i64 Z5, .slice Z7 Z6.length Z8, .slice Z11 Z10.length Z12] 256 (0, 0)), (b2, .cells #[.int .i64 Z14, .int .i64 Z15, .int .i64 Z16, .slice none 0 0, .slice none 0 0] 256 (0, 0)), (b1, .cells #[.int .i64 Z17] 45 (0, 0))], [.s (.slice Z7 Z6.length Z8) 3 1 Z6.length Z9, .s (.slice Z11 Z10.length Z12) 3 1 Z10.length Z13]⟩ ∧ Z1.length = m ∧ HpLe G Z2 ∧ Bd w0 S0 Fs Z2 ∧ OL ri Z2 Z9 Z6 ∧ OL ri Z2 Z13 Z10 ∧ List.drop Z0 x1 = Z1 ∧ Xs X14 x2 x3 x0_0 Z1 Z0 Z3 Z4 Z5 Z6 Z10 Z14 Z15 Z16 Z17 = some r) [(2, _), (3, _), (8, _), (12, _), (13, _), (57, _), (58, _)] [] [_] ⟨0, x1, G, x0_0, 0, (w64 (x2 + (w64 (2 * x3)))), ([] : List Int), none, 0, [], ([] : List Int), none, 0, [], 0, 0, 0, x0_0, rfl, rfl, (HpLe.refl _), B0, (OL.nil (Rp' := ri)), (OL.nil (Rp' := ri)), rfl, r29⟩ (fun y m hI hb59 => ?_)
       obtain ⟨i60, w61, G62, v63, v65, v66, v67, a68, k69, cs70, v71, a72, k73, cs74, v75, v76, v78, v79, rfl, rfl, e80, B81, o82, o83, g84, r85⟩ := hI
       refine .gn 0 ?_
       cases w61 with
       | nil =>
        rw [Xs] at r85; try dsimp only at r85
        refine .go 5 ?_
        refine .cond_dec rfl (fun c => absurd c (Xl g84)) (fun _ => ?_)
        refine .exit rfl ?_
        exact (hb58 _ ⟨G62, v63, v65, v66, v67, a68, k69, cs70, v71, a72, k73, cs74, v75, v76, v78, v79, rfl, e80, B81, o82, o83, r85⟩).ar
       | cons x86 xs87 =>
        have r88 : X9d X14 x2 x3 x0_0 (Xs X14 x2 x3 x0_0 xs87 (i60 + 1)) x86 i60 v63 v65 v66 v67 v71 v75 v76 v78 v79 = some r := r85; clear r85; unfold X9d at r88; try dsimp only at r88
        refine .go 5 ?_
        refine .cond_dec rfl (fun _ => ?_) (fun c => absurd (X15 g84) c)
        refine .go 2 ?_
        refine .block (.go 3 ?_)
        obtain ⟨c89, p90, h91⟩ := SlR.get (SlR.mono e80 s1) (X3 g84)
        obtain ⟨_, _, rfl, rfl, rfl⟩ := h91
        refine .q .ro (.idxR (SlR.mono e80 s1) rfl rfl (X3 g84) sl218 ty220.sz) rfl (.q .ro (.load_rp_a [_, _] p90 mcs rfl ty220 rfl) rfl ?_)
        refine .alloc .ro ty220 rfl (fun b92 hb92 => ?_)
        refine .go 1 ?_
        refine .store 0 [_, _] [_, _, _, _] .ro rfl rfl rfl ty220 rfl rfl rfl rfl (.go 8 ?_)
        refine .cB r88 (fun c93 r94 => ?_) (fun c93 r95 => ?_)
        ·refine .exit rfl ?_
         refine .go 4 ?_
         refine .drop 1 0 [_, _, _] _ rfl rfl ?_
         exact (hb59 _ _ ⟨(i60 + 1), xs87, G62, v63, v65, v66, v67, a68, k69, cs70, v71, a72, k73, cs74, v75, v76, v78, v79, rfl, rfl, e80, B81, o82, o83, (X4 g84), r94⟩ (Nat.lt_succ_self _)).ax ⟨(congrArg (fun z => some (Value.int .i64 z)) (X5 (SlR.len s1) g84)), rfl, rfl, rfl, rfl, rfl, rfl, rfl, trivial⟩
        ·refine .go 18 ?_
         refine .kB (fun y => ∃ (Z0 : List Int) (Z1 : _) (Z2 : Nat) (Z3 Z4 Z5 Z6 Z7 Z8 Z9 Z10 Z11 Z12 : _), y = ⟨[(17, .slice Z1 Z0.length Z2)], G62 :: Fs, [(b92, .cells #[.int .i64 Z4, .bool Z5] 220 (0, 0)), (b30, .cells #[.int .i64 Z6, .int .i64 Z7, .int .i64 Z8, .slice a68 v67.length k69, .slice a72 v71.length k73] 256 (0, 0)), (b2, .cells #[.int .i64 Z9, .int .i64 Z10, .int .i64 Z11, .slice none 0 0, .slice none 0 0] 256 (0, 0)), (b1, .cells #[.int .i64 Z12] 45 (0, 0))], [.s (.slice Z1 Z0.length Z2) 3 1 Z0.length Z3]⟩ ∧ OL ri G62 Z3 Z0 ∧ (X4o (Xs X14 x2 x3 x0_0 xs87 (i60 + 1)) x2 x3 x0_0 v67 v71) Z0 Z4 Z5 Z6 Z7 Z8 Z9 Z10 Z11 Z12 = some r) [(59, _), (2, _), (3, _), (8, _), (12, _), (13, _), (57, _), (58, _), (15, _)] [] [] [_, _, _] [0, 1, 2] ?_ ?_
         ·rintro _ ⟨v96, a97, k98, cs99, v100, v101, v102, v103, v104, v105, v106, v107, v108, rfl, o109, r110⟩
          refine .gn 0 ?_
          unfold X4o at r110
          try dsimp only at r110
          refine .go 1 ?_
          refine .freezeR 0 rfl rfl o109 [_, _, _] rfl B81 (fun G111 e112 B113 s114 => ?_)
          refine .drawL (.q 0 (.q 1 (.q 2 (.q 3 (.q 4 (.q 5 (.q 6 (.e 7 1 (.q 8 (.e 9 2 .nil)))))))))) [_, _, _, _] (by kernel_rfl) (by kernel_rfl) (X1 [0, 1, 2, 3] rfl) (.go 6 ?_)
          obtain ⟨u115, hu115, r116⟩ := X0 r110
          obtain ⟨a117, k118, h119, s120⟩ := SlR.sub s114 hu115
          refine .dq (.sliceR s114 rfl hu115 sl22 ty3.sz (fun _ => .no) (fun h => .yes' rfl h) h119) rfl ?_
          obtain ⟨u121, hu121, r122⟩ := X0 r116
          refine .appR (Q := ri) 0 .d1 sl22 ty3 rfl rfl rfl rfl rfl (OL.mono e112 o82) rfl rfl s120 rfl mcs hu121 rfl (fun a123 k124 cs125 o126 => ?_)
          refine .clsL (HpLe.refl _) (X1 [0, 1, 2, 3] rfl) (.go 1 ?_)
          refine .store 1 [_, _, _, _, _] [_, _, _, _] .d2 rfl rfl rfl ty22 rfl rfl rfl rfl (.go 6 ?_)
          obtain ⟨u127, hu127, r128⟩ := X0 r122
          obtain ⟨a129, k130, h131, s132⟩ := SlR.sub s114 hu127
          refine .q .ro (.sliceR s114 rfl hu127 sl22 ty3.sz (fun _ => .no) (fun h => .yes' rfl h) h131) rfl (.go 3 ?_)
          refine .kB (fun y => ∃ (Z0 Z1 Z2 Z3 Z4 : _) (Z5 : List Int) (Z6 : _) (Z7 : Nat) (Z8 Z9 Z10 Z11 Z12 : _), y = ⟨[], G111 :: Fs, [(b92, .cells #[.int .i64 Z0, .bool Z1] 220 (0, 0)), (b30, .cells #[.int .i64 Z2, .int .i64 Z3, .int .i64 Z4, .slice Z6 Z5.length Z7, .slice a72 v71.length k73] 256 (0, 0)), (b2, .cells #[.int .i64 Z9, .int .i64 Z10, .int .i64 Z11, .slice none 0 0, .slice none 0 0] 256 (0, 0)), (b1, .cells #[.int .i64 Z12] 45 (0, 0))], [.s (.slice Z6 Z5.length Z7) 3 1 Z5.length Z8]⟩ ∧ OL ri G111 Z8 Z5 ∧ (X4m (Xs X14 x2 x3 x0_0 xs87 (i60 + 1)) v96 x3 x0_0 v71) Z0 Z1 Z2 Z3 Z4 Z5 Z9 Z10 Z11 Z12 = some r) [(17, _), (59, _), (2, _), (3, _), (8, _), (12, _), (13, _), (57, _), (58, _), (15, _)] [] [] [_, _] [1, 2] ?_ ?_
          ·rintro _ ⟨v133, v134, v135, v136, v137, v138, a139, k140, cs141, v142, v143, v144, v145, rfl, o146, r147⟩
           refine .gn 0 ?_
           unfold X4m at r147
           try dsimp only at r147
           refine .go 1 ?_
           refine .drawL (.q 0 (.q 1 (.q 2 (.q 3 (.q 4 (.q 5 (.q 6 (.q 7 (.q 8 (.e 9 1 (.e 10 1 (.e 11 1 (.q 12 (.e 13 2 .nil)))))))))))))) [_, _, _, _] (by kernel_rfl) (by kernel_rfl) (X1 [0, 1, 2, 3] rfl) (.go 7 ?_)
           obtain ⟨u148, hu148, r149⟩ := X0 r147
           obtain ⟨c150, p151, h152⟩ := SlR.get s114 hu148
           obtain rfl := h152
           refine .dq (.idxR s114 rfl rfl hu148 sl22 ty3.sz) rfl (.dq (.load_rp p151 mcs rfl ty3 rfl) rfl ?_)
           obtain ⟨u153, hu153, r154⟩ := X0 r149
           refine .cVd [_, _, _] Tryz.call77 (X13 mcs  hu153) ?_
           refine .clsL (HpLe.refl _) (X1 [0, 1, 2, 3] rfl) ?_
           refine .lit [_] [(0, _)] .d1 sl22 ty3 rfl rfl rfl rfl rfl rfl (fun b155 hb155 => ?_)
           have o156 : OL ri G111 [.int .i64 u153] ([u153] : List Int) := ((OL.cons rfl (Rep.intI .i64 u153) (OL.nil (Rp' := ri))) :)
           refine .reval 123 (n' := ([u153] : List Int).length) rfl rfl (.clsL (HpLe.refl _) (X1 [0, 1, 2, 3] rfl) ?_)
           obtain ⟨u157, hu157, r158⟩ := X0 r154
           refine .appO (Q := ri) 1 .d1 sl22 ty3 rfl rfl rfl rfl rfl rfl (OL.mono e112 o83) o156 rfl rfl rfl B113 hu157 rfl (fun a159 k160 cs161 o162 => ?_)
           refine .clsL (HpLe.refl _) (X1 [0, 1, 2, 3] rfl) (.go 1 ?_)
           refine .store 1 [_, _, _, _, _] [_, _, _, _] .d2 rfl rfl rfl ty22 rfl rfl rfl rfl (.go 6 ?_)
           refine .store 1 [_, _, _, _, _] [_, _, _, _] .ro rfl rfl rfl ty3 rfl rfl rfl rfl (.go 6 ?_)
           refine .drop 1 0 [_, _, _] _ rfl rfl ?_
           exact (hb59 _ _ ⟨(i60 + 1), xs87, G111, v135, (w64 (v136 + 1)), v137, v138, a139, k140, cs141, u157, a159, k160, cs161, v142, v143, v144, v145, rfl, rfl, (HpLe.trans e80 e112), B113, o146, o162, (X4 g84), r158⟩ (Nat.lt_succ_self _)).ax ⟨(congrArg (fun z => some (Value.int .i64 z)) (X5 (SlR.len s1) g84)), rfl, rfl, rfl, rfl, rfl, rfl, rfl, trivial⟩
          ·intro hb163
           refine .block (.pull 1 rfl [_, _, _, _] rfl ?_)
           refine .lp (fun y m => ∃ (Z0 : Nat) (Z1 Z2 : List Int) (Z3 : _) (Z4 : Nat) (Z5 : _), y = ⟨[(96, .int .i64 (Z0 : Int))], [], [(b30, .cells #[.int .i64 v102, .int .i64 v103, .int .i64 v104, .slice Z3 Z2.length Z4, .slice a72 v71.length k73] 256 (0, 0))], [.s (.slice Z3 Z2.length Z4) 3 1 Z2.length Z5]⟩ ∧ Z1.length = m ∧ OL ri G111 Z5 Z2 ∧ List.drop Z0 u127 = Z1 ∧ X4n (X4m (Xs X14 x2 x3 x0_0 xs87 (i60 + 1)) v96 x3 x0_0 v71) x0_0 v102 v103 v104 v100 v101 v105 v106 v107 v108 Z1 Z2 = some r) [(17, _), (59, _), (2, _), (3, _), (8, _), (12, _), (13, _), (57, _), (58, _), (15, _), (94, _), (95, _)] [_, _, _] [_, _] ⟨0, u127, u121, a123, k124, cs125, rfl, rfl, o126, rfl, r128⟩ (fun y m hI hb164 => ?_)
           obtain ⟨i165, w166, v167, a168, k169, cs171, rfl, rfl, o172, g173, r175⟩ := hI
           refine .gn 0 ?_
           cases w166 with
           | nil =>
            rw [X4n] at r175; try dsimp only at r175
            refine .go 5 ?_
            refine .cond_dec rfl (fun c => absurd c (Xl g173)) (fun _ => ?_)
            refine .exit rfl (.pull 3 rfl [_, _, _, _] rfl (.pull 3 rfl [_, _, _, _] rfl (.pull 2 rfl [_, _, _, _] rfl (.pull 3 rfl [_, _, _, _] rfl ?_))))
            exact (hb163 _ ⟨v100, v101, v102, v103, v104, v167, a168, k169, cs171, v105, v106, v107, v108, rfl, o172, r175⟩).ar
           | cons x176 xs177 =>
            have r178 : X9b (X4m (Xs X14 x2 x3 x0_0 xs87 (i60 + 1)) v96 x3 x0_0 v71) x0_0 v102 v103 v104 v100 v101 v105 v106 v107 v108 (X4n (X4m (Xs X14 x2 x3 x0_0 xs87 (i60 + 1)) v96 x3 x0_0 v71) x0_0 v102 v103 v104 v100 v101 v105 v106 v107 v108 xs177) x176 v167 = some r := r175; clear r175; unfold X9b at r178; try dsimp only at r178
            refine .go 5 ?_
            refine .cond_dec rfl (fun _ => ?_) (fun c => absurd (X15 g173) c)
            refine .go 2 ?_
            refine .block (.go 2 ?_)
            obtain ⟨c179, p180, h181⟩ := SlR.get s132 (X3 g173)
            obtain rfl := h181
            refine .q .ro (.idxR s132 rfl rfl (X3 g173) sl22 ty3.sz) rfl (.q .ro (.load_rp p180 mcs rfl ty3 rfl) rfl (.go 2 ?_))
            refine .drawL (.q 0 (.q 1 (.q 2 (.q 3 (.q 4 (.q 5 (.q 6 (.e 7 1 (.e 8 1 (.e 9 1 (.e 10 1 (.q 11 (.e 12 2 .nil))))))))))))) [_, _, _, _] (by kernel_rfl) (by kernel_rfl) (X1 [0, 1, 2, 3] rfl) (.go 7 ?_)
            obtain ⟨u182, hu182, r183⟩ := X0 r178
            refine .cVd [_, _, _] Tryz.call77 (X13 mcs  hu182) ?_
            refine .clsL (HpLe.refl _) (X1 [0, 1, 2, 3] rfl) ?_
            obtain ⟨u184, hu184, r185⟩ := X0 r183
            refine .cVd [_, _, _] Tryz.call190 (X32 mcs  hu184) ?_
            refine .clsL (HpLe.refl _) (X1 [0, 1, 2, 3] rfl) ?_
            refine .lit [_] [(0, _)] .d1 sl22 ty3 rfl rfl rfl rfl rfl rfl (fun b186 hb186 => ?_)
            have o187 : OL ri G111 [.int .i64 u184] ([u184] : List Int) := ((OL.cons rfl (Rep.intI .i64 u184) (OL.nil (Rp' := ri))) :)
            refine .reval 109 (n' := ([u184] : List Int).length) rfl rfl (.clsL (HpLe.refl _) (X1 [0, 1, 2, 3] rfl) ?_)
            obtain ⟨u188, hu188, r189⟩ := X0 r185
            refine .appO (Q := ri) 0 .d1 sl22 ty3 rfl rfl rfl rfl rfl rfl o172 o187 rfl rfl rfl B113 hu188 rfl (fun a191 k192 cs193 o194 => ?_)
            refine .clsL (HpLe.refl _) (X1 [0, 1, 2, 3] rfl) (.go 1 ?_)
            refine .store 0 [_, _, _, _, _] [_, _, _, _] .d2 rfl rfl rfl ty22 rfl rfl rfl rfl (.go 6 ?_)
            exact (hb164 _ _ ⟨(i165 + 1), xs177, u188, a191, k192, cs193, rfl, rfl, o194, (X4 g173), r189⟩ (Nat.lt_succ_self _)).ax ⟨(congrArg (fun z => some (Value.int .i64 z)) (X5 (SlR.len s132) g173)), rfl, rfl, rfl, rfl, rfl, rfl, rfl, rfl, rfl, rfl, rfl, rfl, trivial⟩
         ·intro hb195
          refine .block (.own_nil 3 1 ?_)
          refine .lp (fun y m => ∃ (Z0 : Nat) (Z1 : _) (Z2 : List Int) (Z3 : _) (Z4 : Nat) (Z5 Z6 : _), y = ⟨[(16, .int .i64 Z1), (17, .slice Z3 Z2.length Z4), (71, .int .i64 Z6)], [], [], [.s (.slice Z3 Z2.length Z4) 3 1 Z2.length Z5]⟩ ∧ Z0 = m ∧ OL ri G62 Z5 Z2 ∧ X6k (X4o (Xs X14 x2 x3 x0_0 xs87 (i60 + 1)) x2 x3 x0_0 v67 v71) (i60 : Int) x0_0 (w64 ((w64 (x2 + x3)) + 1)) x86.1 x86.2 v63 v65 v66 v75 v76 v78 v79 Z0 Z1 Z2 Z6 = some r) [(59, _), (2, _), (3, _), (8, _), (12, _), (13, _), (57, _), (58, _), (15, _), (14, _), (70, _)] [_, _, _, _] [_, _, _] ⟨big, 1, ([] : List Int), none, 0, [], 0, rfl, rfl, (OL.nil (Rp' := ri)), r95⟩ (fun y m hI hb196 => ?_)
          obtain ⟨n197, v198, v199, a200, k201, cs202, v203, rfl, rfl, o204, r205⟩ := hI
          refine .gn 0 ?_
          obtain ⟨m206, rfl⟩ : ∃ m, n197 = m + 1 := by cases n197 with | zero => exact absurd (show (none : Option _) = some _ from r205) (by simp) | succ m => exact ⟨m, rfl⟩
          have r207 : X9c (X4o (Xs X14 x2 x3 x0_0 xs87 (i60 + 1)) x2 x3 x0_0 v67 v71) (i60 : Int) x0_0 (w64 ((w64 (x2 + x3)) + 1)) x86.1 x86.2 v63 v65 v66 v75 v76 v78 v79 (X6k (X4o (Xs X14 x2 x3 x0_0 xs87 (i60 + 1)) x2 x3 x0_0 v67 v71) (i60 : Int) x0_0 (w64 ((w64 (x2 + x3)) + 1)) x86.1 x86.2 v63 v65 v66 v75 v76 v78 v79 m206) v198 v199 v203 = some r := r205; clear r205; unfold X9c at r207; try dsimp only at r207
          refine .go 5 ?_
          refine .cH r207 (fun c208 r209 => ?_) (fun c208 r210 => ?_)
          ·refine .go 2 ?_
           refine .block (.go 4 ?_)
           refine .lit [_] [(0, _)] .ro sl22 ty3 rfl rfl rfl rfl rfl rfl (fun b211 hb211 => ?_)
           have o212 : OL ri G62 [.int .i64 v198] ([v198] : List Int) := ((OL.cons rfl (Rep.intI .i64 v198) (OL.nil (Rp' := ri))) :)
           refine .reval 75 (n' := ([v198] : List Int).length) rfl rfl ?_
           obtain ⟨u213, hu213, r214⟩ := X0 r209
           refine .appO (Q := ri) 0 .ro sl22 ty3 rfl rfl rfl rfl rfl rfl o204 o212 rfl rfl rfl B81 hu213 rfl (fun a215 k216 cs217 o219 => ?_)
           refine .go 7 ?_
           obtain ⟨u221, hu221, r222⟩ := X0 r214
           refine .cV [_, _, _] Tryz.call77 (X13 mcs  hu221) ?_
           refine .go 7 ?_
           exact (hb196 _ _ ⟨m206, u221, u213, a215, k216, cs217, (w64 (v203 + 1)), rfl, rfl, o219, r222⟩ (Nat.lt_succ_self _)).ar
          ·refine .exit rfl ?_
           exact (hb195 _ ⟨v199, a200, k201, cs202, x86.1, x86.2, v63, v65, v66, v75, v76, v78, v79, rfl, o204, r210⟩).ar
    ·intro hb24
     refine .split 41 rfl (fun c23 => ?_) (fun c23 => ?_)
     ·refine .go 6 ?_
      exact (hb24 _ rfl).ax ⟨X4y c23, rfl, rfl, rfl, rfl, rfl, trivial⟩
     ·refine .go 11 ?_
      exact (hb24 _ rfl).ax ⟨X4z c23, rfl, rfl, rfl, rfl, rfl, trivial⟩
   ·intro hb20
    refine .split 37 rfl (fun c19 => ?_) (fun c19 => ?_)
    ·refine .go 3 ?_
     exact (hb20 _ rfl).ax ⟨X4y c19, rfl, rfl, rfl, rfl, rfl, trivial⟩
    ·refine .go 5 ?_
     exact (hb20 _ rfl).ax ⟨X4z c19, rfl, rfl, rfl, rfl, rfl, trivial⟩
 ·intro hb13
  refine .split 29 rfl (fun c12 => ?_) (fun c12 => ?_)
  ·refine .go 5 ?_
   exact (hb13 _ rfl).ax ⟨X93 c12, rfl, rfl, rfl, rfl, rfl, rfl, trivial⟩
  ·refine .go 3 ?_
   exact (hb13 _ rfl).ax ⟨X94 c12, rfl, rfl, rfl, rfl, rfl, rfl, trivial⟩
theorem Xg0 {x0_0 : Int} {x0_1 : Int} {x0_2 : Int} {x0_3 : List Int} {x0_4 : List Int} {r : Int} (hG : G ∈ Fs) (s0_3 : SlR ri G a0_3 k0_3 x0_3) (s0_4 : SlR ri G a0_4 k0_4 x0_4) (h : Xau (x0_0, x0_1, x0_2, x0_3, x0_4) = some r) : RetS Tryz.prog 191 #[.agg #[.int .i64 x0_0, .int .i64 x0_1, .int .i64 x0_2, .slice a0_3 x0_3.length k0_3, .slice a0_4 x0_4.length k0_4]] Fs [] [] (rv (.int .i64 r)) := by
 unfold Xau at h
 try dsimp only at h
 refine RetS.st [(0, _)] Tryz.func191 Tryz.ntmps191 hG fun w0 S0 hS0 B0 => ?_
 refine .go 2 ?_
 refine .box [_, _, _, _, _] .ro rfl rfl rfl (fun b1 hb1 => ?_)
 refine .go 5 ?_
 refine .q .ro (.load_own_a 0 [_] rfl rfl ty45 rfl) rfl ?_
 obtain ⟨u2, hu2, r3⟩ := X0 h
 refine .cV [_] Tryz.call72 (X3r mcs  hu2) ?_
 refine .go 7 ?_
 refine .block (.go 6 ?_)
 refine .cB r3 (fun c6 r7 => ?_) (fun c6 r8 => ?_)
 ·refine .go 4 ?_
  cases r7
  refine .drop 1 0 [] _ rfl rfl ?_
  refine .rS [.tmp 2] [_] Tryz.func191 Tryz.results191 ⟨rfl, rfl, rfl⟩
 ·refine .go 6 ?_
  refine .kR (fun y => y = ⟨[(22, .bool (decide ((x0_1 < 0) ∨ (32 < x0_1))))], G :: Fs, [], []⟩) [(1, _), (3, _)] [_] [0] [] [] 4 ?_ ?_
  ·rintro _ rfl
   refine .gn 1 ?_
   refine .kR (fun y => y = ⟨[(27, .bool (decide (((x0_1 < 0) ∨ (32 < x0_1)) ∨ (x0_2 < 0))))], G :: Fs, [], []⟩) [(1, _), (3, _)] [_] [0] [] [] 4 ?_ ?_
   ·rintro _ rfl
    refine .gn 1 ?_
    refine .kR (fun y => y = ⟨[(32, .bool (decide ((((x0_1 < 0) ∨ (32 < x0_1)) ∨ (x0_2 < 0)) ∨ (32 < x0_2))))], G :: Fs, [], []⟩) [(1, _), (3, _)] [_] [0] [] [] 4 ?_ ?_
    ·rintro _ rfl
     refine .gn 2 ?_
     refine .cH r8 (fun c21 r22 => ?_) (fun c21 r23 => ?_)
     ·refine .go 4 ?_
      cases r22
      refine .drop 1 0 [] _ rfl rfl ?_
      refine .rS [.tmp 2] [_] Tryz.func191 Tryz.results191 ⟨rfl, rfl, rfl⟩
     ·refine .go 12 ?_
      refine .kR (fun y => y = ⟨[(50, .bool (decide (((x0_3.length : Int) ≠ (w64 (x0_1 * x0_2))) ∨ ((x0_4.length : Int) ≠ x0_1))))], G :: Fs, [], []⟩) [(1, _), (3, _)] [_] [0] [] [] 7 ?_ ?_
      ·rintro _ rfl
       refine .gn 2 ?_
       refine .cH r23 (fun c28 r29 => ?_) (fun c28 r30 => ?_)
       ·refine .go 4 ?_
        cases r29
        refine .drop 1 0 [] _ rfl rfl ?_
        refine .rS [.tmp 2] [_] Tryz.func191 Tryz.results191 ⟨rfl, rfl, rfl⟩
       ·refine .go 5 ?_
        obtain ⟨u31, hu31, r32⟩ := X0 r30
        refine .cV [_, _] Tryz.call73 (X1g mcs s0_3 hu31) ?_
        refine .go 2 ?_
        obtain ⟨u41, h42, r43⟩ := X0 r32
        refine .kR (fun y => y = ⟨[(63, .bool u41)], G :: Fs, [], []⟩) [] [_] [0] [] [] 6 ?_ ?_
        ·rintro _ rfl
         refine .gn 2 ?_
         refine .cB r43 (fun c46 r47 => ?_) (fun c46 r48 => ?_)
         ·refine .go 4 ?_
          cases r47
          refine .drop 1 0 [] _ rfl rfl ?_
          refine .rS [.tmp 2] [_] Tryz.func191 Tryz.results191 ⟨rfl, rfl, rfl⟩
         ·refine .go 6 ?_
          cases r48
          refine .drop 1 0 [] _ rfl rfl ?_
          refine .rS [.tmp 2] [_] Tryz.func191 Tryz.results191 ⟨rfl, rfl, rfl⟩
        ·intro hb40
         refine .split_b 57 rfl (fun c39 => ?_) (fun c39 => ?_)
         ·have r49 := ifT h42 c39
          refine .go 6 ?_
          exact (hb40 _ rfl).ax ⟨sval r49, trivial⟩
         ·have r50 := ifBF h42 c39
          refine .go 7 ?_
          obtain ⟨u51, hu51, r52⟩ := X0 r50
          refine .cV [_, _] Tryz.call73 (X1g mcs s0_4 hu51) ?_
          refine .go 3 ?_
          exact (hb40 _ rfl).ax ⟨sval r52, trivial⟩
      ·intro hb25
       refine .split 43 rfl (fun c24 => ?_) (fun c24 => ?_)
       ·refine .go 7 ?_
        exact (hb25 _ rfl).ax ⟨X4y c24, rfl, rfl, trivial⟩
       ·refine .go 13 ?_
        exact (hb25 _ rfl).ax ⟨X4z c24, rfl, rfl, trivial⟩
    ·intro hb18
     refine .split 28 rfl (fun c17 => ?_) (fun c17 => ?_)
     ·refine .go 4 ?_
      exact (hb18 _ rfl).ax ⟨X4y c17, rfl, rfl, trivial⟩
     ·refine .go 7 ?_
      exact (hb18 _ rfl).ax ⟨X4z c17, rfl, rfl, trivial⟩
   ·intro hb14
    refine .split 23 rfl (fun c13 => ?_) (fun c13 => ?_)
    ·refine .go 4 ?_
     exact (hb14 _ rfl).ax ⟨X4y c13, rfl, rfl, trivial⟩
    ·refine .go 7 ?_
     exact (hb14 _ rfl).ax ⟨X4z c13, rfl, rfl, trivial⟩
  ·intro hb10
   refine .split 18 rfl (fun c9 => ?_) (fun c9 => ?_)
   ·refine .go 4 ?_
    exact (hb10 _ rfl).ax ⟨X4y c9, rfl, rfl, trivial⟩
   ·refine .go 7 ?_
    exact (hb10 _ rfl).ax ⟨X4z c9, rfl, rfl, trivial⟩
end Go.Proofs.YtfcicopgdahmcaaGreatDoor
end
