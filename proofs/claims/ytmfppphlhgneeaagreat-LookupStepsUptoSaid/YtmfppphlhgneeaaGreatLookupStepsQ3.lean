/- What the proof needs, gathered by wip/gen/shake.py. -/
import Derived.Calls
import Derived.Deep.Quiet
import Derived.Below
import Derived.Laws.AppendOwn
import Derived.WalkKit
import Derived.Laws.OwnMore
import Derived.Deep.Slices
import Derived.ChangeOld
import Derived.ArgAppend
import Derived.RangeFuncIn
import Derived.RangeFuncRecord
import Derived.RangeFuncLeaves
import Derived.Laws.MakeOwn
import Derived.IntWalk
import Derived.Laws.IdiomStrings
import Derived.Laws.Cover3
import Derived.Laws.CopyOwn
import Derived.Test.YtmfppphlhgneeaaGreatRows
import Derived.MapKept
import Derived.RangeFuncNested
import Derived.ProofKit
import Derived.OpenShut
import Derived.ShutString
import Derived.JoinedCond
import Derived.Test.YtmfppphlhgneeaaGreatLookupStepsQ2
set_option linter.unusedVariables false
set_option linter.unusedSimpArgs false
section
namespace Go.Proofs.YtmfppphlhgneeaaGreat
open Go.RowKit
set_option linter.unusedVariables false
theorem Xf8 (z : Value) (n : Nat) : Builtin.zeroCells #[z] n = (List.replicate n z).toArray := by
  apply Array.ext'
  unfold Builtin.zeroCells
  apply List.ext_getElem
  · simp
  · intro i h1 h2
    simp [Nat.mod_one]
section
variable {P : Program} {ty : TypeId}
theorem Xdk {w : World} {t u e : TypeId} {bytes : Nat} {z : Value} {ku kx : IntKind} {n0 : Int} (ht : slOf P t = some e) (hu : P.underlying u = some (.int ku)) (hel : TyI P e false 1 bytes [z]) (hone : z.oneCell' = true) {v : Value} {n : Nat} {xs : List Value} (hown : w.ownsRow 0 e 1 v n xs)
    (h0 : 0 ≤ n0) (hb : n + n0.toNat ≤ 16777216) (hby : bytes ≤ 8388608) :
    ∃ a' cap' w', (Builtin.append_ #[t, u] ty #[v, .int kx n0]).run P w = .ok (.slice a' (n + n0.toNat) cap') w' ∧ w'.ownsRow 0 e 1 (.slice a' (n + n0.toNat) cap') (n + n0.toNat) (xs ++ List.replicate n0.toNat z) ∧ Keep w v.ownBlock.toList w' ∧
      (∀ b, (Value.slice a' (n + n0.toNat) cap').ownBlock = some b → v.ownBlock = some b ∨ w.heap.size ≤ b) := by
  have hut := X5o ht
  obtain ⟨i, zv, hi, hzi, hs1, hs2, hzc⟩ := hel.info
  obtain ⟨m, hm⟩ : ∃ m : Nat, n0 = m := ⟨n0.toNat, by omega⟩
  subst hm
  simp only [Int.toNat_natCast] at hb ⊢
  have hw : IntKind.i64.wrap (m : Int) = m := IntWalk.i64_in _ (by omega)
  have hw0 : IntKind.i64.wrap 0 = 0 := by decide
  have h63 : n + m ≤ maxLen := by simp only [maxLen]; omega
  have hbytes : (n + m) * bytes ≤ 140737488355328 := Nat.le_trans (Nat.mul_le_mul hb hby) (by decide)
  have hmb : m * i.bytes ≤ 140737488355328 := by rw [hs2]; exact Nat.le_trans (Nat.mul_le_mul_right _ (by omega)) hbytes
  have hmb' : ¬ (281474976710656 < (m : Int) * (i.bytes : Int)) := by
    have : ((m * i.bytes : Nat) : Int) = (m : Int) * (i.bytes : Int) := Int.natCast_mul _ _
    omega
  have hzca : zv.cells = #[z] := by simpa using hzc
  have hzs : zv.cells.size = 1 := by rw [hzca]; rfl
  have hxl : xs.length = n := by have := hown.1; omega
  have hlen : (xs ++ List.replicate m z).length = n + m := by rw [List.length_append, hxl, List.length_replicate]
  have hzero : ∀ k, Builtin.zeroCells zv.cells k = (List.replicate k z).toArray := fun k => by rw [hzca]; exact Xf8 z k
  have hm0 : ¬ ((m : Int) < 0) := by omega
  have happ : ∀ w' : World, (if m * i.size = 0 then (pure #[] : Sem (Array Value)) else do pure (Builtin.zeroCells (← zeroValue e).cells m)).run P w' = .ok (List.replicate m z).toArray w' := fun w' => by
    rw [hs1, Nat.mul_one]
    by_cases hm : m = 0
    · subst hm; rw [if_pos rfl]; rfl
    · rw [if_neg hm]
      simp [zeroValue, typeInfo, hi, hzi, hzero]
  have grown : ∀ (old : Nat), old < n + m →
      (w.drew.alloc (.cells (xs.toArray ++ (List.replicate m z).toArray ++ Builtin.zeroCells zv.cells (grownCap w (n + m) old e - (n + m))) e)).ownsRow 0 e 1
        (.slice (some ⟨w.heap.size, 0, none⟩) (n + m) (grownCap w (n + m) old e)) (n + m) (xs ++ List.replicate m z) ∧
      Keep w [] (w.drew.alloc (.cells (xs.toArray ++ (List.replicate m z).toArray ++ Builtin.zeroCells zv.cells (grownCap w (n + m) old e - (n + m))) e)) := by
    intro old ho
    have hge := grownCap_ge w (n + m) old e
    have hcm : grownCap w (n + m) old e ≤ maxLen := grownCap_le_maxLen w (n + m) old e h63
    refine ⟨⟨by rw [hlen]; omega, .inr ⟨w.heap.size, _, _, rfl, Nat.zero_le _, heap_alloc_new w.drew _, hge, hcm, ?_, ?_⟩⟩, ⟨rfl, rfl, rfl, by simp, fun k hk _ => heap_alloc_old w.drew _ hk⟩⟩
    · simp only [Array.size_append, List.size_toArray, size_zeroCells, hzs, hxl, List.length_replicate]
      omega
    · simp only [Array.toList_append, List.append_assoc]
      rw [← List.append_assoc, Nat.mul_one, ← hlen]
      exact List.take_left
  rcases hown.2 with ⟨rfl, rfl⟩ | ⟨g, cap, cur, rfl, hbg, hg, hnc, hcm, hcs, htake⟩
  · have hx : xs = [] := List.eq_nil_of_length_eq_zero hxl
    subst hx
    by_cases hm : m = 0
    · subst hm
      refine ⟨none, 0, w, ?_, hown, Keep.refl _ _, fun b hb => .inl hb⟩
      simp [Builtin.append_, run_underlying hut, run_underlying hu, sizeOf, typeInfo, hi, asInt, asIntOf, hw, hw0]
    · have h48' : ¬ (281474976710656 < Builtin.nextslicecap m 0 * i.bytes) := by rw [nextslicecap_zero (by omega)]; omega
      have hm' : ¬ (m * i.size = 0) := by rw [hs1]; omega
      have h63' : ¬ (9223372036854775807 < (m : Int)) := by omega
      have hr : (Builtin.append_ #[t, u] ty #[.slice none 0 0, .int kx (m : Int)]).run P w = .ok (.slice (some ⟨w.heap.size, 0, none⟩) m (grownCap w m 0 e)) (w.drew.alloc (.cells ((List.replicate m z).toArray ++ Builtin.zeroCells zv.cells (grownCap w m 0 e - m)) e)) := by
        simp [Builtin.append_, run_underlying hut, run_underlying hu, sizeOf, typeInfo, zeroValue, hi, hzi, asInt, asIntOf, hw, hw0, hm0, hmb', hm, h48', h63', hm', Question.forced, run_firstCells_none, newRow, grownCap, hs1, hzero]
      have hgr := grown 0 (by omega)
      simp only [Nat.zero_add, List.nil_append, Array.empty_append] at hgr ⊢
      exact ⟨_, _, _, hr, hgr.1, by simpa [Value.ownBlock] using hgr.2, fun b hb => .inr (by simp [Value.ownBlock] at hb; omega)⟩
  · by_cases hroom : n + m ≤ cap
    · have hst := run_storeCells_at P g n e (List.replicate m z) 0 cur w hg (by simp; omega) (fun v hv => by rw [(List.mem_replicate.1 hv).2]; exact hone)
      simp only [Nat.add_zero] at hst
      have hr : (Builtin.append_ #[t, u] ty #[.slice (some ⟨g, 0, none⟩) n cap, .int kx (m : Int)]).run P w = .ok (.slice (some ⟨g, 0, none⟩) (n + m) cap) (w.setRow g (cur.toList.take n ++ List.replicate m z ++ cur.toList.drop (n + (List.replicate m z).length)).toArray) := by
        by_cases hm : m = 0
        · subst hm
          simp at hst
          simp [Builtin.append_, run_underlying hut, run_underlying hu, sizeOf, typeInfo, hi, asInt, asIntOf, hw, hw0, hnc, Addr.add_lit, hs1, hst]
        · have hm' : ¬ (m * i.size = 0) := by rw [hs1]; omega
          simp [Builtin.append_, run_underlying hut, run_underlying hu, sizeOf, typeInfo, zeroValue, hi, hzi, asInt, asIntOf, hw, hw0, hm0, hmb', hroom, hm, hm', Addr.add_lit, hst, hs1, hzero]
      refine ⟨_, cap, _, hr, ⟨by rw [hlen]; omega, .inr ⟨g, cap, _, rfl, Nat.zero_le _, setRow_heap w g cur _ e _ hg, hroom, hcm, ?_, ?_⟩⟩, ⟨rfl, rfl, rfl, by simp [World.setRow], fun b _ hD => setRow_other w g b _ (by simpa [Value.ownBlock] using hD)⟩, fun b hb => .inl hb⟩
      · simp only [List.size_toArray, List.length_append, List.length_take, List.length_drop, Array.length_toList, List.length_replicate]
        omega
      · rw [Nat.mul_one] at htake
        rw [htake, Nat.mul_one, ← hlen]
        exact List.take_left
    · have holds : ∀ (j : Nat) u, xs[j]? = some u → w.cell? ((⟨g, 0, none⟩ : Addr).add j) = some u := hown.cells (g := g) rfl
      have hn : ¬ (n + m ≤ cap) := hroom
      have hm : m ≠ 0 := by omega
      have h63' : ¬ (9223372036854775807 < ((n : Int) + (m : Int))) := by omega
      have h48' : ¬ (281474976710656 < Builtin.nextslicecap (n + m) cap * i.bytes) := by
        have := growslice_fits (need := n + m) (old := cap) (bytes := i.bytes) (by omega) (by rw [hs2]; exact hbytes)
        omega
      have hfo := run_firstCells_some (P := P) w.drew i.size n ⟨g, 0, none⟩ n cap xs (by rw [hs1]; omega) (by simpa using holds)
      have hm' : ¬ (m * i.size = 0) := by rw [hs1]; omega
      have hr : (Builtin.append_ #[t, u] ty #[.slice (some ⟨g, 0, none⟩) n cap, .int kx (m : Int)]).run P w = .ok (.slice (some ⟨w.heap.size, 0, none⟩) (n + m) (grownCap w (n + m) cap e)) (w.drew.alloc (.cells (xs.toArray ++ (List.replicate m z).toArray ++ Builtin.zeroCells zv.cells (grownCap w (n + m) cap e - (n + m))) e)) := by
        rw [hs1] at hfo
        simp [Builtin.append_, run_underlying hut, run_underlying hu, sizeOf, typeInfo, zeroValue, hi, hzi, asInt, asIntOf, hw, hw0, hm0, hmb', hn, hm, h48', h63', hm', Question.forced, hfo, newRow, grownCap, hs1, hzero]
      have hgr := grown cap (by omega)
      exact ⟨_, _, _, hr, hgr.1, ⟨hgr.2.os, hgr.2.tape, hgr.2.output, hgr.2.size, fun b hb _ => hgr.2.block b hb (by simp)⟩, fun b hb => .inr (by simp [Value.ownBlock] at hb; omega)⟩
end
section
variable {P : Program} {c : Cx} {R : Value → World → Prop} {nt : Nat} {w0 : World} {S0 : List Nat} {df : List Deferred} {ρ ρ' : Env} {Fs Fs' Fin B : List Hp} {bl bl' : Blks} {sl sl' : List OwnS}
  {K K' : Act → World → Prop} {k : List Item} {ty : TypeId} {G : Hp}
theorem Cov.appNul (q : Nat) {d : Nat} {t u e : TypeId} {s x : Operand} {a : Option Addr} {m : Nat} {l l2 l' : List Int} {cs : List Value} {bytes : Nat} {kk ku kx : IntKind} {n : Int}
    (hs : Stp P K' ⟨some d, .call ⟨.builtin .append, #[s, x], #[t, u]⟩, ty, none⟩ K) (ht : slOf P t = some e) (hu : P.underlying u = some (.int ku)) (hel : TyI P e false 1 bytes [.int kk 0]) (hby : Nat.ble bytes 8388608 = true)
    (hi : sl[q]? = some (.s (.slice a l.length m) e 1 l.length cs)) (ho : OL (Rep.int kk) G cs l) (he : ev ρ s = some (.slice a l.length m)) (hx : ev ρ x = some (.int kx n)) (hb : lmk n (0 : Int) = some l2) (hl : lapp l l2 = some l') (hd : Nat.blt d nt = true)
    (hk : ∀ a' m' cs', OL (Rep.int kk) G cs' l' → Cov nt w0 S0 df ((d, .slice a' l'.length m') :: ρ) Fs bl (sl.set q (.s (.slice a' l'.length m') e 1 l'.length cs')) K) : Cov nt w0 S0 df ρ Fs bl sl K' := fun ac w hfi hinv => by
  refine hs ac w ?_
  obtain ⟨hb1, hb3, rfl⟩ := Xf4 hb
  obtain ⟨hb2, rfl⟩ := Xab hl
  rw [List.length_replicate] at hb2
  have hown : w.ownsRow 0 e 1 _ _ _ := hinv.mem.slh _ (List.mem_of_getElem? hi)
  obtain ⟨a', cap', w', hr, ho', kw, hfr⟩ := Xdk (P := P) (ty := ty) (kx := kx) ht hu hel rfl hown hb1 hb2 (by simpa [Nat.ble_eq] using hby)
  have hrun : (execOp ac.eval (⟨some d, .call ⟨.builtin .append, #[s, x], #[t, u]⟩, ty, none⟩ : OpX).oper).run P w = .ok (.value (.slice a' (l.length + n.toNat) cap')) w' := by
    refine X57 (X63 (s := Builtin.append_ #[t, u] ty (#[s, x].map ac.eval)) ?_)
    rw [show #[s, x].map ac.eval = #[ac.eval s, ac.eval x] from by simp, Xv hfi he, Xv hfi hx]
    exact hr
  unfold Oper.wp
  rw [hrun]
  have hol : OL (Rep.int kk) G (cs ++ List.replicate n.toNat (.int kk 0)) (l ++ List.replicate n.toNat 0) := ho.append ((OL.one_iff rfl).2 ⟨by rw [List.length_replicate]; omega, by simp, fun j v y hv hy => by
    have h1 := List.mem_replicate.1 (List.mem_of_getElem? hv)
    have h2 := List.mem_replicate.1 (List.mem_of_getElem? hy)
    rw [h1.2, h2.2]; rfl⟩) (by rw [List.length_replicate]; exact hb2)
  have hk' := hk a' cap' _ hol
  simp only [List.length_append, List.length_replicate] at hk'
  refine hk' _ _ (hfi.put hd _) (hinv.set_s q hi kw ho' (Xa3 _) fun b hb => ?_)
  simp only [OwnS.blocks, Option.mem_toList] at hb ⊢
  exact hfr b hb
end
end Go.Proofs.YtmfppphlhgneeaaGreat
end

section
namespace Go.Proofs.YtmfppphlhgneeaaGreat
open Go.RowKit
set_option linter.unusedVariables false
section
variable {P : Program} {c : Cx} {R : Value → World → Prop} {nt : Nat} {w0 : World} {S0 : List Nat} {df : List Deferred} {ρ ρ' : Env} {Fs Fs' Fin B : List Hp} {bl bl' : Blks} {sl sl' : List OwnS}
  {K K' : Act → World → Prop} {k : List Item} {ty : TypeId} {G : Hp} {α : Type}
section
variable {α β : Type} {FsD : α → List Hp} {blD : α → Blks} {slD : α → List OwnS} {FsE : β → List Hp} {blE : β → Blks} {slE : β → List OwnS} {FsS FinR : List Hp} {I1 : α → Prop} {IE : β → Prop} {l : Nat} {le : β → Obj} {f : FuncId} {tmps : Array Value} {ps : Array Tmp} {as1 body : Code} {D : Nat}
end
theorem PartV.sub3 {a : Option Addr} {sz : Nat} {v : Value} {i len : Nat} (h : PartV a sz v i len) {i' j' m' : Nat} (h1 : i' ≤ j') (h2 : j' ≤ len) (h3 : j' ≤ m') : PartV a sz (subV3 v i' j' m' sz) (i + i') (j' - i') := by
  obtain ⟨a', c', rfl, hc, ha⟩ := h
  refine ⟨_, _, rfl, by omega, fun hne g o e => ?_⟩
  have := ha (by omega) g o e
  subst this
  rw [if_neg (by omega)]
  simp [X1e, Nat.add_mul, Nat.add_assoc]
theorem SlR.part {Q : Rep α} {a : Option Addr} {m : Nat} {l ld : List α} {lo hi : Int} {v : Value} (h : SlR Q G a m l) (hp : PartV a Q.sz v lo.toNat (hi - lo).toNat) (hu : lsub l lo hi = some ld) : ∃ a' c', v = .slice a' ld.length c' ∧ SlR Q G a' c' ld := by
  obtain ⟨h1, h2, h3, rfl⟩ := X9h hu
  obtain ⟨a', c', rfl, hc, ha⟩ := hp
  have hl : ((l.drop lo.toNat).take (hi - lo).toNat).length = (hi - lo).toNat := by simp only [List.length_take, List.length_drop]; omega
  refine ⟨a', c', by rw [hl], ?_⟩
  obtain ⟨hb, xs, ⟨a0, cap, hv, hcap, hsz, hcc⟩, hx1, hx2⟩ := h
  simp only [Value.slice.injEq] at hv
  obtain ⟨rfl, hlen, rfl⟩ := hv
  have hxl : ((xs.drop lo.toNat).take (hi - lo).toNat).length = (hi - lo).toNat := by simp only [List.length_take, List.length_drop]; omega
  refine ⟨by rw [hl]; omega, (xs.drop lo.toNat).take (hi - lo).toNat, ⟨a', c', by rw [hl, hxl], by rw [hxl]; exact hc, fun x hx => hsz x (List.mem_of_mem_drop (List.mem_of_mem_take hx)), fun hne => ?_⟩, by rw [hl, hxl], fun q c x hq hx => ?_⟩
  · have hne0 : (hi - lo).toNat ≠ 0 := fun h0 => hne (List.eq_nil_of_length_eq_zero (by rw [hxl]; exact h0))
    obtain ⟨b, o, rfl, hcell⟩ := hcc (by rintro rfl; simp at hxl; omega)
    refine ⟨b, o + lo.toNat * Q.sz, ha hne0 b o rfl, fun q x hq j c hj => ?_⟩
    have hql : q < (hi - lo).toNat := by rw [← hxl]; exact (List.getElem?_eq_some_iff.1 hq).1
    rw [List.getElem?_take_of_lt hql, List.getElem?_drop] at hq
    have := hcell _ x hq j c hj
    rw [Nat.add_mul] at this
    rw [show o + lo.toNat * Q.sz + q * Q.sz + j = o + (lo.toNat * Q.sz + q * Q.sz) + j from by omega]
    exact this
  · have hql : q < (hi - lo).toNat := by rw [← hxl]; exact (List.getElem?_eq_some_iff.1 hq).1
    rw [List.getElem?_take_of_lt hql, List.getElem?_drop] at hq hx
    exact hx2 _ c x hq hx
end
end Go.Proofs.YtmfppphlhgneeaaGreat
end

section
namespace Go.Proofs.YtmfppphlhgneeaaGreat
open Go.RowKit
set_option linter.unusedVariables false
def HD (es : List NE) (i : Int) (h : Option Addr × Nat × Nat) : Prop := (es.map NE.h)[i.toNat]? = some h
theorem HD.mk {es : List NE} {i : Int} {e : NE} (he : es[i.toNat]? = some e) : HD es i e.h := by unfold HD; rw [List.getElem?_map, he]; rfl
theorem HD.of {es es' : List NE} {i : Int} {h : Option Addr × Nat × Nat} (hm : es'.map NE.h = es.map NE.h) (hd : HD es i h) : HD es' i h := by unfold HD; rw [hm]; exact hd
section
variable {P : Program} {c : Cx} {R : Value → World → Prop} {nt : Nat} {w0 : World} {S0 : List Nat} {df : List Deferred} {ρ ρ' : Env} {Fs Fs' Fin B : List Hp} {bl bl' : Blks} {sl sl' : List OwnS}
  {K K' : Act → World → Prop} {k : List Item} {ty : TypeId} {G : Hp} {α : Type}
theorem Cov.packE (T m : Nat) (h : Cov nt w0 S0 df ρ Fs bl (.g (packG T m []) :: sl) K) : Cov nt w0 S0 df ρ Fs bl sl K := Cov.pack0 T m 0 h
theorem Xjd (T : TypeId) (m : Nat) (es es' : List NE) : nblks T m (es ++ es') = nblks T m es ++ nblks T m es' := by simp [nblks]
theorem Cov.pack1 {T m : Nat} {a : Option Addr} {n kk : Nat} {cs : List Value} {s2 : List OwnS} (hsl : sl = .s (.slice a n kk) T m n cs :: s2) (h : Cov nt w0 S0 df ρ Fs bl (.g (packG T m [⟨a, n, kk, cs⟩]) :: s2) K) : Cov nt w0 S0 df ρ Fs bl sl K := by
  refine Cov.pack0 T m 1 ?_
  subst hsl
  refine Cov.pullS 1 rfl _ rfl ?_
  exact Cov.putN 0 (i := 0) rfl rfl rfl h
theorem Cov.packApp (q : Nat) {T m : Nat} {es es' : List NE} {s2 : List OwnS} (hsl : sl = .g (packG T m es') :: s2) (hs : s2[q]? = some (.g (packG T m es))) (h : Cov nt w0 S0 df ρ Fs bl (s2.set q (.g (packG T m (es ++ es')))) K) : Cov nt w0 S0 df ρ Fs bl sl K := fun aa w hf hi => by
  subst hsl
  have hh : (packG T m es).holds w := hi.mem.slh _ (List.mem_cons_of_mem _ (List.mem_of_getElem? hs))
  have hh' : (packG T m es').holds w := hi.mem.slh _ List.mem_cons_self
  have hb1 : (packG T m es).blks = nblks T m es := if_pos hh.1
  have hb1' : (packG T m es').blks = nblks T m es' := if_pos hh'.1
  have hq : (blks bl (.g (packG T m es') :: s2)).Perm (nblks T m (es ++ es') ++ blks bl (s2.eraseIdx q)) := by
    simp only [blks, List.flatMap_cons]
    have h1 := ((X5t s2 q _ hs).flatMap_right OwnS.blocks).append_left (OwnS.blocks (.g (packG T m es')))
    simp only [List.flatMap_cons] at h1
    rw [← List.append_assoc (OwnS.blocks _) (OwnS.blocks (.g (packG T m es)))] at h1
    have h2 : (OwnS.blocks (.g (packG T m es')) ++ OwnS.blocks (.g (packG T m es))).Perm (nblks T m (es ++ es')) := by
      show ((packG T m es').blks ++ (packG T m es).blks).Perm _
      rw [hb1, hb1', Xjd]; exact List.perm_append_comm
    exact ((h1.trans (h2.append_right _)).append_left _).trans (List.perm_append_comm_assoc _ _ _)
  have hnd := hq.nodup_iff.1 hi.nodup
  have hnd1 := (List.nodup_append.1 hnd).1
  have hb2 : (packG T m (es ++ es')).blks = nblks T m (es ++ es') := if_pos hnd1
  have hp2 : (blks bl (s2.set q (.g (packG T m (es ++ es'))))).Perm (blks bl (.g (packG T m es') :: s2)) := by
    refine List.Perm.trans ?_ hq.symm
    simp only [blks]
    have h1 := (X7q OwnS.blocks s2 q _ (.g (packG T m (es ++ es'))) hs)
    have h2 : OwnS.blocks (.g (packG T m (es ++ es'))) = nblks T m (es ++ es') := hb2
    rw [h2] at h1
    exact (h1.append_left _).trans (List.perm_append_comm_assoc _ _ _)
  refine h aa w hf (hi.change [] (by simp) (Keep.refl w []) (fun G hG => .inl hG) hi.mem.own (fun s hs' => ?_) (hp2.nodup_iff.2 hi.nodup) (fun b hb => .inl (hp2.mem_iff.1 hb)))
  obtain ⟨j, hj, rfl⟩ := List.getElem_of_mem hs'
  rw [List.getElem_set]
  split
  · refine ⟨hnd1, fun x hx => ?_⟩
    rcases List.mem_append.1 hx with hx | hx
    · exact hh.2 x hx
    · exact hh'.2 x hx
  · exact hi.mem.slh _ (List.mem_cons_of_mem _ (List.getElem_mem (by simpa using hj)))
theorem NL.nil {Q : Rep α} : NL Q G [] [] ([] : List (List α)) := ⟨OL.nil, rfl, fun i e y h => by simp at h⟩
theorem NL.one {Q : Rep α} {a : Option Addr} {kk : Nat} {cs : List Value} {l : List α} (ho : OL Q G cs l) : NL Q G [⟨a, l.length, kk, cs⟩] [.slice a l.length kk] [l] :=
  ⟨(OL.cons (Rp' := Rep.hdr) (c := [.slice a l.length kk]) (x := (a, l.length, kk)) (l := []) rfl rfl OL.nil :), rfl, fun i e y h1 h2 => by
    cases i with
    | zero => simp at h1 h2; subst h1 h2; exact ⟨rfl, ho⟩
    | succ i => simp at h1⟩
theorem NL.app {Q : Rep α} {es es' : List NE} {cs cs' cs2 : List Value} {x x' : List (List α)} (h : NL Q G es cs x) (h' : NL Q G es' cs' x') (hc : OL Rep.hdr G cs2 (es.map NE.h ++ es'.map NE.h)) : NL Q G (es ++ es') cs2 (x ++ x') :=
  ⟨by rw [List.map_append]; exact hc, by simp [h.2.1, h'.2.1], fun i e y h1 h2 => by
    have := h.2.1
    rcases Nat.lt_or_ge i es.length with hi | hi
    · rw [List.getElem?_append_left hi] at h1
      rw [List.getElem?_append_left (by omega)] at h2
      exact h.2.2 i e y h1 h2
    · rw [List.getElem?_append_right hi] at h1
      rw [List.getElem?_append_right (by omega)] at h2
      rw [← this] at h2; exact h'.2.2 _ e y h1 h2⟩
theorem Cov.appN (q q2 : Nat) {Q : Rep α} {d : Nat} {t e : TypeId} {s x : Operand} {a a2 : Option Addr} {m m2 T T2 mm : Nat} {l l2 l' : List (List α)} {es es2 : List NE} {cs cs2 : List Value} {agg : Bool} {bytes : Nat} {z : List Value} {s2 : List OwnS}
    (hs : Stp P K' ⟨some d, .call ⟨.builtin .append, #[s, x], #[t, t]⟩, ty, none⟩ K) (ht : slOf P t = some e) (hel : TyI P e agg 1 bytes z) (hz : z.length = 1) (hby : Nat.ble bytes 8388608 = true)
    (hsl : sl = .s (.slice a2 l2.length m2) T2 1 l2.length cs2 :: .g (packG T mm es2) :: s2) (hi : s2[q]? = some (.s (.slice a l.length m) e 1 l.length cs)) (hi2 : s2[q2]? = some (.g (packG T mm es))) (hq : (q == q2) = false) (ho : NL Q G es cs l) (ho2 : NL Q G es2 cs2 l2)
    (he : ev ρ s = some (.slice a l.length m)) (hx : ev ρ x = some (.slice a2 l2.length m2)) (hl : lapp l l2 = some l') (hd : Nat.blt d nt = true) (hB : Bd w0 S0 B G)
    (hk : ∀ a' m' cs', NL Q G (es ++ es2) cs' l' → Cov nt w0 S0 df ((d, .slice a' l'.length m') :: ρ) (G :: B) bl ((s2.set q (.s (.slice a' l'.length m') e 1 l'.length cs')).set q2 (.g (packG T mm (es ++ es2)))) K) : Cov nt w0 S0 df ρ (G :: B) bl sl K' := by
  subst hsl
  have hq' : q ≠ q2 := by simpa using hq
  have e1 : l.length = (es.map NE.h).length := by rw [List.length_map, ho.2.1]
  have e2 : l2.length = (es2.map NE.h).length := by rw [List.length_map, ho2.2.1]
  obtain ⟨hb, rfl⟩ := Xab hl
  refine Cov.appO (q + 1) (Q := Rep.hdr) (l := es.map NE.h) (l2 := es2.map NE.h) (l' := es.map NE.h ++ es2.map NE.h) hs ht hel hz rfl hby rfl (by rw [← e1]; exact hi) rfl ho.1 ho2.1 e2 (by rw [← e1]; exact he) hx hB ?_ hd fun a' m' cs' ho' => ?_
  · unfold lapp; rw [if_pos (by rw [← e1, ← e2]; exact hb)]
  · have e3 : (es.map NE.h ++ es2.map NE.h).length = (l ++ l2).length := by simp [ho.2.1, ho2.2.1]
    rw [e3]
    refine Cov.same rfl (show _ = (OwnS.g (packG T mm es2)) :: s2.set q (.s (.slice a' (l ++ l2).length m') e 1 (l ++ l2).length cs') from rfl) rfl ?_
    exact Cov.packApp q2 rfl (by rw [List.getElem?_set_ne hq']; exact hi2) (hk a' m' cs' (ho.app ho2 ho'))
end
end Go.Proofs.YtmfppphlhgneeaaGreat
end

section
namespace Go.Proofs.YtmfppphlhgneeaaGreat
open Go.RowKit
set_option linter.unusedVariables false
structure Shp (σ α β : Type) where
  row : σ → List α
  hd : σ → (Option Addr × Nat × Nat) → β
  set : σ → List α → σ
  row_set : ∀ s y, row (set s y) = y
  hd_set : ∀ s y h, hd (set s y) h = hd s h
def hds {σ α β : Type} (S : Shp σ α β) (es : List NE) (x : List σ) : List β := List.zipWith (fun s e => S.hd s (NE.h e)) x es
def NS {σ α β : Type} (S : Shp σ α β) (Q : Rep α) (E : Rep β) (G : Hp) (es : List NE) (cs : List Value) (x : List σ) : Prop :=
  OL E G cs (hds S es x) ∧ es.length = x.length ∧ ∀ (i : Nat) (e : NE) (s : σ), es[i]? = some e → x[i]? = some s → e.n = (S.row s).length ∧ OL Q G e.cs (S.row s)
section
variable {σ α β : Type} {S : Shp σ α β} {Q : Rep α} {E : Rep β} {G G' : Hp} {es : List NE} {cs : List Value} {x : List σ}
theorem Xcj (h : es.length = x.length) : (hds S es x).length = x.length := by simp [hds, h]
theorem Xh9 {i : Nat} {e : NE} {s : σ} (he : es[i]? = some e) (hs : x[i]? = some s) : (hds S es x)[i]? = some (S.hd s e.h) := by
  unfold hds; rw [List.getElem?_zipWith, hs, he]
theorem Xmt (i : Nat) (e : NE) (s : σ) : hds S (es.set i e) (x.set i s) = (hds S es x).set i (S.hd s e.h) := by
  unfold hds
  induction i generalizing es x with
  | zero => cases x <;> cases es <;> simp
  | succ n ih => cases x <;> cases es <;> simp [ih]
theorem NS.mono (hg : HpLe G G') (h : NS S Q E G es cs x) : NS S Q E G' es cs x :=
  ⟨h.1.mono hg, h.2.1, fun i e y h1 h2 => ⟨(h.2.2 i e y h1 h2).1, (h.2.2 i e y h1 h2).2.mono hg⟩⟩
theorem NS.len' (h : NS S Q E G es cs x) : x.length ≤ 9223372036854775807 := by
  have := h.1.len'; rw [Xcj h.2.1] at this; exact this
theorem NS.get (h : NS S Q E G es cs x) {i : Int} {s : σ} (hx : lidx x i = some s) :
    ∃ e c, es[i.toNat]? = some e ∧ e.n = (S.row s).length ∧ OL Q G e.cs (S.row s) ∧ Elem E.sz cs i.toNat c ∧ E.r G c (S.hd s (e.a, (S.row s).length, e.k)) := by
  obtain ⟨h3, h4, h5⟩ := X45 hx
  have hlt : i.toNat < es.length := by rw [h.2.1]; omega
  have he : es[i.toNat]? = some es[i.toNat] := List.getElem?_eq_getElem hlt
  obtain ⟨hn, ho⟩ := h.2.2 _ _ _ he h5
  obtain ⟨c, hc1, hc2⟩ := h.1.get (i := i) (x := S.hd s es[i.toNat].h) (by
    unfold lidx
    rw [if_pos h3]; exact Xh9 he h5)
  refine ⟨es[i.toNat], c, he, hn, ho, hc1, ?_⟩
  rw [← hn]; exact hc2
theorem NS.nil : NS S Q E G [] [] ([] : List σ) := ⟨OL.nil, rfl, fun i e y h => by simp at h⟩
theorem NS.one {a : Option Addr} {kk : Nat} {c : List Value} {s : σ} {l : List α} (hE : E.r G c (S.hd s (a, l.length, kk))) (hr : S.row s = l) {ics : List Value} (ho : OL Q G ics l) : NS S Q E G [⟨a, l.length, kk, ics⟩] (c ++ []) [s] :=
  ⟨(OL.cons (Rp' := E) (c := c) (x := S.hd s (a, l.length, kk)) (l := []) rfl hE OL.nil :), rfl, fun i e y h1 h2 => by
    cases i with
    | zero => simp at h1 h2; subst h1 h2; exact ⟨by rw [hr], by rw [hr]; exact ho⟩
    | succ i => simp at h1⟩
theorem NS.app {es' : List NE} {cs' cs2 : List Value} {x' : List σ} (h : NS S Q E G es cs x) (h' : NS S Q E G es' cs' x') (hc : OL E G cs2 (hds S es x ++ hds S es' x')) : NS S Q E G (es ++ es') cs2 (x ++ x') :=
  ⟨by unfold hds; rw [List.zipWith_append h.2.1.symm]; exact hc, by simp [h.2.1, h'.2.1], fun i e y h1 h2 => by
    have := h.2.1
    rcases Nat.lt_or_ge i es.length with hi | hi
    · rw [List.getElem?_append_left hi] at h1
      rw [List.getElem?_append_left (by omega)] at h2
      exact h.2.2 i e y h1 h2
    · rw [List.getElem?_append_right hi] at h1
      rw [List.getElem?_append_right (by omega)] at h2
      rw [← this] at h2; exact h'.2.2 _ e y h1 h2⟩
theorem NS.set {cs' : List Value} {x' : List σ} {i : Int} {s : σ} {e : NE} (h : NS S Q E G es cs x) (hl : lupd x i s = some x') (hn : e.n = (S.row s).length) (ho : OL Q G e.cs (S.row s)) (hc : OL E G cs' ((hds S es x).set i.toNat (S.hd s e.h))) : NS S Q E G (es.set i.toNat e) cs' x' := by
  obtain ⟨hi0, hil, rfl⟩ := X6y hl
  refine ⟨by rw [Xmt]; exact hc, by simp [h.2.1], fun j e' y' h1 h2 => ?_⟩
  rw [List.getElem?_set] at h1 h2
  by_cases hij : i.toNat = j
  · subst hij
    have := h.2.1
    rw [if_pos rfl, if_pos (by omega)] at h1
    rw [if_pos rfl, if_pos (by omega)] at h2
    cases h1; cases h2
    exact ⟨hn, ho⟩
  · rw [if_neg hij] at h1 h2
    exact h.2.2 j e' y' h1 h2
theorem X97 {γ : Type} {l : List γ} {i : Nat} {a : γ} (h : l[i]? = some a) : l.set i a = l := by
  obtain ⟨hlt, h4⟩ := List.getElem?_eq_some_iff.1 h
  rw [← h4]; exact List.set_getElem_self hlt
end
section
variable {P : Program} {c : Cx} {R : Value → World → Prop} {nt : Nat} {w0 : World} {S0 : List Nat} {df : List Deferred} {ρ ρ' : Env} {Fs Fs' Fin B : List Hp} {bl bl' : Blks} {sl sl' : List OwnS}
  {K K' : Act → World → Prop} {k : List Item} {ty : TypeId} {G : Hp} {σ α β : Type} {S : Shp σ α β} {Q : Rep α} {E : Rep β}
theorem Cov.backNs (q1 q : Nat) {oa : Option Addr} {om T0 T m sz : Nat} {x x' : List σ} {es : List NE} {cs ics : List Value} {i : Int} {s : σ} {y : List α} {s2 : List OwnS} {e : NE} (hsl : sl = .s (.slice e.a y.length e.k) T m y.length ics :: s2) (h1 : s2[q1]? = some (.s (.slice oa x.length om) T0 sz x.length cs)) (h2 : s2[q]? = some (.g (packG T m (es.set i.toNat NE.nil)))) (hN : NS S Q E G es cs x) (he : es[i.toNat]? = some e) (hx : lidx x i = some s) (hn : y.length = e.n) (ho : OL Q G ics y) (hl : lupd x i (S.set s y) = some x')
    (hk : ∀ es', x'.length = x.length → NS S Q E G es' cs x' → es'.map NE.h = es.map NE.h → Cov nt w0 S0 df ρ Fs bl ((s2.set q1 (.s (.slice oa x'.length om) T0 sz x'.length cs)).set q (.g (packG T m es'))) K) : Cov nt w0 S0 df ρ Fs bl sl K := by
  refine Cov.putN q hsl h2 (NL.hole he) ?_
  have hlen : x'.length = x.length := by obtain ⟨_, _, rfl⟩ := X6y hl; simp
  have hsame : (es.map NE.h).set i.toNat (NE.h ⟨e.a, y.length, e.k, ics⟩) = es.map NE.h := by
    refine X97 ?_
    rw [List.getElem?_map, he]; simp [NE.h, hn]
  have hN' : NS S Q E G (es.set i.toNat ⟨e.a, y.length, e.k, ics⟩) cs x' := hN.set hl (by rw [S.row_set]) (by rw [S.row_set]; exact ho) (by
    rw [S.hd_set, X97]
    · exact hN.1
    · rw [Xh9 he (X45 hx).2.2]; simp [NE.h, hn])
  have hk' := hk _ hlen hN' (by rw [List.map_set]; exact hsame)
  have hs : s2.set q1 (.s (.slice oa x'.length om) T0 sz x'.length cs) = s2 := by rw [hlen]; exact X97 h1
  rw [hs] at hk'
  rw [List.set_set]
  exact hk'
theorem Cov.storeS (q off : Nat) {oa : Option Addr} {om T0 sz : Nat} {x x' : List σ} {es : List NE} {cs dc : List Value} {i : Int} {s s' : σ} {t : TypeId} {px u : Operand} {p v : Value} {agg : Bool} {bytes : Nat} {z : List Value} {e : NE} (hs : Stp P K' ⟨none, .store t px u, ty, none⟩ K)
    (h1 : sl[q]? = some (.s (.slice oa x.length om) T0 sz x.length cs)) (hsz : sz = E.sz) (hN : NS S Q E G es cs x) (he : es[i.toNat]? = some e) (hi : lidx x i = some s) (hr : S.row s' = S.row s) (hl : lupd x i s' = some x')
    (hx : ev ρ px = some p) (hp : PtrO p oa x.length om i.toNat sz off) (hu : ev ρ u = some v) (ht : TyI P t agg (cellsL v).length bytes z) (hd : Elem sz cs i.toNat dc)
    (hy : E.r G (dc.take off ++ cellsL v ++ dc.drop (off + (cellsL v).length)) (S.hd s' (e.a, (S.row s).length, e.k))) (h1c : (cellsL v).all (·.oneCell') = true) (hfit : Nat.ble (off + (cellsL v).length) sz = true)
    (hk : ∀ cs', x'.length = x.length → NS S Q E G es cs' x' → Cov nt w0 S0 df ρ Fs bl (sl.set q (.s (.slice oa x'.length om) T0 sz x'.length cs')) K) : Cov nt w0 S0 df ρ Fs bl sl K' := by
  have e1 : x.length = (hds S es x).length := (Xcj hN.2.1).symm
  have hlen : x'.length = x.length := by obtain ⟨_, _, rfl⟩ := X6y hl; simp
  obtain ⟨hi0, hil, _⟩ := X6y hl
  obtain ⟨hn, ho⟩ := hN.2.2 _ _ _ he (X45 hi).2.2
  refine Cov.storeR q off (Q := E) (y := S.hd s' e.h) (l := hds S es x) (l' := (hds S es x).set i.toNat (S.hd s' e.h)) hs (by rw [h1, e1]) hsz hN.1 ?_ hx (by rw [← e1]; exact hp) hu ht hd ?_ h1c hfit fun cs' hll ho' => ?_
  · unfold lupd; rw [if_pos ⟨hi0, by rw [← e1]; exact hil⟩]
  · rw [← hn] at hy; exact hy
  · have hN' : NS S Q E G (es.set i.toNat e) cs' x' := hN.set hl (by rw [hr]; exact hn) (by rw [hr]; exact ho) ho'
    rw [X97 he] at hN'
    have hk' := hk cs' hlen hN'
    have e2 : ((hds S es x).set i.toNat (S.hd s' e.h)).length = x'.length := by rw [List.length_set, ← e1, hlen]
    rw [e2]; exact hk'
theorem Cov.appNs (q q2 : Nat) {d : Nat} {t e : TypeId} {s x : Operand} {a a2 : Option Addr} {m m2 T T2 mm sz : Nat} {l l2 l' : List σ} {es es2 : List NE} {cs cs2 : List Value} {agg : Bool} {bytes : Nat} {z : List Value} {s2 : List OwnS}
    (hs : Stp P K' ⟨some d, .call ⟨.builtin .append, #[s, x], #[t, t]⟩, ty, none⟩ K) (ht : slOf P t = some e) (hel : TyI P e agg sz bytes z) (hz : z.length = sz) (h0 : Nat.blt 0 sz = true) (hsz : sz = E.sz) (hby : Nat.ble bytes 8388608 = true)
    (hsl : sl = .s (.slice a2 l2.length m2) T2 sz l2.length cs2 :: .g (packG T mm es2) :: s2) (hi : s2[q]? = some (.s (.slice a l.length m) e sz l.length cs)) (hi2 : s2[q2]? = some (.g (packG T mm es))) (hq : (q == q2) = false) (ho : NS S Q E G es cs l) (ho2 : NS S Q E G es2 cs2 l2)
    (he : ev ρ s = some (.slice a l.length m)) (hx : ev ρ x = some (.slice a2 l2.length m2)) (hl : lapp l l2 = some l') (hd : Nat.blt d nt = true) (hB : Bd w0 S0 B G)
    (hk : ∀ a' m' cs', NS S Q E G (es ++ es2) cs' l' → Cov nt w0 S0 df ((d, .slice a' l'.length m') :: ρ) (G :: B) bl ((s2.set q (.s (.slice a' l'.length m') e sz l'.length cs')).set q2 (.g (packG T mm (es ++ es2)))) K) : Cov nt w0 S0 df ρ (G :: B) bl sl K' := by
  subst hsl
  have hq' : q ≠ q2 := by simpa using hq
  have e1 : l.length = (hds S es l).length := (Xcj ho.2.1).symm
  have e2 : l2.length = (hds S es2 l2).length := (Xcj ho2.2.1).symm
  obtain ⟨hb, rfl⟩ := Xab hl
  refine Cov.appO (q + 1) (Q := E) (l := hds S es l) (l2 := hds S es2 l2) (l' := hds S es l ++ hds S es2 l2) hs ht hel hz h0 hby rfl (by rw [← e1]; exact hi) hsz ho.1 ho2.1 e2 (by rw [← e1]; exact he) hx hB ?_ hd fun a' m' cs' ho' => ?_
  · unfold lapp; rw [if_pos (by rw [← e1, ← e2]; exact hb)]
  · have e3 : (hds S es l ++ hds S es2 l2).length = (l ++ l2).length := by rw [List.length_append, ← e1, ← e2, List.length_append]
    rw [e3]
    refine Cov.same rfl (show _ = (OwnS.g (packG T mm es2)) :: s2.set q (.s (.slice a' (l ++ l2).length m') e sz (l ++ l2).length cs') from rfl) rfl ?_
    exact Cov.packApp q2 rfl (by rw [List.getElem?_set_ne hq']; exact hi2) (hk a' m' cs' (ho.app ho2 ho'))
theorem SlR.rdNs {G' : Hp} {a : Option Addr} {kk T0 T m sz : Nat} {x : List σ} {es : List NE} {cs : List Value} (Pr : Rep σ) (hP : ∀ (G' : Hp) (c : List Value) (s : σ) (h : Option Addr × Nat × Nat), E.r G' c (S.hd s h) → h.2.1 = (S.row s).length → SlR Q G' h.1 h.2.2 (S.row s) → Pr.r G' c s) (hN : NS S Q E G es cs x) (hm : m = Q.sz) (hsz : sz = E.sz) (hps : Pr.sz = E.sz) (hle : HpLe G G') (h1 : Rd (.s (.slice a x.length kk) T0 sz x.length cs) G') (h2 : Rd (.g (packG T m es)) G') : SlR Pr G' a kk x := by
  have h3 : OL Pr G' cs x := by
    obtain ⟨⟨hb, xs, rfl, h3, h4⟩, h5, h6⟩ := hN
    rw [Xcj h5] at hb
    refine ⟨hb, xs, rfl, fun c hc => (h3 c hc).trans hps.symm, by rw [h4.1, Xcj h5], fun i c s hc hs => ?_⟩
    have hlt : i < es.length := by rw [h5]; exact (List.getElem?_eq_some_iff.1 hs).1
    have he : es[i]? = some es[i] := List.getElem?_eq_getElem hlt
    obtain ⟨hn, ho⟩ := h6 i _ s he hs
    have hc' := h4.2 i c (S.hd s es[i].h) hc (Xh9 he hs)
    have hr := h2.entry (List.getElem_mem hlt)
    unfold NE.s at hr
    rw [hn] at hr
    refine hP G' c s _ (E.mono hle hc') hn (SlR.rd ho hm hle hr)
  exact SlR.rd h3 (hsz.trans hps.symm) (HpLe.refl _) h1
theorem Cov.freezeNs {a : Option Addr} {kk T0 T m sz : Nat} {x : List σ} {es : List NE} {cs : List Value} {s2 : List OwnS} (Pr : Rep σ) (hP : ∀ (G' : Hp) (c : List Value) (s : σ) (h : Option Addr × Nat × Nat), E.r G' c (S.hd s h) → h.2.1 = (S.row s).length → SlR Q G' h.1 h.2.2 (S.row s) → Pr.r G' c s) (hsl : sl = .s (.slice a x.length kk) T0 sz x.length cs :: .g (packG T m es) :: s2) (hN : NS S Q E G es cs x) (hm : m = Q.sz) (hsz : sz = E.sz) (hps : Pr.sz = E.sz) (hB : Bd w0 S0 B G)
    (hk : ∀ G', HpLe G G' → Bd w0 S0 B G' → SlR Pr G' a kk x → Cov nt w0 S0 df ρ (G' :: B) bl s2 K) : Cov nt w0 S0 df ρ (G :: B) bl sl K := fun aa w hf hi => by
  subst hsl
  have hi' : Inv w0 S0 (G :: B) bl ([] ++ ([.s (.slice a x.length kk) T0 sz x.length cs, .g (packG T m es)] ++ s2)) w := hi
  obtain ⟨G', hle, hrd, hi2, hbd, _⟩ := hi'.lendB
  refine Cov.less (Fs' := G' :: B) ?_ (hk G' hle (hbd B hB) (SlR.rdNs Pr hP hN hm hsz hps hle (hrd _ List.mem_cons_self) (hrd _ (List.mem_cons_of_mem _ List.mem_cons_self)))) aa w hf hi2
  intro F hF
  rcases List.mem_cons.1 hF with rfl | hF
  · exact List.mem_cons_self
  · exact List.mem_cons_of_mem _ (List.mem_cons_of_mem _ hF)
def ClsO (Fs : List Hp) (bl : Blks) (sl : List OwnS) : World → Prop := fun w => Mem Fs bl sl w
theorem ClsO.of_le {w : World} {G0 : Hp} {bl0 : Blks} {sl0 : List OwnS} (h : Inv w0 S0 Fs bl sl w) (h1 : ∃ G ∈ Fs, HpLe G0 G) (h2 : ∀ p ∈ bl0, p ∈ bl) (h3 : ∀ s ∈ sl0, s ∈ sl) : ClsO [G0] bl0 sl0 w :=
  ⟨fun F hF => by
    obtain ⟨G, hG, hle⟩ := h1
    rcases List.mem_cons.1 hF with rfl | hF
    · exact fun b o hb => h.mem.fs G hG b o (hle b o hb)
    · exact absurd hF (List.not_mem_nil), fun p hp => h.mem.own p (h2 p hp), fun s hs => h.mem.slh s (h3 s hs)⟩
theorem Cov.mv {d : Nat} {x : Operand} {v : Value} {os : List OpX} (hx : ev ρ x = some v) (hd : Nat.blt d nt = true) (h : Cov nt w0 S0 df ((d, v) :: ρ) Fs bl sl (RO P c R os k)) : Cov nt w0 S0 df ρ Fs bl sl (RO P c R (⟨some d, .move x, ty, none⟩ :: os) k) := Cov.q .ro (.move hx) hd h
theorem Cov.av {d : Nat} {x : Operand} {v : Value} {os : List OpX} (hx : ev ρ x = some v) (hd : Nat.blt d nt = true) (h : Cov nt w0 S0 df ((d, v) :: ρ) Fs bl sl (RO P c R os k)) : Cov nt w0 S0 df ρ Fs bl sl (RO P c R (⟨some d, .assign x, ty, none⟩ :: os) k) := Cov.q .ro (.assign hx) hd h
theorem Cov.re (h : Cov nt w0 S0 df ρ Fs bl sl (Run P c R k)) : Cov nt w0 S0 df ρ Fs bl sl (RO P c R [] k) := Cov.region_end h
theorem Cov.arr {ρ' : Env} (h : Cov nt w0 S0 df ρ' Fs bl sl K) (hs : Sub ρ ρ') : Cov nt w0 S0 df ρ Fs bl sl K := Cov.prune _ hs (Cov.same rfl rfl rfl h)
abbrev ri : Rep Int := Rep.int .i64
theorem mcs {β : Type} {x : β} {l : List β} : x ∈ x :: l := List.mem_cons_self
theorem mcm {G : Hp} {Fs : List Hp} : ∀ F, F ∈ Fs → F ∈ G :: Fs := fun _ h => List.mem_cons_of_mem _ h
end
end Go.Proofs.YtmfppphlhgneeaaGreat
end

section
namespace Go.Proofs.YtmfppphlhgneeaaGreat
open Go.RowKit
structure GoN (n : Nat) (A B : Prop) : Prop where
  go : A → B
theorem GoN.done {A : Prop} : GoN 0 A A := ⟨id⟩
theorem GoN.step {n : Nat} {A B C : Prop} (f : B → C) (h : GoN n A B) : GoN (n + 1) A C := ⟨fun a => f (h.go a)⟩
class TyC (P : Program) (t : TypeId) (agg : outParam Bool) (sz bytes : outParam Nat) (z : outParam (List Value)) : Prop where
  o : TyI P t agg sz bytes z
class SlC (P : Program) (t : TypeId) (e : outParam TypeId) : Prop where
  o : slOf P t = some e
class FlC (P : Program) (t : TypeId) (n : Nat) (o : outParam Nat) (e : outParam TypeId) : Prop where
  o : fldOf P t n = some (o, e)
def lits : List Nat := [0, 1, 2, 3, 4, 5, 6, 7, 8, 9, 10, 11, 12, 13, 14, 15, 16, 17, 18, 19, 20]
theorem Xmu {i j : Nat} (h : lits[i]? = some j) : i = j := by
  have : i < 21 := by
    rcases Nat.lt_or_ge i 21 with h1 | h1
    · exact h1
    · rw [List.getElem?_eq_none (by simpa [lits] using h1)] at h; cases h
  have key : ∀ i, i < 21 → lits[i]? = some i := by decide
  rw [key i this] at h
  exact Option.some.inj h
section
variable {P : Program} {c : Cx} {R : Value → World → Prop} {nt : Nat} {w0 : World} {S0 : List Nat} {df : List Deferred} {ρ ρ' : Env} {Fs Fs' : List Hp} {bl bl' : Blks} {sl sl' : List OwnS}
  {K K' : Act → World → Prop} {k : List Item} {ty : TypeId} {n : Nat} {A : Prop} {o : List OpX} {C : World → Prop} {x : OX}
theorem GoN.run (h : GoN n A (Cov nt w0 S0 df ρ Fs bl sl (Run P c R k))) : GoN n A (Cov nt w0 S0 df ρ Fs bl sl (Run P c R k)) := h
theorem GoN.ro (h : GoN n A (Cov nt w0 S0 df ρ Fs bl sl (RO P c R o k))) : GoN n A (Cov nt w0 S0 df ρ Fs bl sl (RO P c R o k)) := h
theorem GoN.d (h : GoN n A (Cov nt w0 S0 df ρ Fs bl sl (DO P c R C x k))) : GoN n A (Cov nt w0 S0 df ρ Fs bl sl (DO P c R C x k)) := h
structure QW (P : Program) (ρ : Env) (bl : Blks) (op : Op) (v : Value) : Prop where
  q : ∀ Fs sl ty, QOp P ρ Fs bl sl op ty v
theorem QW.mv {x : Operand} {v : Value} (hx : ev ρ x = some v) : QW P ρ bl (.move x) v := ⟨fun _ _ _ => .move hx⟩
theorem QW.av {x : Operand} {v : Value} (hx : ev ρ x = some v) : QW P ρ bl (.assign x) v := ⟨fun _ _ _ => .assign hx⟩
theorem QW.pt {x y z : Operand} {v : Value} (hx : ev ρ x = some (.bool true)) (hy : ev ρ y = some v) : QW P ρ bl (.pick x y z) v := ⟨fun _ _ _ => .pick_t hx hy⟩
theorem QW.pf {x y z : Operand} {v : Value} (hx : ev ρ x = some (.bool false)) (hz : ev ρ z = some v) : QW P ρ bl (.pick x y z) v := ⟨fun _ _ _ => .pick_f hx hz⟩
theorem QW.add {t u : TypeId} {x y : Operand} {k : IntKind} {m n : Int} (hx : ev ρ x = some (.int k m)) (hy : ev ρ y = some (.int k n)) : QW P ρ bl (.binOp .add t x y u) (.int k (k.wrap (m + n))) := ⟨fun _ _ _ => .addw hx hy⟩
theorem QW.sub {t u : TypeId} {x y : Operand} {k : IntKind} {m n : Int} (hx : ev ρ x = some (.int k m)) (hy : ev ρ y = some (.int k n)) : QW P ρ bl (.binOp .sub t x y u) (.int k (k.wrap (m - n))) := ⟨fun _ _ _ => .subw hx hy⟩
theorem QW.mul {t u : TypeId} {x y : Operand} {k : IntKind} {m n : Int} (hx : ev ρ x = some (.int k m)) (hy : ev ρ y = some (.int k n)) : QW P ρ bl (.binOp .mul t x y u) (.int k (k.wrap (m * n))) := ⟨fun _ _ _ => .mulw hx hy⟩
theorem QW.lss {t u : TypeId} {x y : Operand} {k : IntKind} {m n : Int} (hx : ev ρ x = some (.int k m)) (hy : ev ρ y = some (.int k n)) : QW P ρ bl (.binOp .lss t x y u) (.bool (decide (m < n))) := ⟨fun _ _ _ => .lss hx hy⟩
theorem QW.leq {t u : TypeId} {x y : Operand} {k : IntKind} {m n : Int} (hx : ev ρ x = some (.int k m)) (hy : ev ρ y = some (.int k n)) : QW P ρ bl (.binOp .leq t x y u) (.bool (decide (m ≤ n))) := ⟨fun _ _ _ => .leq hx hy⟩
theorem QW.gtr {t u : TypeId} {x y : Operand} {k : IntKind} {m n : Int} (hx : ev ρ x = some (.int k m)) (hy : ev ρ y = some (.int k n)) : QW P ρ bl (.binOp .gtr t x y u) (.bool (decide (n < m))) := ⟨fun _ _ _ => .gtr hx hy⟩
theorem QW.geq {t u : TypeId} {x y : Operand} {k : IntKind} {m n : Int} (hx : ev ρ x = some (.int k m)) (hy : ev ρ y = some (.int k n)) : QW P ρ bl (.binOp .geq t x y u) (.bool (decide (n ≤ m))) := ⟨fun _ _ _ => .geq hx hy⟩
theorem QW.eql {t u : TypeId} {x y : Operand} {k : IntKind} {m n : Int} (hx : ev ρ x = some (.int k m)) (hy : ev ρ y = some (.int k n)) : QW P ρ bl (.binOp .eql t x y u) (.bool (decide (m = n))) := ⟨fun _ _ _ => .eql hx hy⟩
theorem QW.neq {t u : TypeId} {x y : Operand} {k : IntKind} {m n : Int} (hx : ev ρ x = some (.int k m)) (hy : ev ρ y = some (.int k n)) : QW P ρ bl (.binOp .neq t x y u) (.bool (decide (m ≠ n))) := ⟨fun _ _ _ => .neq hx hy⟩
theorem QW.not {t : TypeId} {x : Operand} {b : Bool} (hx : ev ρ x = some (.bool b)) : QW P ρ bl (.unOp .not t x) (.bool (!b)) := ⟨fun _ _ _ => .not hx⟩
theorem QW.ex {x : Operand} {vs : List Value} {n : Nat} {v : Value} (hx : ev ρ x = some (.tuple vs.toArray)) (hn : vs[n]? = some v) : QW P ρ bl (.extract x n) v := ⟨fun _ _ _ => .extract hx hn⟩
theorem QW.nc {x : Operand} {v : Value} (hx : ev ρ x = some v) (hv : (match v with | .pointer (some _) => true | .func (.func _) _ _ => true | _ => false) = true) : QW P ρ bl (.nilCheck x) v := ⟨fun _ _ _ => .nilCheck hx hv⟩
theorem QW.len {t : TypeId} {el : TypeId} [h : SlC P t el] {x : Operand} {v : Value} {n : Nat} (hx : ev ρ x = some v) (hl : sLen v = some n) : QW P ρ bl (.call ⟨.builtin .len, #[x], #[t]⟩) (.int .i64 n) := ⟨fun _ _ _ => .len_sl hx hl h.o⟩
theorem QW.fa {s : TypeId} {x : Operand} {n b o off o' m : Nat} {ft : TypeId} [hf : FlC P s n off ft] {agg : Bool} {bytes : Nat} {z : List Value} [ht : TyC P ft agg (m + 1) bytes z] (hx : ev ρ x = some (.pointer (some ⟨b, o, none⟩))) (ho : lits[o + off]? = some o') :
    QW P ρ bl (.fieldAddr s x n) (.pointer (some ⟨b, o', none⟩)) := ⟨fun _ _ _ => .fieldAddr o' hx hf.o ht.o.sz (Xmu ho)⟩
theorem QW.lo (i : Nat) {t : TypeId} {x : Operand} {b o : Nat} {cs : List Value} {T : TypeId} {fz : Nat × Nat} {v : Value} (hx : ev ρ x = some (.pointer (some ⟨b, o, none⟩))) (h : bl[i]? = some (b, .cells cs.toArray T fz))
    {sz bytes : Nat} {z : List Value} [ht : TyC P t false sz bytes z] (hv : cs[o]? = some v) : QW P ρ bl (.load t x) v := ⟨fun _ _ _ => .load_own i hx h ht.o hv⟩
theorem Cov.qr {d : Nat} {op : Op} {v : Value} {os : List OpX} (h : QW P ρ bl op v) (hd : Nat.blt d nt = true) (hk : Cov nt w0 S0 df ((d, v) :: ρ) Fs bl sl (RO P c R os k)) : Cov nt w0 S0 df ρ Fs bl sl (RO P c R (⟨some d, op, ty, none⟩ :: os) k) := Cov.q .ro (h.q _ _ _) hd hk
theorem Cov.qd {d : Nat} {op : Op} {v : Value} {Fs0 : List Hp} {bl0 : Blks} {os : OX} (h : QW P ρ bl0 op v) (hd : Nat.blt d nt = true) (hk : Cov nt w0 S0 df ((d, v) :: ρ) Fs bl sl (DO P c R (Cls Fs0 bl0) os k)) :
    Cov nt w0 S0 df ρ Fs bl sl (DO P c R (Cls Fs0 bl0) (.q ⟨some d, op, ty, none⟩ os) k) := Cov.dq (h.q _ _ _) hd hk
theorem Cov.go (n : Nat) (h : Cov nt w0 S0 df ρ' Fs' bl' sl' K') (g : GoN n (Cov nt w0 S0 df ρ' Fs' bl' sl' K') (Cov nt w0 S0 df ρ Fs bl sl K) := by
    repeat (first
      | exact GoN.done
      | ((with_reducible refine GoN.run ?_); first | refine GoN.step Cov.seq ?_ | refine GoN.step (fun h => Cov.region rfl h) ?_ | refine GoN.step Cov.skip ?_ | refine GoN.step Cov.inBlock ?_)
      | ((with_reducible refine GoN.ro ?_); first | refine GoN.step (fun h => Cov.qr (by first | exact .mv rfl | exact .av rfl | exact .ex rfl rfl | exact .fa rfl rfl | exact .lo 0 rfl rfl rfl | exact .lo 1 rfl rfl rfl | exact .lo 2 rfl rfl rfl | exact .lo 3 rfl rfl rfl | exact .lo 4 rfl rfl rfl | exact .lo 5 rfl rfl rfl | exact .pt rfl rfl | exact .pf rfl rfl | exact .len rfl rfl | exact .add rfl rfl | exact .lss rfl rfl | exact .neq rfl rfl | exact .gtr rfl rfl | exact .not rfl | exact .sub rfl rfl | exact .geq rfl rfl | exact .mul rfl rfl | exact .eql rfl rfl | exact .leq rfl rfl | exact .nc rfl rfl) rfl h) ?_ | refine GoN.step (fun h => Cov.g_on rfl h) ?_ | refine GoN.step (fun h => Cov.g_off rfl rfl rfl h) ?_ | refine GoN.step Cov.re ?_)
      | ((with_reducible refine GoN.d ?_); first | refine GoN.step (fun h => Cov.qd (by first | exact .mv rfl | exact .av rfl | exact .ex rfl rfl | exact .fa rfl rfl | exact .lo 0 rfl rfl rfl | exact .lo 1 rfl rfl rfl | exact .lo 2 rfl rfl rfl | exact .lo 3 rfl rfl rfl | exact .lo 4 rfl rfl rfl | exact .lo 5 rfl rfl rfl | exact .pt rfl rfl | exact .pf rfl rfl | exact .len rfl rfl | exact .add rfl rfl | exact .lss rfl rfl | exact .neq rfl rfl | exact .gtr rfl rfl | exact .not rfl | exact .sub rfl rfl | exact .geq rfl rfl | exact .mul rfl rfl | exact .eql rfl rfl | exact .leq rfl rfl | exact .nc rfl rfl) rfl h) ?_ | refine GoN.step Cov.draw_end ?_))) : Cov nt w0 S0 df ρ Fs bl sl K := g.go h
theorem Cov.gn (n : Nat) (h : Cov nt w0 S0 df ρ' Fs' bl' sl' K') (g : GoN n (Cov nt w0 S0 df ρ' Fs' bl' sl' K') (Cov nt w0 S0 df ρ Fs bl sl K) := by
    try dsimp only [List.cons_append, List.nil_append]
    repeat (first
      | exact GoN.done
      | ((with_reducible refine GoN.run ?_); first | refine GoN.step Cov.seq ?_ | refine GoN.step (fun h => Cov.region rfl h) ?_ | refine GoN.step Cov.skip ?_ | refine GoN.step Cov.inBlock ?_)
      | ((with_reducible refine GoN.ro ?_); first | refine GoN.step (fun h => Cov.qr (by first | exact .mv rfl | exact .av rfl | exact .ex rfl rfl | exact .fa rfl rfl | exact .lo 0 rfl rfl rfl | exact .lo 1 rfl rfl rfl | exact .lo 2 rfl rfl rfl | exact .lo 3 rfl rfl rfl | exact .lo 4 rfl rfl rfl | exact .lo 5 rfl rfl rfl | exact .pt rfl rfl | exact .pf rfl rfl | exact .len rfl rfl | exact .add rfl rfl | exact .lss rfl rfl | exact .neq rfl rfl | exact .gtr rfl rfl | exact .not rfl | exact .sub rfl rfl | exact .geq rfl rfl | exact .mul rfl rfl | exact .eql rfl rfl | exact .leq rfl rfl | exact .nc rfl rfl) rfl h) ?_ | refine GoN.step (fun h => Cov.g_on rfl h) ?_ | refine GoN.step (fun h => Cov.g_off rfl rfl rfl h) ?_ | refine GoN.step Cov.re ?_)
      | ((with_reducible refine GoN.d ?_); first | refine GoN.step (fun h => Cov.qd (by first | exact .mv rfl | exact .av rfl | exact .ex rfl rfl | exact .fa rfl rfl | exact .lo 0 rfl rfl rfl | exact .lo 1 rfl rfl rfl | exact .lo 2 rfl rfl rfl | exact .lo 3 rfl rfl rfl | exact .lo 4 rfl rfl rfl | exact .lo 5 rfl rfl rfl | exact .pt rfl rfl | exact .pf rfl rfl | exact .len rfl rfl | exact .add rfl rfl | exact .lss rfl rfl | exact .neq rfl rfl | exact .gtr rfl rfl | exact .not rfl | exact .sub rfl rfl | exact .geq rfl rfl | exact .mul rfl rfl | exact .eql rfl rfl | exact .leq rfl rfl | exact .nc rfl rfl) rfl h) ?_ | refine GoN.step Cov.draw_end ?_))) : Cov nt w0 S0 df ρ Fs bl sl K := g.go h
theorem RetS.st {f : FuncId} {fn : Func} {code : Code} {vs : List Value} {bin : Blks} {sin : List OwnS} {Q : Value → Blks → List OwnS → Prop} {G : Hp} (ρ0 : Env) (hf : P.funcs[f]? = some fn) (hn : fn.ntmps = nt) (hG : G ∈ Fs)
    (h : ∀ w0 S0, S0 = blks bin sin → Bd w0 S0 Fs G → Cov nt w0 S0 [] ρ0 (G :: Fs) bin sin (Run P ⟨f, none⟩ (RP w0 S0 Fs (fun v _ bl sl => Q v bl sl)) [.code code])) (hρ : ArgsOk vs ρ0 := by repeat (first | exact trivial | refine ⟨rfl, ?_⟩)) (hb : fn.body = some code := by rfl) (hlen : Nat.ble vs.length nt = true := by rfl) : RetS P f vs.toArray Fs bin sin Q :=
  RetS.of hf hb hn ρ0 hρ hlen hG h
theorem RetW.st {f : FuncId} {fn : Func} {code : Code} {vs : List Value} {bin : Blks} {sin : List OwnS} {Q : Value → Blks → List OwnS → Hp → Prop} {G : Hp} (ρ0 : Env) (hf : P.funcs[f]? = some fn) (hn : fn.ntmps = nt) (hG : G ∈ Fs)
    (h : ∀ w0 S0, S0 = blks bin sin → Bd w0 S0 Fs G → Cov nt w0 S0 [] ρ0 (G :: Fs) bin sin (Run P ⟨f, none⟩ (RP w0 S0 Fs (fun v Fr bl sl => ∀ G', Ext (Fr :: Fs) G' → Q v bl sl G')) [.code code])) (hρ : ArgsOk vs ρ0 := by repeat (first | exact trivial | refine ⟨rfl, ?_⟩)) (hb : fn.body = some code := by rfl) (hlen : Nat.ble vs.length nt = true := by rfl) : RetW P f vs.toArray Fs bin sin Q :=
  RetW.of hf hb hn ρ0 hρ hlen hG h
abbrev rv (x : Value) : Value → Blks → List OwnS → Prop := fun v bo so => v = x ∧ bo = [] ∧ so = []
section
variable {d : Nat} {f : FuncId} {fop : Operand} {args : Array Operand} {ts : Array TypeId} {os : List OpX} {ot : OX}
theorem Cov.cS (vs : List Value) {Q : Value → Blks → List OwnS → Prop} (hcall : ∀ args w, (callFunc f args).run P w = .ok (.enter f args) w) (hr : RetS P f (vs ++ []).toArray Fs [] [] Q)
    (hk : ∀ v bo so, Q v bo so → Cov nt w0 S0 df ((d, v) :: ρ) Fs (bo ++ bl) (so ++ sl) (RO P c R os k)) (hf : ev ρ fop = some (.func (.func f) #[] #[]) := by rfl) (ha : args.toList.map (ev ρ) = vs.map some := by rfl) (hd : Nat.blt d nt = true := by rfl) :
    Cov nt w0 S0 df ρ Fs bl sl (RO P c R (⟨some d, .call ⟨.value fop, args, ts⟩, ty, none⟩ :: os) k) := Cov.callS (b1 := []) (s1 := []) vs [] .ro hf ha hcall rfl rfl hr hd hk
theorem Cov.cSd (vs : List Value) {Q : Value → Blks → List OwnS → Prop} (hcall : ∀ args w, (callFunc f args).run P w = .ok (.enter f args) w) (hr : RetS P f (vs ++ []).toArray Fs [] [] Q)
    (hk : ∀ v bo so, Q v bo so → Cov nt w0 S0 df ((d, v) :: ρ) Fs (bo ++ bl) (so ++ sl) (fun a w => C w ∧ DO P c R C ot k a w)) (hf : ev ρ fop = some (.func (.func f) #[] #[]) := by rfl) (ha : args.toList.map (ev ρ) = vs.map some := by rfl) (hd : Nat.blt d nt = true := by rfl) :
    Cov nt w0 S0 df ρ Fs bl sl (DO P c R C (.e ⟨some d, .call ⟨.value fop, args, ts⟩, ty, none⟩ 1 ot) k) := Cov.callS (b1 := []) (s1 := []) vs [] .d1 hf ha hcall rfl rfl hr hd hk
theorem Cov.cV (vs : List Value) {v : Value} (hcall : ∀ args w, (callFunc f args).run P w = .ok (.enter f args) w) (hr : RetS P f (vs ++ []).toArray Fs [] [] (rv v))
    (hk : Cov nt w0 S0 df ((d, v) :: ρ) Fs bl sl (RO P c R os k)) (hf : ev ρ fop = some (.func (.func f) #[] #[]) := by rfl) (ha : args.toList.map (ev ρ) = vs.map some := by rfl) (hd : Nat.blt d nt = true := by rfl) :
    Cov nt w0 S0 df ρ Fs bl sl (RO P c R (⟨some d, .call ⟨.value fop, args, ts⟩, ty, none⟩ :: os) k) := Cov.cS vs hcall hr (fun v' bo so h => by obtain ⟨rfl, rfl, rfl⟩ := h; exact hk) hf ha hd
theorem Cov.cVd (vs : List Value) {v : Value} (hcall : ∀ args w, (callFunc f args).run P w = .ok (.enter f args) w) (hr : RetS P f (vs ++ []).toArray Fs [] [] (rv v))
    (hk : Cov nt w0 S0 df ((d, v) :: ρ) Fs bl sl (fun a w => C w ∧ DO P c R C ot k a w)) (hf : ev ρ fop = some (.func (.func f) #[] #[]) := by rfl) (ha : args.toList.map (ev ρ) = vs.map some := by rfl) (hd : Nat.blt d nt = true := by rfl) :
    Cov nt w0 S0 df ρ Fs bl sl (DO P c R C (.e ⟨some d, .call ⟨.value fop, args, ts⟩, ty, none⟩ 1 ot) k) := Cov.cSd vs hcall hr (fun v' bo so h => by obtain ⟨rfl, rfl, rfl⟩ := h; exact hk) hf ha hd
theorem Cov.cW {G : Hp} {B : List Hp} (vs : List Value) {Q : Value → Blks → List OwnS → Hp → Prop} (hcall : ∀ args w, (callFunc f args).run P w = .ok (.enter f args) w) (hr : RetW P f (vs ++ []).toArray (G :: B) [] [] Q) (hB : Bd w0 S0 B G)
    (hk : ∀ v bo so G', HpLe G G' → Bd w0 S0 B G' → Q v bo so G' → Cov nt w0 S0 df ((d, v) :: ρ) (G' :: B) (bo ++ bl) (so ++ sl) (RO P c R os k)) (hf : ev ρ fop = some (.func (.func f) #[] #[]) := by rfl) (ha : args.toList.map (ev ρ) = vs.map some := by rfl) (hd : Nat.blt d nt = true := by rfl) :
    Cov nt w0 S0 df ρ (G :: B) bl sl (RO P c R (⟨some d, .call ⟨.value fop, args, ts⟩, ty, none⟩ :: os) k) := Cov.callW (b1 := []) (s1 := []) vs [] .ro hf ha hcall rfl rfl hr hd hB hk
end
section
variable {fn : Func} {items : List Item} {Fin : List Hp} {G : Hp}
theorem Cov.rS (rs : List ResultVar) (vs : List Value) {Q : Value → Blks → List OwnS → Prop} (hf : P.funcs[c.fn]? = some fn) (hrs : fn.results = rs.toArray) (hpost : Q (retVal vs) bl sl)
    (hit : items = [] ∨ ∃ k, items = .code .ret :: k := by first | exact .inr ⟨_, rfl⟩ | exact .inl rfl) (hro : c.ro = none := by rfl) (hres : RVs P ρ Fs bl sl rs vs := by repeat (first | exact trivial | refine ⟨RV.tmp rfl, ?_⟩)) (hsub : ∀ F ∈ Fin, F ∈ Fs := by exact fun _ h => List.mem_cons_of_mem _ h) :
    Cov nt w0 S0 [] ρ Fs bl sl (Run P c (RP w0 S0 Fin (fun v _ bl sl => Q v bl sl)) items) := Cov.retS hit rs vs hro hf hrs hres hsub hpost
theorem Cov.rW (n : Nat) (rs : List ResultVar) (vs : List Value) {B : List Nat} {Q : Value → Blks → List OwnS → Hp → Prop} (hf : P.funcs[c.fn]? = some fn) (hrs : fn.results = rs.toArray) (hres : RVs P ρ (G :: Fs) bl sl rs vs) (hbd : Bd w0 S0 Fin G) (hS0 : S0 = B)
    (hpost : ∀ G', HpLe G G' → Q (retVal vs) (bl.drop n) sl G') (hit : items = [] ∨ ∃ k, items = .code .ret :: k := by first | exact .inr ⟨_, rfl⟩ | exact .inl rfl) (hro : c.ro = none := by rfl) (hsub : ∀ F ∈ Fin, F ∈ G :: Fs := by exact fun _ h => List.mem_cons_of_mem _ h) (hS : ∀ b ∈ B, b ∈ blks bl sl := by simp [blks]) :
    Cov nt w0 S0 [] ρ (G :: Fs) bl sl (Run P c (RP w0 S0 Fin (fun v Fr bl sl => ∀ G', Ext (Fr :: Fin) G' → Q v bl sl G')) items) := Cov.retWD n hit rs vs hro hf hrs hres hsub List.mem_cons_self hbd (by subst hS0; exact hS) hpost
end
theorem Cov.cH {α : Type} {x y : Code} {o : Operand} {p : Prop} [Decidable p] {A B r : α} (hr : (if p then A else B) = r) (ht : p → A = r → Cov nt w0 S0 df ρ Fs bl sl (Run P c R (.code x :: k))) (hf : ¬ p → B = r → Cov nt w0 S0 df ρ Fs bl sl (Run P c R (.code y :: k)))
    (hc : ev ρ o = some (.bool (decide p)) := by rfl) : Cov nt w0 S0 df ρ Fs bl sl (Run P c R (.code (.cond o x y) :: k)) := Cov.cond_dec hc (fun h => ht h (ifT hr h)) (fun h => hf h (ifF hr h))
theorem Cov.cB {α : Type} {x y : Code} {o : Operand} {p : Bool} {A B r : α} (hr : (if p = true then A else B) = r) (ht : p = true → A = r → Cov nt w0 S0 df ρ Fs bl sl (Run P c R (.code x :: k))) (hf : p = false → B = r → Cov nt w0 S0 df ρ Fs bl sl (Run P c R (.code y :: k)))
    (hc : ev ρ o = some (.bool p) := by rfl) : Cov nt w0 S0 df ρ Fs bl sl (Run P c R (.code (.cond o x y) :: k)) := Cov.cond hc (fun h => ht h (ifT hr h)) (fun h => hf h (ifBF hr h))
structure Stt where
  e : Env
  f : List Hp
  b : Blks
  s : List OwnS
theorem Cov.ax (h : Cov nt w0 S0 df ρ' Fs' bl' sl' K) (hs : Sub ρ ρ') (h1 : bl = bl' := by rfl) (h2 : sl = sl' := by rfl) (h3 : Fs = Fs' := by rfl) : Cov nt w0 S0 df ρ Fs bl sl K := Cov.prune _ hs (Cov.same h1 h2 h3 h)
theorem Cov.ar (h : Cov nt w0 S0 df ρ' Fs' bl' sl' K) (hs : Sub ρ ρ' := by repeat (first | exact trivial | refine ⟨rfl, ?_⟩)) (h1 : bl = bl' := by rfl) (h2 : sl = sl' := by rfl) (h3 : Fs = Fs' := by rfl) : Cov nt w0 S0 df ρ Fs bl sl K := Cov.ax h hs h1 h2 h3
section
set_option linter.unusedVariables false
variable (J : Stt → Prop) (ρs : Env) (bls : Blks) (ib : List Nat) (sls : List OwnS) (is : List Nat)
theorem Cov.kB {id : Nat} {x : Code} (hk : ∀ y, J y → Cov nt w0 S0 df (y.e ++ ρs) y.f (y.b ++ bls) (y.s ++ sls) (Run P c R k))
    (h : (∀ y, J y → Cov nt w0 S0 df (y.e ++ ρs) y.f (y.b ++ bls) (y.s ++ sls) (Run P c R k)) → Cov nt w0 S0 df ρ Fs bl sl (Run P c R (.code (.block id x) :: k)))
    (hρ : Sub ρ ρs := by repeat (first | exact trivial | refine ⟨rfl, ?_⟩)) (hb : ib.map (bl[·]?) = bls.map some := by rfl) (hs : is.map (sl[·]?) = sls.map some := by rfl) : Cov nt w0 S0 df ρ Fs bl sl (Run P c R (.code (.block id x) :: k)) := h hk
theorem Cov.kI {o : Operand} {x y : Code} (hk : ∀ y, J y → Cov nt w0 S0 df (y.e ++ ρs) y.f (y.b ++ bls) (y.s ++ sls) (Run P c R k))
    (h : (∀ y, J y → Cov nt w0 S0 df (y.e ++ ρs) y.f (y.b ++ bls) (y.s ++ sls) (Run P c R k)) → Cov nt w0 S0 df ρ Fs bl sl (Run P c R (.code (.cond o x y) :: k)))
    (hρ : Sub ρ ρs := by repeat (first | exact trivial | refine ⟨rfl, ?_⟩)) (hb : ib.map (bl[·]?) = bls.map some := by rfl) (hs : is.map (sl[·]?) = sls.map some := by rfl) : Cov nt w0 S0 df ρ Fs bl sl (Run P c R (.code (.cond o x y) :: k)) := h hk
theorem Cov.kG {id : Nat} {ops : Array Oper} {dr : Bool} (hk : ∀ y, J y → Cov nt w0 S0 df (y.e ++ ρs) y.f (y.b ++ bls) (y.s ++ sls) (Run P c R k))
    (h : (∀ y, J y → Cov nt w0 S0 df (y.e ++ ρs) y.f (y.b ++ bls) (y.s ++ sls) (Run P c R k)) → Cov nt w0 S0 df ρ Fs bl sl (Run P c R (.code (.region id ops dr) :: k)))
    (hρ : Sub ρ ρs := by repeat (first | exact trivial | refine ⟨rfl, ?_⟩)) (hb : ib.map (bl[·]?) = bls.map some := by rfl) (hs : is.map (sl[·]?) = sls.map some := by rfl) : Cov nt w0 S0 df ρ Fs bl sl (Run P c R (.code (.region id ops dr) :: k)) := h hk
theorem Cov.kR (n : Nat) {os : List OpX} (hk : ∀ y, J y → Cov nt w0 S0 df (y.e ++ ρs) y.f (y.b ++ bls) (y.s ++ sls) (RO P c R (os.drop n) k))
    (h : (∀ y, J y → Cov nt w0 S0 df (y.e ++ ρs) y.f (y.b ++ bls) (y.s ++ sls) (RO P c R (os.drop n) k)) → Cov nt w0 S0 df ρ Fs bl sl (RO P c R os k))
    (hρ : Sub ρ ρs := by repeat (first | exact trivial | refine ⟨rfl, ?_⟩)) (hb : ib.map (bl[·]?) = bls.map some := by rfl) (hs : is.map (sl[·]?) = sls.map some := by rfl) : Cov nt w0 S0 df ρ Fs bl sl (RO P c R os k) := h hk
theorem Cov.kD (n : Nat) {t : OX} (hk : ∀ y, J y → Cov nt w0 S0 df (y.e ++ ρs) y.f (y.b ++ bls) (y.s ++ sls) (DO P c R C (t.after n) k))
    (h : (∀ y, J y → Cov nt w0 S0 df (y.e ++ ρs) y.f (y.b ++ bls) (y.s ++ sls) (DO P c R C (t.after n) k)) → Cov nt w0 S0 df ρ Fs bl sl (DO P c R C t k))
    (hρ : Sub ρ ρs := by repeat (first | exact trivial | refine ⟨rfl, ?_⟩)) (hb : ib.map (bl[·]?) = bls.map some := by rfl) (hs : is.map (sl[·]?) = sls.map some := by rfl) : Cov nt w0 S0 df ρ Fs bl sl (DO P c R C t k) := h hk
end
theorem Cov.lp (J : Stt → Nat → Prop) (ρs : Env) (bls : Blks) (sls : List OwnS) {x : Code} {y0 : Stt} {m0 : Nat} (hI : J y0 m0)
    (round : ∀ y m, J y m → (∀ z m', J z m' → m' < m → Cov nt w0 S0 df (z.e ++ ρs) (z.f ++ Fs) (z.b ++ bls) (z.s ++ sls) (Run P c R (.inLoop x :: k))) → Cov nt w0 S0 df (y.e ++ ρs) (y.f ++ Fs) (y.b ++ bls) (y.s ++ sls) (Run P c R (.code x :: .inLoop x :: k)))
    (hρ : Sub ρ (y0.e ++ ρs) := by repeat (first | exact trivial | refine ⟨rfl, ?_⟩)) (hF : Fs' = y0.f ++ Fs := by rfl) (hb : bl = y0.b ++ bls := by rfl) (hs : sl = y0.s ++ sls := by rfl) : Cov nt w0 S0 df ρ Fs' bl sl (Run P c R (.code (.loop x) :: k)) :=
  Cov.loop2 (α := Stt × Nat) (fun y => y.1.e) ρs (fun y => y.1.f) (fun y => y.1.b) bls (fun y => y.1.s) sls (fun y => J y.1 y.2) (fun y => y.2) (y0, m0) hI hρ hF hb hs fun y hy hz => round y.1 y.2 hy fun z m' h1 h2 => hz (z, m') h1 h2
end
end Go.Proofs.YtmfppphlhgneeaaGreat
end

section
set_option maxHeartbeats 4000000
set_option maxRecDepth 100000
namespace Go.Proofs.YtmfppphlhgneeaaGreat
open Go.RowKit
set_option linter.unusedSimpArgs false
set_option linter.unusedVariables false
set_option synthInstance.maxSize 2000
set_option synthInstance.maxHeartbeats 400000
variable {Fs : List Hp} {G : Hp} {a0_1 a0 a0_3 a1 a3 a2_1 a2_3 : Option Addr} {k0_1 k0 k0_3 k1 k3 k2_1 k2_3 : Nat} {p2 p1 : Value}
theorem ty3 : TyI Tryz.prog 3 false 1 8 [.int .i64 0] := ⟨by kernel_rfl, by kernel_rfl, by kernel_rfl, by kernel_rfl⟩
instance : TyC Tryz.prog 3 false 1 8 [.int .i64 0] := ⟨ty3⟩
theorem ty4 : TyI Tryz.prog 4 false 1 1 [.bool false] := ⟨by kernel_rfl, by kernel_rfl, by kernel_rfl, by kernel_rfl⟩
instance : TyC Tryz.prog 4 false 1 1 [.bool false] := ⟨ty4⟩
theorem ty5 : TyI Tryz.prog 5 false 1 1 [.int .u8 0] := ⟨by kernel_rfl, by kernel_rfl, by kernel_rfl, by kernel_rfl⟩
instance : TyC Tryz.prog 5 false 1 1 [.int .u8 0] := ⟨ty5⟩
theorem ty9 : TyI Tryz.prog 9 false 1 16 [.string ⟨#[]⟩] := ⟨by kernel_rfl, by kernel_rfl, by kernel_rfl, by kernel_rfl⟩
instance : TyC Tryz.prog 9 false 1 16 [.string ⟨#[]⟩] := ⟨ty9⟩
theorem ty22 : TyI Tryz.prog 22 false 1 24 [.slice none 0 0] := ⟨by kernel_rfl, by kernel_rfl, by kernel_rfl, by kernel_rfl⟩
instance : TyC Tryz.prog 22 false 1 24 [.slice none 0 0] := ⟨ty22⟩
theorem ty26 : TyI Tryz.prog 26 false 1 24 [.slice none 0 0] := ⟨by kernel_rfl, by kernel_rfl, by kernel_rfl, by kernel_rfl⟩
instance : TyC Tryz.prog 26 false 1 24 [.slice none 0 0] := ⟨ty26⟩
theorem ty28 : TyI Tryz.prog 28 true 2 32 [.int .i64 0, .slice none 0 0] := ⟨by kernel_rfl, by kernel_rfl, by kernel_rfl, by kernel_rfl⟩
instance : TyC Tryz.prog 28 true 2 32 [.int .i64 0, .slice none 0 0] := ⟨ty28⟩
theorem ty29 : TyI Tryz.prog 29 false 1 24 [.slice none 0 0] := ⟨by kernel_rfl, by kernel_rfl, by kernel_rfl, by kernel_rfl⟩
instance : TyC Tryz.prog 29 false 1 24 [.slice none 0 0] := ⟨ty29⟩
theorem ty31 : TyI Tryz.prog 31 true 4 64 [.int .i64 0, .slice none 0 0, .int .i64 0, .slice none 0 0] := ⟨by kernel_rfl, by kernel_rfl, by kernel_rfl, by kernel_rfl⟩
instance : TyC Tryz.prog 31 true 4 64 [.int .i64 0, .slice none 0 0, .int .i64 0, .slice none 0 0] := ⟨ty31⟩
theorem ty32 : TyI Tryz.prog 32 false 1 24 [.slice none 0 0] := ⟨by kernel_rfl, by kernel_rfl, by kernel_rfl, by kernel_rfl⟩
instance : TyC Tryz.prog 32 false 1 24 [.slice none 0 0] := ⟨ty32⟩
theorem ty36 : TyI Tryz.prog 36 true 1 8 [.int .i64 0] := ⟨by kernel_rfl, by kernel_rfl, by kernel_rfl, by kernel_rfl⟩
instance : TyC Tryz.prog 36 true 1 8 [.int .i64 0] := ⟨ty36⟩
theorem ty37 : TyI Tryz.prog 37 false 1 24 [.slice none 0 0] := ⟨by kernel_rfl, by kernel_rfl, by kernel_rfl, by kernel_rfl⟩
instance : TyC Tryz.prog 37 false 1 24 [.slice none 0 0] := ⟨ty37⟩
theorem ty39 : TyI Tryz.prog 39 true 4 48 [.int .i64 0, .int .i64 0, .int .i64 0, .slice none 0 0] := ⟨by kernel_rfl, by kernel_rfl, by kernel_rfl, by kernel_rfl⟩
instance : TyC Tryz.prog 39 true 4 48 [.int .i64 0, .int .i64 0, .int .i64 0, .slice none 0 0] := ⟨ty39⟩
theorem ty40 : TyI Tryz.prog 40 false 1 8 [.int .i64 0] := ⟨by kernel_rfl, by kernel_rfl, by kernel_rfl, by kernel_rfl⟩
instance : TyC Tryz.prog 40 false 1 8 [.int .i64 0] := ⟨ty40⟩
theorem ty46 : TyI Tryz.prog 46 false 1 24 [.slice none 0 0] := ⟨by kernel_rfl, by kernel_rfl, by kernel_rfl, by kernel_rfl⟩
instance : TyC Tryz.prog 46 false 1 24 [.slice none 0 0] := ⟨ty46⟩
theorem ty48 : TyI Tryz.prog 48 false 1 24 [.slice none 0 0] := ⟨by kernel_rfl, by kernel_rfl, by kernel_rfl, by kernel_rfl⟩
instance : TyC Tryz.prog 48 false 1 24 [.slice none 0 0] := ⟨ty48⟩
theorem ty63 : TyI Tryz.prog 63 false 1 24 [.slice none 0 0] := ⟨by kernel_rfl, by kernel_rfl, by kernel_rfl, by kernel_rfl⟩
instance : TyC Tryz.prog 63 false 1 24 [.slice none 0 0] := ⟨ty63⟩
theorem ty69 : TyI Tryz.prog 69 true 2 24 [.string ⟨#[]⟩, .int .i64 0] := ⟨by kernel_rfl, by kernel_rfl, by kernel_rfl, by kernel_rfl⟩
instance : TyC Tryz.prog 69 true 2 24 [.string ⟨#[]⟩, .int .i64 0] := ⟨ty69⟩
theorem ty72 : TyI Tryz.prog 72 true 2 32 [.int .i64 0, .slice none 0 0] := ⟨by kernel_rfl, by kernel_rfl, by kernel_rfl, by kernel_rfl⟩
instance : TyC Tryz.prog 72 true 2 32 [.int .i64 0, .slice none 0 0] := ⟨ty72⟩
theorem ty80 : TyI Tryz.prog 80 true 3 56 [.int .i64 0, .slice none 0 0, .slice none 0 0] := ⟨by kernel_rfl, by kernel_rfl, by kernel_rfl, by kernel_rfl⟩
instance : TyC Tryz.prog 80 true 3 56 [.int .i64 0, .slice none 0 0, .slice none 0 0] := ⟨ty80⟩
theorem ty89 : TyI Tryz.prog 89 true 2 16 [.int .i64 0, .int .i64 0] := ⟨by kernel_rfl, by kernel_rfl, by kernel_rfl, by kernel_rfl⟩
instance : TyC Tryz.prog 89 true 2 16 [.int .i64 0, .int .i64 0] := ⟨ty89⟩
theorem ty91 : TyI Tryz.prog 91 true 2 32 [.slice none 0 0, .int .i64 0] := ⟨by kernel_rfl, by kernel_rfl, by kernel_rfl, by kernel_rfl⟩
instance : TyC Tryz.prog 91 true 2 32 [.slice none 0 0, .int .i64 0] := ⟨ty91⟩
theorem ty123 : TyI Tryz.prog 123 false 1 24 [.slice none 0 0] := ⟨by kernel_rfl, by kernel_rfl, by kernel_rfl, by kernel_rfl⟩
instance : TyC Tryz.prog 123 false 1 24 [.slice none 0 0] := ⟨ty123⟩
theorem ty133 : TyI Tryz.prog 133 false 1 8 [.int .i64 0] := ⟨by kernel_rfl, by kernel_rfl, by kernel_rfl, by kernel_rfl⟩
instance : TyC Tryz.prog 133 false 1 8 [.int .i64 0] := ⟨ty133⟩
theorem ty195 : TyI Tryz.prog 195 false 1 8 [.nilFunc] := ⟨by kernel_rfl, by kernel_rfl, by kernel_rfl, by kernel_rfl⟩
instance : TyC Tryz.prog 195 false 1 8 [.nilFunc] := ⟨ty195⟩
theorem Xnk : fldOf Tryz.prog 28 0 = some (0, 3) := by kernel_rfl
instance : FlC Tryz.prog 28 0 0 3 := ⟨Xnk⟩
theorem Xnl : fldOf Tryz.prog 28 1 = some (1, 26) := by kernel_rfl
instance : FlC Tryz.prog 28 1 1 26 := ⟨Xnl⟩
theorem Xnm : fldOf Tryz.prog 31 0 = some (0, 28) := by kernel_rfl
instance : FlC Tryz.prog 31 0 0 28 := ⟨Xnm⟩
theorem Xnn : fldOf Tryz.prog 31 1 = some (2, 3) := by kernel_rfl
instance : FlC Tryz.prog 31 1 2 3 := ⟨Xnn⟩
theorem Xno : fldOf Tryz.prog 31 2 = some (3, 29) := by kernel_rfl
instance : FlC Tryz.prog 31 2 3 29 := ⟨Xno⟩
theorem Xnp : fldOf Tryz.prog 36 0 = some (0, 3) := by kernel_rfl
instance : FlC Tryz.prog 36 0 0 3 := ⟨Xnp⟩
theorem Xnq : fldOf Tryz.prog 39 0 = some (0, 3) := by kernel_rfl
instance : FlC Tryz.prog 39 0 0 3 := ⟨Xnq⟩
theorem Xnr : fldOf Tryz.prog 39 1 = some (1, 36) := by kernel_rfl
instance : FlC Tryz.prog 39 1 1 36 := ⟨Xnr⟩
theorem Xns : fldOf Tryz.prog 39 2 = some (2, 3) := by kernel_rfl
instance : FlC Tryz.prog 39 2 2 3 := ⟨Xns⟩
theorem Xnt : fldOf Tryz.prog 39 3 = some (3, 37) := by kernel_rfl
instance : FlC Tryz.prog 39 3 3 37 := ⟨Xnt⟩
theorem Xhp : fldOf Tryz.prog 69 0 = some (0, 9) := by kernel_rfl
instance : FlC Tryz.prog 69 0 0 9 := ⟨Xhp⟩
theorem Xnu : fldOf Tryz.prog 69 1 = some (1, 3) := by kernel_rfl
instance : FlC Tryz.prog 69 1 1 3 := ⟨Xnu⟩
theorem Xnv : fldOf Tryz.prog 72 0 = some (0, 3) := by kernel_rfl
instance : FlC Tryz.prog 72 0 0 3 := ⟨Xnv⟩
theorem Xnw : fldOf Tryz.prog 72 1 = some (1, 46) := by kernel_rfl
instance : FlC Tryz.prog 72 1 1 46 := ⟨Xnw⟩
theorem Xhq : fldOf Tryz.prog 80 0 = some (0, 40) := by kernel_rfl
instance : FlC Tryz.prog 80 0 0 40 := ⟨Xhq⟩
theorem Xb2 : fldOf Tryz.prog 80 1 = some (1, 48) := by kernel_rfl
instance : FlC Tryz.prog 80 1 1 48 := ⟨Xb2⟩
theorem Xnx : fldOf Tryz.prog 89 0 = some (0, 3) := by kernel_rfl
instance : FlC Tryz.prog 89 0 0 3 := ⟨Xnx⟩
theorem Xny : fldOf Tryz.prog 89 1 = some (1, 3) := by kernel_rfl
instance : FlC Tryz.prog 89 1 1 3 := ⟨Xny⟩
theorem Xnz : fldOf Tryz.prog 91 0 = some (0, 22) := by kernel_rfl
instance : FlC Tryz.prog 91 0 0 22 := ⟨Xnz⟩
theorem Xo0 : fldOf Tryz.prog 91 1 = some (1, 3) := by kernel_rfl
instance : FlC Tryz.prog 91 1 1 3 := ⟨Xo0⟩
theorem pl28 : plOf Tryz.prog 28 = some [(0, 1), (1, 1)] := by kernel_rfl
theorem pl31 : plOf Tryz.prog 31 = some [(0, 2), (2, 1), (3, 1)] := by kernel_rfl
theorem pl36 : plOf Tryz.prog 36 = some [(0, 1)] := by kernel_rfl
theorem pl39 : plOf Tryz.prog 39 = some [(0, 1), (1, 1), (2, 1), (3, 1)] := by kernel_rfl
theorem pl69 : plOf Tryz.prog 69 = some [(0, 1), (1, 1)] := by kernel_rfl
theorem pl72 : plOf Tryz.prog 72 = some [(0, 1), (1, 1)] := by kernel_rfl
theorem pl80 : plOf Tryz.prog 80 = some [(0, 1), (1, 1), (2, 1)] := by kernel_rfl
theorem pl89 : plOf Tryz.prog 89 = some [(0, 1), (1, 1)] := by kernel_rfl
theorem pl91 : plOf Tryz.prog 91 = some [(0, 1), (1, 1)] := by kernel_rfl
theorem sl22 : slOf Tryz.prog 22 = some 5 := by kernel_rfl
instance : SlC Tryz.prog 22 5 := ⟨sl22⟩
theorem sl26 : slOf Tryz.prog 26 = some 89 := by kernel_rfl
instance : SlC Tryz.prog 26 89 := ⟨sl26⟩
theorem sl29 : slOf Tryz.prog 29 = some 32 := by kernel_rfl
instance : SlC Tryz.prog 29 32 := ⟨sl29⟩
theorem sl32 : slOf Tryz.prog 32 = some 69 := by kernel_rfl
instance : SlC Tryz.prog 32 69 := ⟨sl32⟩
theorem sl37 : slOf Tryz.prog 37 = some 48 := by kernel_rfl
instance : SlC Tryz.prog 37 48 := ⟨sl37⟩
theorem sl46 : slOf Tryz.prog 46 = some 9 := by kernel_rfl
instance : SlC Tryz.prog 46 9 := ⟨sl46⟩
theorem sl48 : slOf Tryz.prog 48 = some 3 := by kernel_rfl
instance : SlC Tryz.prog 48 3 := ⟨sl48⟩
theorem sl63 : slOf Tryz.prog 63 = some 80 := by kernel_rfl
instance : SlC Tryz.prog 63 80 := ⟨sl63⟩
theorem sl75 : slOf Tryz.prog 75 = some 31 := by kernel_rfl
instance : SlC Tryz.prog 75 31 := ⟨sl75⟩
theorem sl76 : slOf Tryz.prog 76 = some 36 := by kernel_rfl
instance : SlC Tryz.prog 76 36 := ⟨sl76⟩
theorem sl81 : slOf Tryz.prog 81 = some 63 := by kernel_rfl
instance : SlC Tryz.prog 81 63 := ⟨sl81⟩
theorem sl83 : slOf Tryz.prog 83 = some 72 := by kernel_rfl
instance : SlC Tryz.prog 83 72 := ⟨sl83⟩
theorem sl123 : slOf Tryz.prog 123 = some 46 := by kernel_rfl
instance : SlC Tryz.prog 123 46 := ⟨sl123⟩
theorem sl186 : slOf Tryz.prog 186 = some 4 := by kernel_rfl
instance : SlC Tryz.prog 186 4 := ⟨sl186⟩
abbrev shp80 : Shp (Int × (List Int) × (List Int)) Int (Int × (Option Addr × Nat × Nat) × (List Int)) := ⟨fun s => s.2.1, fun s h => (s.1, h, s.2.2), fun s y => (s.1, y, s.2.2), fun _ _ => rfl, fun _ _ _ => rfl⟩
abbrev shE80 : Rep (Int × (Option Addr × Nat × Nat) × (List Int)) := (Rep.pair ri (Rep.pair Rep.hdr (Rep.sl ri)))
theorem shP80 (G : Hp) (c : List Value) (s : (Int × (List Int) × (List Int))) (h : Option Addr × Nat × Nat) (hE : shE80.r G c (shp80.hd s h)) (hn : h.2.1 = (shp80.row s).length) (hr : SlR ri G h.1 h.2.2 (shp80.row s)) : Rep.r (Rep.pair ri (Rep.pair (Rep.sl ri) (Rep.sl ri))) G c s := by
 obtain ⟨a0, n0, k0⟩ := h
 obtain ⟨_, _, rfl, rfl, _, _, rfl, rfl, _, _, rfl, s2⟩ := hE
 dsimp only at hn hr
 subst hn
 exact (Rep.pairI (Rep.intI _ _) (Rep.pairI (Rep.slI hr) (Rep.slI s2)))
theorem X8r {x0 : Int} {r : Int} (hG : G ∈ Fs)  (h : X46 x0 = some r) : RetS Tryz.prog 30 #[.int .i64 x0] Fs [] [] (rv (.int .i64 r)) := by
 unfold X46 at h
 try dsimp only at h
 refine RetS.st [(0, _)] Tryz.func30 Tryz.ntmps30 hG fun w0 S0 hS0 B0 => ?_
 refine .go 10 ?_
 cases h
 refine .rS [.tmp 2] [_] Tryz.func30 Tryz.results30 ⟨rfl, rfl, rfl⟩
theorem Xa6 {x0_0 : Int} {x0_1 : List (Int × Int)} {r : Int} (hG : G ∈ Fs) (s0_1 : SlR (Rep.pair ri ri) G a0_1 k0_1 x0_1) (h : X2t (x0_0, x0_1) = some r) : RetS Tryz.prog 67 #[.agg #[.int .i64 x0_0, .slice a0_1 x0_1.length k0_1]] Fs [] [] (rv (.int .i64 r)) := by
 unfold X2t at h
 try dsimp only at h
 refine RetS.st [(0, _)] Tryz.func67 Tryz.ntmps67 hG fun w0 S0 hS0 B0 => ?_
 refine .go 2 ?_
 refine .box [_, _] .ro rfl rfl rfl (fun b1 hb1 => ?_)
 refine .go 9 ?_
 refine .kR (fun y => y = ⟨[(12, .bool (decide ((x0_0 < 1) ∨ (64 < x0_0))))], G :: Fs, [], []⟩) [(1, _)] [_] [0] [] [] 4 ?_ ?_
 ·rintro _ rfl
  refine .gn 1 ?_
  refine .kR (fun y => y = ⟨[(18, .bool (decide (((x0_0 < 1) ∨ (64 < x0_0)) ∨ ((x0_1.length : Int) < 1))))], G :: Fs, [], []⟩) [(1, _)] [_] [0] [] [] 5 ?_ ?_
  ·rintro _ rfl
   refine .gn 1 ?_
   refine .kR (fun y => y = ⟨[(24, .bool (decide ((((x0_0 < 1) ∨ (64 < x0_0)) ∨ ((x0_1.length : Int) < 1)) ∨ (4 < (x0_1.length : Int)))))], G :: Fs, [], []⟩) [(1, _)] [_] [0] [] [] 5 ?_ ?_
   ·rintro _ rfl
    refine .gn 1 ?_
    refine .cH h (fun c14 r15 => ?_) (fun c14 r16 => ?_)
    ·refine .go 4 ?_
     cases r15
     refine .drop 1 0 [] _ rfl rfl ?_
     refine .rS [.tmp 2] [_] Tryz.func67 Tryz.results67 ⟨rfl, rfl, rfl⟩
    ·refine .go 9 ?_
     refine .block ?_
     refine .lp (fun y m => ∃ (Z0 : Nat) (Z1 : List (Int × Int)), y = ⟨[(28, .int .i64 (Z0 : Int))], [], [], []⟩ ∧ Z1.length = m ∧ List.drop Z0 x0_1 = Z1 ∧ X1x Z1  = some r) [(26, _), (27, _)] [_] [] ⟨0, x0_1, rfl, rfl, rfl, r16⟩ (fun y m hI hb49 => ?_)
     obtain ⟨i45, w46, rfl, rfl, g47, r48⟩ := hI
     refine .gn 0 ?_
     cases w46 with
     | nil =>
      rw [X1x] at r48; try dsimp only at r48
      refine .go 5 ?_
      refine .cond_dec rfl (fun c => absurd c (X8 g47)) (fun _ => ?_)
      refine .exit rfl (.go 4 ?_)
      cases r48
      refine .drop 1 0 [] _ rfl rfl ?_
      refine .rS [.tmp 2] [_] Tryz.func67 Tryz.results67 ⟨rfl, rfl, rfl⟩
     | cons x54 xs55 =>
      have r53 : X7r (X1x xs55) x54  = some r := r48; clear r48; unfold X7r at r53; try dsimp only at r53
      refine .go 5 ?_
      refine .cond_dec rfl (fun _ => ?_) (fun c => absurd (Xf g47) c)
      refine .go 2 ?_
      refine .block (.go 2 ?_)
      obtain ⟨c56, p57, h58⟩ := SlR.get s0_1 (X2 g47)
      obtain ⟨_, _, rfl, rfl, rfl⟩ := h58
      refine .q .ro (.idxR s0_1 rfl rfl (X2 g47) sl26 ty89.sz) rfl (.q .ro (.load_rp_a [_, _] p57 mcs rfl ty89 rfl) rfl ?_)
      refine .alloc .ro ty89 rfl (fun b59 hb59 => ?_)
      refine .store 0 [_, _] [_, _] .ro rfl rfl rfl ty89 rfl rfl rfl rfl (.go 7 ?_)
      refine .kR (fun y => y = ⟨[(39, .bool (decide ((x54.1 < 0) ∨ (2147483647 ≤ x54.1))))], G :: Fs, [], []⟩) [(28, _), (26, _), (27, _), (4, _)] [_, _] [0, 1] [] [] 4 ?_ ?_
      ·rintro _ rfl
       refine .gn 1 ?_
       refine .kR (fun y => y = ⟨[(44, .bool (decide (((x54.1 < 0) ∨ (2147483647 ≤ x54.1)) ∨ (x54.2 < 0))))], G :: Fs, [], []⟩) [(28, _), (26, _), (27, _), (4, _)] [_, _] [0, 1] [] [] 4 ?_ ?_
       ·rintro _ rfl
        refine .gn 1 ?_
        refine .kR (fun y => y = ⟨[(49, .bool (decide ((((x54.1 < 0) ∨ (2147483647 ≤ x54.1)) ∨ (x54.2 < 0)) ∨ (2147483647 ≤ x54.2))))], G :: Fs, [], []⟩) [(28, _), (26, _), (27, _)] [_, _] [0, 1] [] [] 4 ?_ ?_
        ·rintro _ rfl
         refine .gn 1 ?_
         refine .cH r53 (fun c72 r73 => ?_) (fun c72 r74 => ?_)
         ·refine .go 4 ?_
          cases r73
          refine .drop 2 0 [] _ rfl rfl ?_
          refine .rS [.tmp 2] [_] Tryz.func67 Tryz.results67 ⟨rfl, rfl, rfl⟩
         ·refine .go 6 ?_
          refine .drop 1 0 [_] _ rfl rfl ?_
          exact (hb49 _ _ ⟨(i45 + 1), xs55, rfl, rfl, (X3 g47), r74⟩ (Nat.lt_succ_self _)).ax ⟨(congrArg (fun z => some (Value.int .i64 z)) (X7 (SlR.len s0_1) g47)), rfl, rfl, trivial⟩
        ·intro hb69
         refine .split 45 rfl (fun c68 => ?_) (fun c68 => ?_)
         ·refine .go 4 ?_
          exact (hb69 _ rfl).ax ⟨X3s c68, rfl, rfl, rfl, trivial⟩
         ·refine .go 7 ?_
          exact (hb69 _ rfl).ax ⟨X44 c68, rfl, rfl, rfl, trivial⟩
       ·intro hb65
        refine .split 40 rfl (fun c64 => ?_) (fun c64 => ?_)
        ·refine .go 4 ?_
         exact (hb65 _ rfl).ax ⟨X3s c64, rfl, rfl, rfl, rfl, trivial⟩
        ·refine .go 7 ?_
         exact (hb65 _ rfl).ax ⟨X44 c64, rfl, rfl, rfl, rfl, trivial⟩
      ·intro hb61
       refine .split 35 rfl (fun c60 => ?_) (fun c60 => ?_)
       ·refine .go 4 ?_
        exact (hb61 _ rfl).ax ⟨X3s c60, rfl, rfl, rfl, rfl, trivial⟩
       ·refine .go 7 ?_
        exact (hb61 _ rfl).ax ⟨X44 c60, rfl, rfl, rfl, rfl, trivial⟩
   ·intro hb11
    refine .split 19 rfl (fun c10 => ?_) (fun c10 => ?_)
    ·refine .go 5 ?_
     exact (hb11 _ rfl).ax ⟨X3s c10, rfl, trivial⟩
    ·refine .go 9 ?_
     exact (hb11 _ rfl).ax ⟨X44 c10, rfl, trivial⟩
  ·intro hb7
   refine .split 13 rfl (fun c6 => ?_) (fun c6 => ?_)
   ·refine .go 5 ?_
    exact (hb7 _ rfl).ax ⟨X3s c6, rfl, trivial⟩
   ·refine .go 9 ?_
    exact (hb7 _ rfl).ax ⟨X44 c6, rfl, trivial⟩
 ·intro hb3
  refine .split 8 rfl (fun c2 => ?_) (fun c2 => ?_)
  ·refine .go 4 ?_
   exact (hb3 _ rfl).ax ⟨X3s c2, rfl, trivial⟩
  ·refine .go 7 ?_
   exact (hb3 _ rfl).ax ⟨X44 c2, rfl, trivial⟩
theorem X8f {x0 : Int} {r : Bool} (hG : G ∈ Fs)  (h : X1y x0 = some r) : RetS Tryz.prog 68 #[.int .i64 x0] Fs [] [] (rv (.bool r)) := by
 unfold X1y at h
 try dsimp only at h
 refine RetS.st [(0, _)] Tryz.func68 Tryz.ntmps68 hG fun w0 S0 hS0 B0 => ?_
 refine .go 9 ?_
 refine .kR (fun y => y = ⟨[(8, .bool (decide ((1 ≤ x0) ∧ (x0 ≤ 8))))], G :: Fs, [], []⟩) [(2, _)] [] [] [] [] 3 ?_ ?_
 ·rintro _ rfl
  refine .gn 2 ?_
  cases h
  refine .rS [.tmp 2] [_] Tryz.func68 Tryz.results68 ⟨rfl, rfl, rfl⟩
 ·intro hb2
  refine .split 5 rfl (fun c1 => ?_) (fun c1 => ?_)
  ·refine .go 5 ?_
   exact (hb2 _ rfl).ax ⟨X6w c1, rfl, trivial⟩
  ·refine .go 3 ?_
   exact (hb2 _ rfl).ax ⟨X6x c1, rfl, trivial⟩
theorem X93 {x0 : ByteArray} {r : Bool} (hG : G ∈ Fs)  (h : X4d x0 = some r) : RetS Tryz.prog 74 #[.string x0] Fs [] [] (rv (.bool r)) := by
 unfold X4d at h
 try dsimp only at h
 refine RetS.st [(0, _)] Tryz.func74 Tryz.ntmps74 hG fun w0 S0 hS0 B0 => ?_
 refine .go 7 ?_
 refine .q .ro (.len_s rfl Tryz.underlying9) rfl (.go 2 ?_)
 refine .kR (fun y => y = ⟨[(10, .bool (decide ((1 ≤ (x0.size : Int)) ∧ ((x0.size : Int) ≤ 32))))], G :: Fs, [], []⟩) [(2, _)] [] [] [] [] 4 ?_ ?_
 ·rintro _ rfl
  refine .gn 2 ?_
  cases h
  refine .rS [.tmp 2] [_] Tryz.func74 Tryz.results74 ⟨rfl, rfl, rfl⟩
 ·intro hb2
  refine .split 6 rfl (fun c1 => ?_) (fun c1 => ?_)
  ·refine .go 3 ?_
   refine .q .ro (.len_s rfl Tryz.underlying9) rfl (.go 3 ?_)
   exact (hb2 _ rfl).ax ⟨X6w c1, rfl, trivial⟩
  ·refine .go 4 ?_
   exact (hb2 _ rfl).ax ⟨X6x c1, rfl, trivial⟩
theorem Xdl {x0_0 : ByteArray} {x0_1 : Int} {r : Bool} (hG : G ∈ Fs)  (h : X7s (x0_0, x0_1) = some r) : RetS Tryz.prog 108 #[.agg #[.string x0_0, .int .i64 x0_1]] Fs [] [] (rv (.bool r)) := by
 unfold X7s at h
 try dsimp only at h
 refine RetS.st [(0, _)] Tryz.func108 Tryz.ntmps108 hG fun w0 S0 hS0 B0 => ?_
 refine .go 2 ?_
 refine .box [_, _] .ro rfl rfl rfl (fun b1 hb1 => ?_)
 refine .go 6 ?_
 obtain ⟨u2, hu2, r3⟩ := X0 h
 refine .cV [_] Tryz.call74 (X93 mcs  hu2) ?_
 refine .go 1 ?_
 refine .kR (fun y => y = ⟨[(10, .bool (decide ((u2 = true) ∧ (0 ≤ x0_1))))], G :: Fs, [], []⟩) [(1, _), (2, _)] [_] [0] [] [] 4 ?_ ?_
 ·rintro _ rfl
  refine .gn 1 ?_
  refine .kR (fun y => y = ⟨[(15, .bool (decide (((u2 = true) ∧ (0 ≤ x0_1)) ∧ (x0_1 < 2147483647))))], G :: Fs, [], []⟩) [(2, _)] [_] [0] [] [] 4 ?_ ?_
  ·rintro _ rfl
   refine .gn 2 ?_
   cases r3
   refine .drop 1 0 [] _ rfl rfl ?_
   refine .rS [.tmp 2] [_] Tryz.func108 Tryz.results108 ⟨rfl, rfl, rfl⟩
  ·intro hb11
   refine .split 11 rfl (fun c10 => ?_) (fun c10 => ?_)
   ·refine .go 7 ?_
    exact (hb11 _ rfl).ax ⟨X6w c10, rfl, trivial⟩
   ·refine .go 4 ?_
    exact (hb11 _ rfl).ax ⟨X6x c10, rfl, trivial⟩
 ·intro hb7
  refine .split_b 6 rfl (fun c6 => ?_) (fun c6 => ?_)
  ·refine .go 7 ?_
   exact (hb7 _ rfl).ax ⟨X6w c6, rfl, rfl, trivial⟩
  ·refine .go 4 ?_
   exact (hb7 _ rfl).ax ⟨X6x (Xga c6), rfl, rfl, trivial⟩
theorem Xa1 {x0_0 : ByteArray} {x0_1 : Int} {r : ByteArray} (hG : G ∈ Fs)  (h : X5p (x0_0, x0_1) = some r) : RetS Tryz.prog 134 #[.agg #[.string x0_0, .int .i64 x0_1]] Fs [] [] (rv (.string r)) := by
 unfold X5p at h
 try dsimp only at h
 refine RetS.st [(0, _)] Tryz.func134 Tryz.ntmps134 hG fun w0 S0 hS0 B0 => ?_
 refine .go 2 ?_
 refine .box [_, _] .ro rfl rfl rfl (fun b1 hb1 => ?_)
 refine .go 8 ?_
 cases h
 refine .drop 1 0 [] _ rfl rfl ?_
 refine .rS [.tmp 2] [_] Tryz.func134 Tryz.results134 ⟨rfl, rfl, rfl⟩
theorem Xa2 {x0 : ByteArray} {r : Bool} (hG : G ∈ Fs)  (h : X5q x0 = some r) : RetS Tryz.prog 157 #[.string x0] Fs [] [] (rv (.bool r)) := by
 unfold X5q at h
 try dsimp only at h
 refine RetS.st [(0, _)] Tryz.func157 Tryz.ntmps157 hG fun w0 S0 hS0 B0 => ?_
 refine .go 8 ?_
 refine .q .ro (.neq_s rfl rfl) rfl (.go 2 ?_)
 cases h
 refine .rS [.tmp 2] [_] Tryz.func157 Tryz.results157 ⟨rfl, rfl, rfl⟩
theorem Xbq {x0 : ByteArray} {x1 : ByteArray} {r : Int} (hG : G ∈ Fs)  (h : X61 x0 x1 = some r) : RetS Tryz.prog 149 #[.string x0, .string x1] Fs [] [] (rv (.int .i64 r)) := by
 unfold X61 at h
 try dsimp only at h
 refine RetS.st [(0, _), (1, _)] Tryz.func149 Tryz.ntmps149 hG fun w0 S0 hS0 B0 => ?_
 refine .go 7 ?_
 obtain ⟨u1, hu1, r2⟩ := X0 h
 refine .cV [_] Tryz.call157 (Xa2 mcs  hu1) ?_
 refine .go 5 ?_
 obtain ⟨u5, hu5, r6⟩ := X0 r2
 refine .cV [_] Tryz.call157 (Xa2 mcs  hu5) ?_
 refine .go 7 ?_
 refine .cB r6 (fun c9 r10 => ?_) (fun c9 r14 => ?_)
 ·refine .go 5 ?_
  refine .cB r10 (fun c11 r12 => ?_) (fun c11 r13 => ?_)
  ·refine .go 4 ?_
   cases r12
   refine .rS [.tmp 4] [_] Tryz.func149 Tryz.results149 ⟨rfl, rfl, rfl⟩
  ·refine .go 5 ?_
   cases r13
   refine .rS [.tmp 4] [_] Tryz.func149 Tryz.results149 ⟨rfl, rfl, rfl⟩
 ·refine .go 6 ?_
  refine .cB r14 (fun c15 r16 => ?_) (fun c15 r17 => ?_)
  ·refine .go 4 ?_
   cases r16
   refine .rS [.tmp 4] [_] Tryz.func149 Tryz.results149 ⟨rfl, rfl, rfl⟩
  ·refine .go 6 ?_
   refine .q .ro (.lss_d rfl rfl) rfl (.go 1 ?_)
   refine .cH r17 (fun c18 r19 => ?_) (fun c18 r20 => ?_)
   ·refine .go 4 ?_
    cases r19
    refine .rS [.tmp 4] [_] Tryz.func149 Tryz.results149 ⟨rfl, rfl, rfl⟩
   ·refine .go 6 ?_
    refine .q .ro (.gtr_d rfl rfl) rfl (.go 1 ?_)
    refine .cH r20 (fun c21 r22 => ?_) (fun c21 r23 => ?_)
    ·refine .go 4 ?_
     cases r22
     refine .rS [.tmp 4] [_] Tryz.func149 Tryz.results149 ⟨rfl, rfl, rfl⟩
    ·refine .go 5 ?_
     cases r23
     refine .rS [.tmp 4] [_] Tryz.func149 Tryz.results149 ⟨rfl, rfl, rfl⟩
theorem X92 {x0_0 : ByteArray} {x0_1 : Int} {x1_0 : ByteArray} {x1_1 : Int} {r : Int} (hG : G ∈ Fs) (hp2 : Rp G p2 [.func (.func 134) #[] #[]]) (h : X2b (x0_0, x0_1) (x1_0, x1_1) = some r) : RetS Tryz.prog 148 #[.agg #[.string x0_0, .int .i64 x0_1], .agg #[.string x1_0, .int .i64 x1_1], p2] Fs [] [] (rv (.int .i64 r)) := by
 unfold X2b at h
 try dsimp only at h
 refine RetS.st [(0, _), (1, _), (2, _)] Tryz.func148 Tryz.ntmps148 hG fun w0 S0 hS0 B0 => ?_
 refine .go 2 ?_
 refine .box [_, _] .ro rfl rfl rfl (fun b1 hb1 => ?_)
 refine .box [_, _] .ro rfl rfl rfl (fun b2 hb2 => ?_)
 refine .go 3 ?_
 refine .drawL (.q 0 (.q 1 (.q 3 (.q 4 (.e 2 1 (.e 5 1 (.e 6 1 (.q 7 .nil)))))))) [_, _] (by kernel_rfl) (by kernel_rfl) (X1 [0, 1] rfl) (.dq (.load_rp hp2 mcs rfl ty195 rfl) rfl (.dq (.load_own_a 1 [_, _] rfl rfl ty69 rfl) rfl (.dq (.load_rp hp2 mcs rfl ty195 rfl) rfl (.dq (.load_own_a 0 [_, _] rfl rfl ty69 rfl) rfl ?_))))
 obtain ⟨u3, hu3, r4⟩ := X0 h
 refine .cVd [_] Tryz.call134 (Xa1 mcs  hu3) ?_
 refine .clsL (HpLe.refl _) (X1 [0, 1] rfl) ?_
 obtain ⟨u7, hu7, r8⟩ := X0 r4
 refine .cVd [_] Tryz.call134 (Xa1 mcs  hu7) ?_
 refine .clsL (HpLe.refl _) (X1 [0, 1] rfl) ?_
 obtain ⟨u11, hu11, r12⟩ := X0 r8
 refine .cVd [_, _] Tryz.call149 (Xbq mcs  hu11) ?_
 refine .clsL (HpLe.refl _) (X1 [0, 1] rfl) (.go 2 ?_)
 cases r12
 refine .drop 2 0 [] _ rfl rfl ?_
 refine .rS [.tmp 5] [_] Tryz.func148 Tryz.results148 ⟨rfl, rfl, rfl⟩
theorem X9w  {r : Unit} (hG : G ∈ Fs)  (h : X2p = some r) : RetW Tryz.prog 133 #[.func (.func 134) #[] #[]] Fs [] [] (fun v bo so G => ∃ pc0_0 : Value, v = .func (.func 148) #[] [pc0_0].toArray ∧ bo = [] ∧ so = [] ∧ Rp G pc0_0 [.func (.func 134) #[] #[]]) := by
 unfold X2p at h
 try dsimp only at h
 refine RetW.st [(0, _)] Tryz.func133 Tryz.ntmps133 hG fun w0 S0 hS0 B0 => ?_
 refine .go 2 ?_
 refine .box [_] .ro rfl rfl rfl (fun b1 hb1 => ?_)
 refine .go 4 ?_
 refine .q .ro (.makeFunc (vf := []) (vc := [_]) rfl rfl) rfl (.go 2 ?_)
 refine .freezeBR 0 rfl [] rfl B0 (fun G2 e3 B4 p5 => ?_)
 cases h
 refine .rW 0 [.tmp 2] [_] Tryz.func133 Tryz.results133 ⟨RV.tmp rfl, trivial⟩ B4 hS0 (fun G' hg => ⟨_, rfl, rfl, rfl, (Rp.mono hg p5)⟩)
theorem Xdm {x0_0 : ByteArray} {x0_1 : Int} {x1_0 : ByteArray} {x1_1 : Int} {r : Int} (hG : G ∈ Fs)  (h : X7t (x0_0, x0_1) (x1_0, x1_1) = some r) : RetS Tryz.prog 109 #[.agg #[.string x0_0, .int .i64 x0_1], .agg #[.string x1_0, .int .i64 x1_1]] Fs [] [] (rv (.int .i64 r)) := by
 unfold X7t at h
 try dsimp only at h
 refine RetS.st [(0, _), (1, _)] Tryz.func109 Tryz.ntmps109 hG fun w0 S0 hS0 B0 => ?_
 refine .go 2 ?_
 refine .box [_, _] .ro rfl rfl rfl (fun b1 hb1 => ?_)
 refine .box [_, _] .ro rfl rfl rfl (fun b2 hb2 => ?_)
 refine .go 3 ?_
 refine .drawL (.q 1 (.q 2 (.e 0 1 (.e 3 1 (.q 4 .nil))))) [_, _] (by kernel_rfl) (by kernel_rfl) (X1 [0, 1] rfl) (.dq (.load_own_a 1 [_, _] rfl rfl ty69 rfl) rfl (.dq (.load_own_a 0 [_, _] rfl rfl ty69 rfl) rfl ?_))
 obtain ⟨u3, hu3, r4⟩ := X0 h
 refine .callW (b1 := []) (b2 := [_, _]) (s1 := []) [_] [] .d1 rfl rfl Tryz.call133 rfl rfl (X9w mcs  hu3) rfl B0 (fun v6 bo so G7 e8 B9 h5 => ?_)
 obtain ⟨p11, rfl, rfl, rfl, hp12⟩ := h5
 refine .gn 0 ?_
 refine .clsL e8 (X1 [0, 1] rfl) ?_
 obtain ⟨u13, hu13, r14⟩ := X0 r4
 refine .callS (b1 := []) (b2 := [_, _]) (s1 := []) [_, _] [_] .d1 rfl rfl Tryz.call148 rfl rfl (X92 mcs hp12 hu13) rfl (fun v16 bo so h15 => ?_)
 obtain ⟨rfl, rfl, rfl⟩ := h15
 refine .gn 0 ?_
 refine .clsL e8 (X1 [0, 1] rfl) (.go 2 ?_)
 cases r14
 refine .drop 2 0 [] _ rfl rfl ?_
 refine .rS [.tmp 4] [_] Tryz.func109 Tryz.results109 ⟨rfl, rfl, rfl⟩
theorem Xai {x0 : List (ByteArray × Int)} {r : Bool} (hG : G ∈ Fs) (s0 : SlR (Rep.pair Rep.str ri) G a0 k0 x0) (h : X18 x0 = some r) : RetS Tryz.prog 69 #[.slice a0 x0.length k0] Fs [] [] (rv (.bool r)) := by
 unfold X18 at h
 try dsimp only at h
 refine RetS.st [(0, _)] Tryz.func69 Tryz.ntmps69 hG fun w0 S0 hS0 B0 => ?_
 refine .go 11 ?_
 refine .block ?_
 refine .lp (fun y m => ∃ (Z0 : Nat) (Z1 : List (ByteArray × Int)), y = ⟨[(7, .int .i64 (Z0 : Int))], [], [], []⟩ ∧ Z1.length = m ∧ List.drop Z0 x0 = Z1 ∧ Xi x0 Z1 Z0  = some r) [(0, _), (5, _), (6, _)] [] [] ⟨0, x0, rfl, rfl, rfl, h⟩ (fun y m hI hb87 => ?_)
 obtain ⟨i83, w84, rfl, rfl, g85, r86⟩ := hI
 refine .gn 0 ?_
 cases w84 with
 | nil =>
  rw [Xi] at r86; try dsimp only at r86
  refine .go 5 ?_
  refine .cond_dec rfl (fun c => absurd c (X8 g85)) (fun _ => ?_)
  refine .exit rfl (.go 4 ?_)
  cases r86
  refine .rS [.tmp 2] [_] Tryz.func69 Tryz.results69 ⟨rfl, rfl, rfl⟩
 | cons x91 xs92 =>
  have r90 : X2e x0 (Xi x0 xs92 (i83 + 1)) x91 i83  = some r := r86; clear r86; unfold X2e at r90; try dsimp only at r90
  refine .go 5 ?_
  refine .cond_dec rfl (fun _ => ?_) (fun c => absurd (Xf g85) c)
  refine .go 2 ?_
  refine .block (.go 3 ?_)
  obtain ⟨c93, p94, h95⟩ := SlR.get s0 (X2 g85)
  obtain ⟨_, _, rfl, rfl, rfl⟩ := h95
  refine .q .ro (.idxR s0 rfl rfl (X2 g85) sl32 ty69.sz) rfl (.q .ro (.load_rp_a [_, _] p94 mcs rfl ty69 rfl) rfl ?_)
  refine .alloc .ro ty69 rfl (fun b96 hb96 => ?_)
  refine .go 1 ?_
  refine .store 0 [_, _] [_] .ro rfl rfl rfl ty69 rfl rfl rfl rfl (.go 2 ?_)
  refine .drawL (.q 0 (.e 1 1 (.q 2 (.q 3 (.q 4 (.q 5 (.q 6 (.q 7 (.q 8 (.q 9 (.q 10 (.q 11 (.q 12 (.e 13 1 (.q 14 (.q 15 (.q 16 .nil))))))))))))))))) [_] (by kernel_rfl) (by kernel_rfl) (X1 [0] rfl) (.dq (.load_own_a 0 [_, _] rfl rfl ty69 rfl) rfl ?_)
  obtain ⟨u97, hu97, r98⟩ := X0 r90
  refine .cVd [_] Tryz.call108 (Xdl mcs  hu97) ?_
  refine .clsL (HpLe.refl _) (X1 [0] rfl) (.go 2 ?_)
  obtain ⟨u10, h11, r12⟩ := X0 r98
  refine .kD (fun y => y = ⟨[(28, .bool u10)], G :: Fs, [], []⟩) [(7, _), (0, _), (5, _), (6, _)] [_] [0] [] [] 13 ?_ ?_
  ·rintro _ rfl
   refine .gn 1 ?_
   refine .cB r12 (fun c13 r14 => ?_) (fun c13 r15 => ?_)
   ·refine .go 4 ?_
    cases r14
    refine .drop 1 0 [] _ rfl rfl ?_
    refine .rS [.tmp 2] [_] Tryz.func69 Tryz.results69 ⟨rfl, rfl, rfl⟩
   ·refine .go 6 ?_
    refine .drop 1 0 [] _ rfl rfl ?_
    exact (hb87 _ _ ⟨(i83 + 1), xs92, rfl, rfl, (X3 g85), r15⟩ (Nat.lt_succ_self _)).ax ⟨(congrArg (fun z => some (Value.int .i64 z)) (X7 (SlR.len s0) g85)), rfl, rfl, rfl, trivial⟩
  ·intro hb16
   refine .split_b 15 rfl (fun c17 => ?_) (fun c17 => ?_)
   ·have r18 := ifT h11 c17
    refine .dgq_off rfl rfl rfl (.dgq_off rfl rfl rfl (.dgq_off rfl rfl rfl (.dgqu_off rfl rfl (.dgqu_off rfl rfl (.dgqu_off rfl rfl (.dgqu_off rfl rfl (.dgqu_off rfl rfl (.dgqu_off rfl rfl (.dgeu_offL rfl rfl (HpLe.refl _) (X1 [0] rfl) (.dgqu_off rfl rfl (.dgq_off rfl rfl rfl (.go 1 ?_))))))))))))
    exact (hb16 _ rfl).ax ⟨sval r18, rfl, rfl, rfl, rfl, trivial⟩
   ·have r19 := ifBF h11 c17
    refine .dgq_on rfl (.go 1 ?_)
    refine .dgq_on rfl (.go 1 ?_)
    refine .dgq_on rfl (.go 1 ?_)
    obtain ⟨u20, h21, r22⟩ := X0 r19
    refine .kD (fun y => y = ⟨[(27, .bool u20)], G :: Fs, [], []⟩) [(7, _), (0, _), (5, _), (6, _), (15, _), (16, _), (17, _)] [_] [0] [] [] 9 ?_ ?_
    ·rintro _ rfl
     refine .gn 1 ?_
     exact (hb16 _ rfl).ax ⟨sval r22, rfl, rfl, rfl, rfl, trivial⟩
    ·intro hb23
     refine .split 18 rfl (fun c24 => ?_) (fun c24 => ?_)
     ·have r25 := ifT h21 c24
      refine .dgq_on rfl (.go 1 ?_)
      refine .dgq_on rfl (.go 1 ?_)
      refine .dgq_on rfl (.go 1 ?_)
      refine .dgq_on rfl ?_
      obtain ⟨u26, hu26, r27⟩ := X0 r25
      obtain ⟨c28, p29, h30⟩ := SlR.get s0 hu26
      obtain ⟨_, _, rfl, rfl, rfl⟩ := h30
      refine .dq (.idxR s0 rfl rfl hu26 sl32 ty69.sz) rfl (.dgq_on rfl (.dq (.load_rp_a [_, _] p29 mcs rfl ty69 rfl) rfl (.dgq_on rfl (.dq (.load_own_a 0 [_, _] rfl rfl ty69 rfl) rfl (.dge_on rfl ?_)))))
      obtain ⟨u31, hu31, r33⟩ := X0 r27
      refine .cVd [_, _] Tryz.call109 (Xdm mcs  hu31) ?_
      refine .clsL (HpLe.refl _) (X1 [0] rfl) (.dgq_on rfl (.go 1 ?_))
      refine .dgq_on rfl (.go 1 ?_)
      exact (hb23 _ rfl).ax ⟨sval r33, rfl, rfl, rfl, rfl, rfl, rfl, rfl, trivial⟩
     ·have r34 := ifF h21 c24
      refine .dgq_off rfl rfl rfl (.dgq_off rfl rfl rfl (.dgq_off rfl rfl rfl (.dgq_off rfl rfl rfl (.dgq_off rfl rfl rfl (.dgq_off rfl rfl rfl (.dge_offL rfl rfl rfl (HpLe.refl _) (X1 [0] rfl) (.dgq_off rfl rfl rfl (.dgq_on rfl (.go 1 ?_)))))))))
      exact (hb23 _ rfl).ax ⟨sval r34, rfl, rfl, rfl, rfl, rfl, rfl, rfl, trivial⟩
theorem Xb6 {x0 : List Int} {x1 : Int} {r : Int} (hG : G ∈ Fs) (s0 : SlR ri G a0 k0 x0) (h : X4q x0 x1 = some r) : RetS Tryz.prog 110 #[.slice a0 x0.length k0, .int .i64 x1] Fs [] [] (rv (.int .i64 r)) := by
 unfold X4q at h
 try dsimp only at h
 refine RetS.st [(0, _), (1, _)] Tryz.func110 Tryz.ntmps110 hG fun w0 S0 hS0 B0 => ?_
 refine .go 11 ?_
 refine .block ?_
 refine .lp (fun y m => ∃ (Z0 : Nat) (Z1 : List Int), y = ⟨[(8, .int .i64 (Z0 : Int))], [], [], []⟩ ∧ Z1.length = m ∧ List.drop Z0 x0 = Z1 ∧ X16 x1 Z1 Z0  = some r) [(0, _), (1, _), (7, _)] [] [] ⟨0, x0, rfl, rfl, rfl, h⟩ (fun y m hI hb19 => ?_)
 obtain ⟨i15, w16, rfl, rfl, g17, r18⟩ := hI
 refine .gn 0 ?_
 cases w16 with
 | nil =>
  rw [X16] at r18; try dsimp only at r18
  refine .go 5 ?_
  refine .cond_dec rfl (fun c => absurd c (X8 g17)) (fun _ => ?_)
  refine .exit rfl (.go 4 ?_)
  cases r18
  refine .rS [.tmp 4] [_] Tryz.func110 Tryz.results110 ⟨rfl, rfl, rfl⟩
 | cons x24 xs25 =>
  have r23 : X3d x1 (X16 x1 xs25 (i15 + 1)) x24 i15  = some r := r18; clear r18; unfold X3d at r23; try dsimp only at r23
  refine .go 5 ?_
  refine .cond_dec rfl (fun _ => ?_) (fun c => absurd (Xf g17) c)
  refine .go 2 ?_
  refine .block (.go 10 ?_)
  obtain ⟨c26, p27, h28⟩ := SlR.get s0 (X2 g17)
  obtain rfl := h28
  refine .q .ro (.idxR s0 rfl rfl (X2 g17) sl48 ty3.sz) rfl (.q .ro (.load_rp p27 mcs rfl ty3 rfl) rfl (.go 2 ?_))
  refine .cH r23 (fun c29 r30 => ?_) (fun c29 r31 => ?_)
  ·refine .go 5 ?_
   cases r30
   refine .rS [.tmp 4] [_] Tryz.func110 Tryz.results110 ⟨rfl, rfl, rfl⟩
  ·refine .go 6 ?_
   exact (hb19 _ _ ⟨(i15 + 1), xs25, rfl, rfl, (X3 g17), r31⟩ (Nat.lt_succ_self _)).ax ⟨(congrArg (fun z => some (Value.int .i64 z)) (X7 (SlR.len s0) g17)), rfl, rfl, rfl, trivial⟩
theorem Xa7 {x0 : List Int} {x1 : Int} {r : Bool} (hG : G ∈ Fs) (s0 : SlR ri G a0 k0 x0) (h : X17 x0 x1 = some r) : RetS Tryz.prog 70 #[.slice a0 x0.length k0, .int .i64 x1] Fs [] [] (rv (.bool r)) := by
 unfold X17 at h
 try dsimp only at h
 refine RetS.st [(0, _), (1, _)] Tryz.func70 Tryz.ntmps70 hG fun w0 S0 hS0 B0 => ?_
 refine .go 8 ?_
 obtain ⟨u1, hu1, r2⟩ := X0 h
 refine .cV [_, _] Tryz.call110 (Xb6 mcs s0 hu1) ?_
 refine .go 3 ?_
 cases r2
 refine .rS [.tmp 4] [_] Tryz.func70 Tryz.results70 ⟨rfl, rfl, rfl⟩
theorem Xf9 {x0 : Int} {r : Bool} (hG : G ∈ Fs)  (h : X9i x0 = some r) : RetS Tryz.prog 135 #[.int .i64 x0] Fs [] [] (rv (.bool r)) := by
 unfold X9i at h
 try dsimp only at h
 refine RetS.st [(0, _)] Tryz.func135 Tryz.ntmps135 hG fun w0 S0 hS0 B0 => ?_
 refine .go 9 ?_
 refine .kR (fun y => y = ⟨[(8, .bool (decide ((0 ≤ x0) ∧ (x0 < 2147483647))))], G :: Fs, [], []⟩) [(2, _)] [] [] [] [] 3 ?_ ?_
 ·rintro _ rfl
  refine .gn 2 ?_
  cases h
  refine .rS [.tmp 2] [_] Tryz.func135 Tryz.results135 ⟨rfl, rfl, rfl⟩
 ·intro hb2
  refine .split 5 rfl (fun c1 => ?_) (fun c1 => ?_)
  ·refine .go 5 ?_
   exact (hb2 _ rfl).ax ⟨X6w c1, rfl, trivial⟩
  ·refine .go 3 ?_
   exact (hb2 _ rfl).ax ⟨X6x c1, rfl, trivial⟩
theorem Xe5 {x0_0 : Int} {x0_1 : List (Int × Int)} {x1 : Int} {r : (List Int)} (hG : G ∈ Fs) (s0_1 : SlR (Rep.pair ri ri) G a0_1 k0_1 x0_1) (h : X8t (x0_0, x0_1) x1 = some r) : RetS Tryz.prog 136 #[.agg #[.int .i64 x0_0, .slice a0_1 x0_1.length k0_1], .int .i64 x1] Fs [] [] (fun v bo so => ∃ (oa0 : Option Addr) (ok0 : Nat) (oc0 : List Value), v = .slice oa0 r.length ok0 ∧ bo = [] ∧ so = [.s (.slice oa0 r.length ok0) 3 1 r.length oc0] ∧ OL ri G oc0 r) := by
 unfold X8t at h
 try dsimp only at h
 refine RetS.st [(0, _), (1, _)] Tryz.func136 Tryz.ntmps136 hG fun w0 S0 hS0 B0 => ?_
 refine .go 2 ?_
 refine .box [_, _] .ro rfl rfl rfl (fun b1 hb1 => ?_)
 refine .go 14 ?_
 refine .block (.own_nil 3 1 ?_)
 refine .lp (fun y m => ∃ (Z0 : Nat) (Z1 : List (Int × Int)) (Z2 : List Int) (Z3 : _) (Z4 : Nat) (Z5 : _), y = ⟨[(5, .slice Z3 Z2.length Z4), (11, .int .i64 (Z0 : Int))], [], [], [.s (.slice Z3 Z2.length Z4) 3 1 Z2.length Z5]⟩ ∧ Z1.length = m ∧ OL ri G Z5 Z2 ∧ List.drop Z0 x0_1 = Z1 ∧ X2u x1 x0_0 Z1 Z2 = some r) [(1, _), (2, _), (9, _), (10, _)] [_] [] ⟨0, x0_1, ([] : List Int), none, 0, [], rfl, rfl, (OL.nil (Rp' := ri)), rfl, h⟩ (fun y m hI hb66 => ?_)
 obtain ⟨i56, w57, v59, a60, k61, cs62, rfl, rfl, o63, g58, r65⟩ := hI
 refine .gn 0 ?_
 cases w57 with
 | nil =>
  rw [X2u] at r65; try dsimp only at r65
  refine .go 5 ?_
  refine .cond_dec rfl (fun c => absurd c (X8 g58)) (fun _ => ?_)
  refine .exit rfl (.go 5 ?_)
  cases r65
  refine .drop 1 0 [] _ rfl rfl ?_
  refine .rS [.tmp 4] [_] Tryz.func136 Tryz.results136 ⟨a60, k61, cs62, rfl, rfl, rfl, o63⟩
 | cons x72 xs73 =>
  have r71 : X7u x1 x0_0 (X2u x1 x0_0 xs73) x72 v59 = some r := r65; clear r65; unfold X7u at r71; try dsimp only at r71
  refine .go 5 ?_
  refine .cond_dec rfl (fun _ => ?_) (fun c => absurd (Xf g58) c)
  refine .go 2 ?_
  refine .block (.go 2 ?_)
  obtain ⟨c74, p75, h76⟩ := SlR.get s0_1 (X2 g58)
  obtain ⟨_, _, rfl, rfl, rfl⟩ := h76
  refine .q .ro (.idxR s0_1 rfl rfl (X2 g58) sl26 ty89.sz) rfl (.q .ro (.load_rp_a [_, _] p75 mcs rfl ty89 rfl) rfl ?_)
  refine .alloc .ro ty89 rfl (fun b77 hb77 => ?_)
  refine .store 0 [_, _] [_, _] .ro rfl rfl rfl ty89 rfl rfl rfl rfl (.go 10 ?_)
  refine .q .ro (.remt rfl rfl (by decide)) rfl (.go 2 ?_)
  obtain ⟨u78, hu78, r79⟩ := X0 r71
  refine .q .ro (.remt rfl rfl (Xbz hu78)) rfl ?_
  refine .lit [_] [(0, _)] .ro sl48 ty3 rfl rfl rfl rfl rfl rfl (fun b80 hb80 => ?_)
  have o81 : OL ri G [.int .i64 (Int.tmod (Int.tmod (w64 ((w64 (x72.1 * x1)) + x72.2)) 2147483647) x0_0)] ([(Int.tmod (Int.tmod (w64 ((w64 (x72.1 * x1)) + x72.2)) 2147483647) x0_0)] : List Int) := ((OL.cons rfl (Rep.intI .i64 (Int.tmod (Int.tmod (w64 ((w64 (x72.1 * x1)) + x72.2)) 2147483647) x0_0)) (OL.nil (Rp' := ri))) :)
  refine .reval 27 (n' := ([(Int.tmod (Int.tmod (w64 ((w64 (x72.1 * x1)) + x72.2)) 2147483647) x0_0)] : List Int).length) rfl rfl ?_
  obtain ⟨u87, hu87, r88⟩ := X0 r79
  refine .appO (Q := ri) 0 .ro sl48 ty3 rfl rfl rfl rfl rfl rfl o63 o81 rfl rfl rfl B0 hu87 rfl (fun a83 k84 cs85 o86 => ?_)
  refine .go 7 ?_
  refine .drop 1 0 [_] _ rfl rfl ?_
  exact (hb66 _ _ ⟨(i56 + 1), xs73, u87, a83, k84, cs85, rfl, rfl, o86, (X3 g58), r88⟩ (Nat.lt_succ_self _)).ax ⟨rfl, (congrArg (fun z => some (Value.int .i64 z)) (X7 (SlR.len s0_1) g58)), rfl, rfl, rfl, rfl, trivial⟩
theorem Xe6 {x0_0 : Int} {x0_1 : List (Int × Int)} {x1 : Int} {r : ((List Int) × Int)} (hG : G ∈ Fs) (s0_1 : SlR (Rep.pair ri ri) G a0_1 k0_1 x0_1) (h : X8u (x0_0, x0_1) x1 = some r) : RetS Tryz.prog 111 #[.agg #[.int .i64 x0_0, .slice a0_1 x0_1.length k0_1], .int .i64 x1] Fs [] [] (fun v bo so => ∃ (oa0 : Option Addr) (ok0 : Nat) (oc0 : List Value), v = .tuple #[.slice oa0 r.1.length ok0, .int .i64 r.2] ∧ bo = [] ∧ so = [.s (.slice oa0 r.1.length ok0) 3 1 r.1.length oc0] ∧ OL ri G oc0 r.1) := by
 unfold X8u at h
 try dsimp only at h
 refine RetS.st [(0, _), (1, _)] Tryz.func111 Tryz.ntmps111 hG fun w0 S0 hS0 B0 => ?_
 refine .go 2 ?_
 refine .box [_, _] .ro rfl rfl rfl (fun b1 hb1 => ?_)
 refine .go 6 ?_
 refine .q .ro (.load_own_a 0 [_, _] rfl rfl ty28 rfl) rfl ?_
 obtain ⟨u2, hu2, r3⟩ := X0 h
 refine .cV [_] Tryz.call67 (Xa6 mcs s0_1 hu2) ?_
 refine .go 7 ?_
 refine .cH r3 (fun c6 r7 => ?_) (fun c6 r9 => ?_)
 ·refine .go 6 ?_
  refine .own_nil 3 1 ?_
  cases r7
  refine .drop 1 0 [] _ rfl rfl ?_
  refine .rS [.tmp 4, .tmp 5] [_, _] Tryz.func111 Tryz.results111 ⟨none, 0, [], rfl, rfl, rfl, (OL.nil (Rp' := ri))⟩
 ·refine .go 5 ?_
  obtain ⟨u10, hu10, r11⟩ := X0 r9
  refine .cV [_] Tryz.call135 (Xf9 mcs  hu10) ?_
  refine .go 2 ?_
  refine .cB r11 (fun c14 r15 => ?_) (fun c14 r17 => ?_)
  ·refine .go 5 ?_
   refine .own_nil 3 1 ?_
   cases r15
   refine .drop 1 0 [] _ rfl rfl ?_
   refine .rS [.tmp 4, .tmp 5] [_, _] Tryz.func111 Tryz.results111 ⟨none, 0, [], rfl, rfl, rfl, (OL.nil (Rp' := ri))⟩
  ·refine .go 3 ?_
   refine .q .ro (.load_own_a 0 [_, _] rfl rfl ty28 rfl) rfl (.go 1 ?_)
   obtain ⟨u18, hu18, r19⟩ := X0 r17
   refine .cS [_, _] Tryz.call136 (Xe5 mcs s0_1 hu18) (fun v21 bo so h20 => ?_)
   obtain ⟨a23, k24, cs25, rfl, rfl, rfl, o26⟩ := h20
   refine .gn 3 ?_
   cases r19
   refine .drop 1 0 [] _ rfl rfl ?_
   refine .rS [.tmp 4, .tmp 5] [_, _] Tryz.func111 Tryz.results111 ⟨a23, k24, cs25, rfl, rfl, rfl, o26⟩
theorem Xc2 {x0 : ByteArray} {x1 : Int} {r : Int} (hG : G ∈ Fs)  (h : X6p x0 x1 = some r) : RetS Tryz.prog 137 #[.string x0, .int .i64 x1] Fs [] [] (rv (.int .i64 r)) := by
 unfold X6p at h
 try dsimp only at h
 refine RetS.st [(0, _), (1, _)] Tryz.func137 Tryz.ntmps137 hG fun w0 S0 hS0 B0 => ?_
 refine .go 8 ?_
 refine .q .ro (.len_s rfl Tryz.underlying9) rfl (.go 2 ?_)
 refine .block ?_
 refine .lp (fun y m => ∃ (Z0 : Nat) (Z1 Z2 : _), y = ⟨[(1, .int .i64 Z1), (8, .int .i64 Z2)], [], [], []⟩ ∧ Z0 = m ∧ X1d x0 (x0.size : Int) Z0 Z1 Z2 = some r) [(0, _), (7, _)] [] [] ⟨big, x1, 0, rfl, rfl, h⟩ (fun y m hI hb14 => ?_)
 obtain ⟨n9, v11, v12, rfl, rfl, r13⟩ := hI
 refine .gn 0 ?_
 obtain ⟨m18, rfl⟩ : ∃ m, n9 = m + 1 := by cases n9 with | zero => exact absurd (show (none : Option _) = some _ from r13) (by simp) | succ m => exact ⟨m, rfl⟩
 have r17 : X37 x0 (x0.size : Int) (X1d x0 (x0.size : Int) m18) v11 v12 = some r := r13; clear r13; unfold X37 at r17; try dsimp only at r17
 refine .go 5 ?_
 refine .cH r17 (fun c19 r20 => ?_) (fun c19 r23 => ?_)
 ·refine .go 2 ?_
  refine .block (.go 10 ?_)
  obtain ⟨u21, hu21, r22⟩ := X0 r20
  refine .q .ro (.sidx rfl rfl Tryz.underlying9 hu21) rfl (.q .ro (.convw Tryz.underlying5 Tryz.underlying3 rfl) rfl (.go 2 ?_))
  refine .q .ro (.remt rfl rfl (by decide)) rfl (.go 7 ?_)
  exact (hb14 _ _ ⟨m18, (Int.tmod (w64 ((w64 ((w64 (v11 * 1000003)) + (w64 u21))) + 1)) 2147483647), (w64 (v12 + 1)), rfl, rfl, r22⟩ (Nat.lt_succ_self _)).ar
 ·refine .exit rfl ?_
  refine .go 5 ?_
  cases r23
  refine .rS [.tmp 4] [_] Tryz.func137 Tryz.results137 ⟨rfl, rfl, rfl⟩
theorem Xgk {x0 : ByteArray} {r : Int} (hG : G ∈ Fs)  (h : Xac x0 = some r) : RetS Tryz.prog 112 #[.string x0] Fs [] [] (rv (.int .i64 r)) := by
 unfold Xac at h
 try dsimp only at h
 refine RetS.st [(0, _)] Tryz.func112 Tryz.ntmps112 hG fun w0 S0 hS0 B0 => ?_
 refine .go 7 ?_
 obtain ⟨u1, hu1, r2⟩ := X0 h
 refine .cV [_, _] Tryz.call137 (Xc2 mcs  hu1) ?_
 refine .go 2 ?_
 cases r2
 refine .rS [.tmp 2] [_] Tryz.func112 Tryz.results112 ⟨rfl, rfl, rfl⟩
theorem Xbg {x0_0 : Int} {x0_1 : List (Int × Int)} {x1 : ByteArray} {r : (List Int)} (hG : G ∈ Fs) (s0_1 : SlR (Rep.pair ri ri) G a0_1 k0_1 x0_1) (h : X59 (x0_0, x0_1) x1 = some r) : RetS Tryz.prog 71 #[.agg #[.int .i64 x0_0, .slice a0_1 x0_1.length k0_1], .string x1] Fs [] [] (fun v bo so => ∃ (oa0 : Option Addr) (ok0 : Nat) (oc0 : List Value), v = .slice oa0 r.length ok0 ∧ bo = [] ∧ so = [.s (.slice oa0 r.length ok0) 3 1 r.length oc0] ∧ OL ri G oc0 r) := by
 unfold X59 at h
 try dsimp only at h
 refine RetS.st [(0, _), (1, _)] Tryz.func71 Tryz.ntmps71 hG fun w0 S0 hS0 B0 => ?_
 refine .go 2 ?_
 refine .box [_, _] .ro rfl rfl rfl (fun b1 hb1 => ?_)
 refine .go 3 ?_
 refine .drawL (.q 0 (.q 1 (.e 2 1 (.e 3 1 (.q 4 (.q 5 (.q 6 (.q 7 (.q 8 .nil))))))))) [_] (by kernel_rfl) (by kernel_rfl) (X1 [0] rfl) (.dq (.load_own_a 0 [_, _] rfl rfl ty28 rfl) rfl (.go 1 ?_))
 obtain ⟨u2, hu2, r3⟩ := X0 h
 refine .cVd [_] Tryz.call112 (Xgk mcs  hu2) ?_
 refine .clsL (HpLe.refl _) (X1 [0] rfl) ?_
 obtain ⟨u6, hu6, r7⟩ := X0 r3
 refine .cSd [_, _] Tryz.call111 (Xe6 mcs s0_1 hu6) (fun v9 bo so h8 => ?_)
 obtain ⟨a11, k12, cs13, rfl, rfl, rfl, o14⟩ := h8
 refine .gn 0 ?_
 refine .clsL (HpLe.refl _) (X1 [0] rfl) (.go 11 ?_)
 cases r7
 refine .drop 1 0 [] _ rfl rfl ?_
 refine .rS [.tmp 4] [_] Tryz.func71 Tryz.results71 ⟨a11, k12, cs13, rfl, rfl, rfl, o14⟩
theorem Xdn {x0_0 : Int} {x0_1 : List (Int × Int)} {x0_2 : Int} {x0_3 : List (List (ByteArray × Int))} {r : Int} (hG : G ∈ Fs) (s0_1 : SlR (Rep.pair ri ri) G a0_1 k0_1 x0_1) (s0_3 : SlR (Rep.sl (Rep.pair Rep.str ri)) G a0_3 k0_3 x0_3) (h : X3e ((x0_0, x0_1), x0_2, x0_3) = some r) : RetS Tryz.prog 32 #[.agg #[.int .i64 x0_0, .slice a0_1 x0_1.length k0_1, .int .i64 x0_2, .slice a0_3 x0_3.length k0_3]] Fs [] [] (rv (.int .i64 r)) := by
 unfold X3e at h
 try dsimp only at h
 refine RetS.st [(0, _)] Tryz.func32 Tryz.ntmps32 hG fun w0 S0 hS0 B0 => ?_
 refine .go 2 ?_
 refine .box [_, _, _, _] .ro rfl rfl rfl (fun b1 hb1 => ?_)
 refine .go 6 ?_
 refine .q .ro (.load_own_a 0 [_, _] rfl rfl ty28 rfl) rfl ?_
 obtain ⟨u2, hu2, r3⟩ := X0 h
 refine .cV [_] Tryz.call67 (Xa6 mcs s0_1 hu2) ?_
 refine .go 2 ?_
 obtain ⟨u12, h13, r14⟩ := X0 r3
 refine .kR (fun y => y = ⟨[(17, .bool u12)], G :: Fs, [], []⟩) [(1, _)] [_] [0] [] [] 5 ?_ ?_
 ·rintro _ rfl
  refine .gn 1 ?_
  refine .kR (fun y => y = ⟨[(26, .bool (decide ((u12 = true) ∨ ((x0_3.length : Int) ≠ x0_0))))], G :: Fs, [], []⟩) [(1, _)] [_] [0] [] [] 8 ?_ ?_
  ·rintro _ rfl
   refine .gn 1 ?_
   refine .cH r14 (fun c21 r22 => ?_) (fun c21 r23 => ?_)
   ·refine .go 4 ?_
    cases r22
    refine .drop 1 0 [] _ rfl rfl ?_
    refine .rS [.tmp 2] [_] Tryz.func32 Tryz.results32 ⟨rfl, rfl, rfl⟩
   ·refine .go 3 ?_
    refine .mkMap (Value.string) (Value.bool) .ro rfl (fun b24 hb24 => ?_)
    refine .go 10 ?_
    refine .block (.pull 1 rfl [_, _] rfl (.pull 1 rfl [_, _] rfl ?_))
    refine .lp (fun y m => ∃ (Z0 : Nat) (Z1 : List (List (ByteArray × Int))) (Z2 : _) (Z3 : List (ByteArray × Bool)) (Z4 Z5 : _), y = ⟨[(31, .int .i64 (Z0 : Int))], [Z2], [(b24, mObj (Value.string) (Value.bool) Z3), (b1, .cells #[.int .i64 Z4, .slice a0_1 x0_1.length k0_1, .int .i64 Z5, .slice a0_3 x0_3.length k0_3] 31 (0, 0))], []⟩ ∧ Z1.length = m ∧ HpLe G Z2 ∧ Bd w0 S0 Fs Z2 ∧ List.drop Z0 x0_3 = Z1 ∧ Xr x0_1 Z1 Z0 Z3 Z4 Z5 = some r) [(1, _), (3, _), (29, _), (30, _)] [] [] ⟨0, x0_3, G, ([] : List (ByteArray × Bool)), x0_0, x0_2, rfl, rfl, (HpLe.refl _), B0, rfl, r23⟩ (fun y m hI hb15 => ?_)
    obtain ⟨i16, w19, G20, v25, v26, v27, rfl, rfl, e30, B31, g33, r34⟩ := hI
    refine .gn 0 ?_
    cases w19 with
    | nil =>
     rw [Xr] at r34; try dsimp only at r34
     refine .go 5 ?_
     refine .cond_dec rfl (fun c => absurd c (X8 g33)) (fun _ => ?_)
     refine .exit rfl (.go 4 ?_)
     cases r34
     refine .drop 2 0 [] _ rfl rfl ?_
     refine .rS [.tmp 2] [_] Tryz.func32 Tryz.results32 ⟨rfl, rfl, rfl⟩
    | cons x35 xs36 =>
     have r37 : X2k x0_1 (Xr x0_1 xs36 (i16 + 1)) x35 i16 v25 v26 v27 = some r := r34; clear r34; unfold X2k at r37; try dsimp only at r37
     refine .go 5 ?_
     refine .cond_dec rfl (fun _ => ?_) (fun c => absurd (Xf g33) c)
     refine .go 2 ?_
     refine .block (.go 3 ?_)
     obtain ⟨c38, p39, h40⟩ := SlR.get (SlR.mono e30 s0_3) (X2 g33)
     obtain ⟨a41, k42, rfl, s43⟩ := h40
     refine .q .ro (.idxR (SlR.mono e30 s0_3) rfl rfl (X2 g33) sl29 ty32.sz) rfl (.q .ro (.load_rp p39 mcs rfl ty32 rfl) rfl (.go 12 ?_))
     obtain ⟨u44, h45, r46⟩ := X0 r37
     refine .kR (fun y => y = ⟨[(45, .bool u44)], G20 :: Fs, [], []⟩) [(31, _), (1, _), (3, _), (29, _), (30, _), (4, _), (5, _)] [_, _] [0, 1] [] [] 4 ?_ ?_
     ·rintro _ rfl
      refine .gn 1 ?_
      refine .cB r46 (fun c47 r48 => ?_) (fun c47 r49 => ?_)
      ·refine .go 4 ?_
       cases r48
       refine .drop 2 0 [] _ rfl rfl ?_
       refine .rS [.tmp 2] [_] Tryz.func32 Tryz.results32 ⟨rfl, rfl, rfl⟩
      ·refine .go 7 ?_
       refine .block ?_
       refine .lp (fun y m => ∃ (Z0 : Nat) (Z1 : List (ByteArray × Int)) (Z2 : _) (Z3 : List (ByteArray × Bool)), y = ⟨[(48, .int .i64 (Z0 : Int))], [Z2], [(b24, mObj (Value.string) (Value.bool) Z3)], []⟩ ∧ Z1.length = m ∧ HpLe G20 Z2 ∧ Bd w0 S0 Fs Z2 ∧ List.drop Z0 x35 = Z1 ∧ X19 (Xr x0_1 xs36 (i16 + 1)) (i16 : Int) v26 x0_1 v27 Z1 Z3 = some r) [(31, _), (1, _), (3, _), (29, _), (30, _), (4, _), (46, _), (47, _)] [_] [] ⟨0, x35, G20, v25, rfl, rfl, (HpLe.refl _), B31, rfl, r49⟩ (fun y m hI hb50 => ?_)
       obtain ⟨i51, w52, G53, v54, rfl, rfl, e55, B56, g57, r58⟩ := hI
       refine .gn 0 ?_
       cases w52 with
       | nil =>
        rw [X19] at r58; try dsimp only at r58
        refine .go 5 ?_
        refine .cond_dec rfl (fun c => absurd c (X8 g57)) (fun _ => ?_)
        refine .exit rfl (.go 5 ?_)
        exact (hb15 _ _ ⟨(i16 + 1), xs36, G53, v54, v26, v27, rfl, rfl, (HpLe.trans e30 e55), B56, (X3 g33), r58⟩ (Nat.lt_succ_self _)).ax ⟨(congrArg (fun z => some (Value.int .i64 z)) (X7 (SlR.len s0_3) g33)), rfl, rfl, rfl, rfl, trivial⟩
       | cons x59 xs60 =>
        have r61 : X2j (Xr x0_1 xs36 (i16 + 1)) (i16 : Int) v26 x0_1 v27 (X19 (Xr x0_1 xs36 (i16 + 1)) (i16 : Int) v26 x0_1 v27 xs60) x59 v54 = some r := r58; clear r58; unfold X2j at r61; try dsimp only at r61
        refine .go 5 ?_
        refine .cond_dec rfl (fun _ => ?_) (fun c => absurd (Xf g57) c)
        refine .go 2 ?_
        refine .block (.go 2 ?_)
        obtain ⟨c62, p63, h65⟩ := SlR.get (SlR.mono e55 s43) (X2 g57)
        obtain ⟨_, _, rfl, rfl, rfl⟩ := h65
        refine .q .ro (.idxR (SlR.mono e55 s43) rfl rfl (X2 g57) sl32 ty69.sz) rfl (.q .ro (.load_rp_a [_, _] p63 mcs rfl ty69 rfl) rfl ?_)
        refine .alloc .ro ty69 rfl (fun b66 hb66 => ?_)
        refine .store 0 [_, _] [_, _, _] .ro rfl rfl rfl ty69 rfl rfl rfl rfl (.go 7 ?_)
        refine .q .ro (.mapGet 1 (f := Value.string) (g := Value.bool) (l := v54) (x := x59.1) (z := false) rfl rfl rfl Tryz.underlying130 Tryz.underlying9 Xhn Xho (by kernel_rfl)) rfl (.go 1 ?_)
        obtain ⟨u72, h73, r74⟩ := X0 r61
        refine .cutR 9 (β := Hp) (fun y => [(65, .bool u72)]) [(48, _), (31, _), (1, _), (3, _), (29, _), (30, _), (4, _), (46, _), (47, _), (7, _)] (fun y => y :: Fs) (fun y => []) [_, _, _] (fun y => []) [] (fun y => HpLe G53 y ∧ Bd w0 S0 Fs y) ⟨rfl, rfl, rfl, rfl, rfl, rfl, rfl, rfl, rfl, rfl, trivial⟩ [0, 1, 2] rfl [] rfl ?_ ?_
        ·rintro G75 ⟨e76, B77⟩
         refine .gn 1 ?_
         refine .cB r74 (fun c78 r79 => ?_) (fun c78 r80 => ?_)
         ·refine .go 4 ?_
          cases r79
          refine .drop 3 0 [] _ rfl rfl ?_
          refine .rS [.tmp 2] [_] Tryz.func32 Tryz.results32 ⟨rfl, rfl, rfl⟩
         ·refine .go 5 ?_
          refine .mapPut 1 (f := Value.string) (g := Value.bool) (l := v54) (x := x59.1) (y := true) (.inl rfl) .ro rfl rfl rfl rfl Tryz.underlying130 Tryz.underlying9 Xhn Xho _ rfl (.go 6 ?_)
          refine .drop 1 0 [_, _] _ rfl rfl ?_
          exact (hb50 _ _ ⟨(i51 + 1), xs60, G75, (mput v54 x59.1 true), rfl, rfl, (HpLe.trans e55 e76), B77, (X3 g57), r80⟩ (Nat.lt_succ_self _)).ax ⟨(congrArg (fun z => some (Value.int .i64 z)) (X7 (SlR.len s43) g57)), rfl, rfl, rfl, rfl, rfl, rfl, rfl, rfl, trivial⟩
        ·intro hb81
         refine .split_b 56 rfl (fun c82 => ?_) (fun c82 => ?_)
         ·have r83 := ifT h73 c82
          refine .go 9 ?_
          exact .arr (hb81 G53 ⟨(HpLe.refl _), B56⟩) ⟨sval r83, rfl, rfl, rfl, rfl, rfl, rfl, rfl, rfl, rfl, rfl, trivial⟩
         ·have r84 := ifBF h73 c82
          refine .go 3 ?_
          refine .q .ro (.load_own_a 2 [_, _] rfl rfl ty28 rfl) rfl (.go 5 ?_)
          obtain ⟨u85, hu85, r86⟩ := X0 r84
          refine .cS [_, _] Tryz.call71 (Xbg mcs (SlR.mono (HpLe.trans e30 e55) s0_1) hu85) (fun v87 bo so h88 => ?_)
          obtain ⟨a89, k90, cs91, rfl, rfl, rfl, o92⟩ := h88
          refine .gn 3 ?_
          refine .freezeR 0 rfl rfl o92 [] rfl B56 (fun G93 e94 B95 s96 => ?_)
          obtain ⟨u97, hu97, r98⟩ := X0 r86
          refine .cV [_, _] Tryz.call70 (Xa7 mcs s96 hu97) ?_
          refine .go 3 ?_
          exact .arr (hb81 G93 ⟨e94, B95⟩) ⟨sval r98, rfl, rfl, rfl, rfl, rfl, rfl, rfl, rfl, rfl, rfl, trivial⟩
     ·intro hb99
      refine .split 41 rfl (fun c100 => ?_) (fun c100 => ?_)
      ·have r101 := ifT h45 c100
       refine .go 4 ?_
       exact (hb99 _ rfl).ax ⟨sval r101, rfl, rfl, rfl, rfl, rfl, rfl, rfl, trivial⟩
      ·have r102 := ifF h45 c100
       refine .go 3 ?_
       obtain ⟨u103, hu103, r104⟩ := X0 r102
       refine .cV [_] Tryz.call69 (Xai mcs s43 hu103) ?_
       refine .go 3 ?_
       exact (hb99 _ rfl).ax ⟨sval r104, rfl, rfl, rfl, rfl, rfl, rfl, rfl, trivial⟩
  ·intro hb18
   refine .split_b 18 rfl (fun c17 => ?_) (fun c17 => ?_)
   ·refine .go 8 ?_
    exact (hb18 _ rfl).ax ⟨X3s c17, rfl, trivial⟩
   ·refine .go 15 ?_
    exact (hb18 _ rfl).ax ⟨X44 (Xga c17), rfl, trivial⟩
 ·intro hb11
  refine .split 12 rfl (fun c10 => ?_) (fun c10 => ?_)
  ·have r105 := ifT h13 c10
   refine .go 5 ?_
   exact (hb11 _ rfl).ax ⟨sval r105, rfl, trivial⟩
  ·have r106 := ifF h13 c10
   refine .go 5 ?_
   obtain ⟨u107, hu107, r108⟩ := X0 r106
   refine .cV [_] Tryz.call68 (X8f mcs  hu107) ?_
   refine .go 3 ?_
   exact (hb11 _ rfl).ax ⟨sval r108, rfl, trivial⟩
theorem Xcr {x0_0 : Int} {r : (Int × Bool)} (hG : G ∈ Fs)  (h : X6r x0_0 = some r) : RetS Tryz.prog 72 #[.agg #[.int .i64 x0_0]] Fs [] [] (rv (.tuple #[.int .i64 r.1, .bool r.2])) := by
 unfold X6r at h
 try dsimp only at h
 refine RetS.st [(0, _)] Tryz.func72 Tryz.ntmps72 hG fun w0 S0 hS0 B0 => ?_
 refine .go 2 ?_
 refine .box [_] .ro rfl rfl rfl (fun b1 hb1 => ?_)
 refine .go 10 ?_
 refine .kR (fun y => y = ⟨[(12, .bool (decide ((x0_0 < 2) ∨ (65521 < x0_0))))], G :: Fs, [], []⟩) [(1, _)] [_] [0] [] [] 4 ?_ ?_
 ·rintro _ rfl
  refine .gn 1 ?_
  refine .cH h (fun c6 r7 => ?_) (fun c6 r8 => ?_)
  ·refine .go 5 ?_
   cases r7
   refine .drop 1 0 [] _ rfl rfl ?_
   refine .rS [.tmp 2, .tmp 3] [_, _] Tryz.func72 Tryz.results72 ⟨rfl, rfl, rfl⟩
  ·refine .go 6 ?_
   refine .kB (fun y => ∃ (Z0 : _), y = ⟨[], G :: Fs, [(b1, .cells #[.int .i64 Z0] 36 (0, 0))], []⟩ ∧ X5a Z0 = some r) [(1, _)] [] [] [] [] ?_ ?_
   ·rintro _ ⟨v36, rfl, r38⟩
    refine .gn 0 ?_
    unfold X5a at r38
    try dsimp only at r38
    refine .go 7 ?_
    cases r38
    refine .drop 1 0 [] _ rfl rfl ?_
    refine .rS [.tmp 2, .tmp 3] [_, _] Tryz.func72 Tryz.results72 ⟨rfl, rfl, rfl⟩
   ·intro hb39
    refine .block ?_
    refine .lp (fun y m => ∃ (Z0 : Nat) (Z1 : _), y = ⟨[(4, .int .i64 Z1)], [], [], []⟩ ∧ Z0 = m ∧ X6q X5a x0_0 Z0 Z1 = some r) [(1, _)] [_] [] ⟨big, 2, rfl, rfl, r8⟩ (fun y m hI hb55 => ?_)
    obtain ⟨n51, v53, rfl, rfl, r54⟩ := hI
    refine .gn 0 ?_
    obtain ⟨m58, rfl⟩ : ∃ m, n51 = m + 1 := by cases n51 with | zero => exact absurd (show (none : Option _) = some _ from r54) (by simp) | succ m => exact ⟨m, rfl⟩
    have r57 : X95 X5a x0_0 (X6q X5a x0_0 m58) v53 = some r := r54; clear r54; unfold X95 at r57; try dsimp only at r57
    refine .go 10 ?_
    refine .cH r57 (fun c59 r60 => ?_) (fun c59 r66 => ?_)
    ·refine .go 2 ?_
     refine .block (.go 5 ?_)
     obtain ⟨u61, hu61, r62⟩ := X0 r60
     refine .q .ro (.remt rfl rfl (Xbz hu61)) rfl (.go 2 ?_)
     refine .cH r62 (fun c63 r64 => ?_) (fun c63 r65 => ?_)
     ·refine .go 5 ?_
      cases r64
      refine .drop 1 0 [] _ rfl rfl ?_
      refine .rS [.tmp 2, .tmp 3] [_, _] Tryz.func72 Tryz.results72 ⟨rfl, rfl, rfl⟩
     ·refine .go 7 ?_
      exact (hb55 _ _ ⟨m58, (w64 (v53 + 1)), rfl, rfl, r65⟩ (Nat.lt_succ_self _)).ar
    ·refine .exit rfl ?_
     exact (hb39 _ ⟨(x0_0), rfl, r66⟩).ar
 ·intro hb3
  refine .split 8 rfl (fun c2 => ?_) (fun c2 => ?_)
  ·refine .go 4 ?_
   exact (hb3 _ rfl).ax ⟨X3s c2, rfl, trivial⟩
  ·refine .go 7 ?_
   exact (hb3 _ rfl).ax ⟨X44 c2, rfl, trivial⟩
theorem Xfa {x0_0 : Int} {r : Int} (hG : G ∈ Fs)  (h : X9j x0_0 = some r) : RetS Tryz.prog 33 #[.agg #[.int .i64 x0_0]] Fs [] [] (rv (.int .i64 r)) := by
 unfold X9j at h
 try dsimp only at h
 refine RetS.st [(0, _)] Tryz.func33 Tryz.ntmps33 hG fun w0 S0 hS0 B0 => ?_
 refine .go 2 ?_
 refine .box [_] .ro rfl rfl rfl (fun b1 hb1 => ?_)
 refine .go 5 ?_
 refine .q .ro (.load_own_a 0 [_] rfl rfl ty36 rfl) rfl ?_
 obtain ⟨u2, hu2, r3⟩ := X0 h
 refine .cV [_] Tryz.call72 (Xcr mcs  hu2) ?_
 refine .go 11 ?_
 refine .cB r3 (fun c6 r7 => ?_) (fun c6 r8 => ?_)
 ·refine .go 4 ?_
  cases r7
  refine .drop 1 0 [] _ rfl rfl ?_
  refine .rS [.tmp 2] [_] Tryz.func33 Tryz.results33 ⟨rfl, rfl, rfl⟩
 ·refine .go 5 ?_
  cases r8
  refine .drop 1 0 [] _ rfl rfl ?_
  refine .rS [.tmp 2] [_] Tryz.func33 Tryz.results33 ⟨rfl, rfl, rfl⟩
theorem Xb3 {x0 : Int} {x1 : List (ByteArray × Int)} {r : (ByteArray × Int)} (hG : G ∈ Fs) (s1 : SlR (Rep.pair Rep.str ri) G a1 k1 x1) (h : X2q x0 x1 = some r) : RetS Tryz.prog 34 #[.int .i64 x0, .slice a1 x1.length k1] Fs [] [] (rv (.tuple #[.string r.1, .int .i64 r.2])) := by
 unfold X2q at h
 try dsimp only at h
 refine RetS.st [(0, _), (1, _)] Tryz.func34 Tryz.ntmps34 hG fun w0 S0 hS0 B0 => ?_
 refine .go 6 ?_
 refine .block (.go 3 ?_)
 obtain ⟨u1, hu1, r2⟩ := X0 h
 refine .cV [_] Tryz.call68 (X8f mcs  hu1) ?_
 refine .go 3 ?_
 refine .cB r2 (fun c5 r6 => ?_) (fun c5 r7 => ?_)
 ·refine .go 5 ?_
  cases r6
  refine .rS [.tmp 4, .tmp 5] [_, _] Tryz.func34 Tryz.results34 ⟨rfl, rfl, rfl⟩
 ·refine .go 8 ?_
  refine .cH r7 (fun c8 r9 => ?_) (fun c8 r10 => ?_)
  ·refine .go 5 ?_
   cases r9
   refine .rS [.tmp 4, .tmp 5] [_, _] Tryz.func34 Tryz.results34 ⟨rfl, rfl, rfl⟩
  ·refine .go 3 ?_
   obtain ⟨u11, hu11, r12⟩ := X0 r10
   refine .cV [_] Tryz.call69 (Xai mcs s1 hu11) ?_
   refine .go 3 ?_
   refine .cB r12 (fun c15 r16 => ?_) (fun c15 r17 => ?_)
   ·refine .go 5 ?_
    cases r16
    refine .rS [.tmp 4, .tmp 5] [_, _] Tryz.func34 Tryz.results34 ⟨rfl, rfl, rfl⟩
   ·refine .go 11 ?_
    obtain ⟨u18, hu18, r19⟩ := X0 r17
    refine .makeR (G := G) (Q := (Rep.int .u8)) .ro sl22 ty5 rfl rfl rfl ((Rep.intI .u8 0) :) rfl rfl hu18 rfl rfl (fun b20 cs21 hb20 o22 => ?_)
    refine .go 9 ?_
    refine .kB (fun y => ∃ (Z0 : List Int) (Z1 : _) (Z2 : Nat) (Z3 : _), y = ⟨[(7, .slice Z1 Z0.length Z2)], G :: Fs, [], [.s (.slice Z1 Z0.length Z2) 5 1 Z0.length Z3]⟩ ∧ OL (Rep.int .u8) G Z3 Z0 ∧ X10 Z0 = some r) [] [] [] [] [] ?_ ?_
    ·rintro _ ⟨v13, a14, k23, cs24, rfl, o25, r26⟩
     refine .gn 0 ?_
     unfold X10 at r26
     try dsimp only at r26
     refine .go 3 ?_
     refine .freezeR 0 rfl rfl o25 [] rfl B0 (fun G27 e28 B29 s30 => ?_)
     refine .q .ro (.b2s s30 mcs rfl Tryz.underlying22 Tryz.underlying5 Tryz.underlying9) rfl (.go 3 ?_)
     cases r26
     refine .rS [.tmp 4, .tmp 5] [_, _] Tryz.func34 Tryz.results34 ⟨rfl, rfl, rfl⟩
    ·intro hb31
     refine .block ?_
     refine .lp (fun y m => ∃ (Z0 : Nat) (Z1 : List (ByteArray × Int)) (Z2 : List Int) (Z3 : _) (Z4 : Nat) (Z5 : _), y = ⟨[(7, .slice Z3 Z2.length Z4), (31, .int .i64 (Z0 : Int))], [], [], [.s (.slice Z3 Z2.length Z4) 5 1 Z2.length Z5]⟩ ∧ Z1.length = m ∧ OL (Rep.int .u8) G Z5 Z2 ∧ List.drop Z0 x1 = Z1 ∧ X11 X10 Z1 Z0 Z2 = some r) [(6, _), (29, _), (30, _)] [] [] ⟨0, x1, u18, (some ⟨b20, 0, none⟩), u18.length, cs21, rfl, rfl, o22, rfl, r19⟩ (fun y m hI hb33 => ?_)
     obtain ⟨i35, w36, v37, a38, k39, cs40, rfl, rfl, o41, g42, r43⟩ := hI
     refine .gn 0 ?_
     cases w36 with
     | nil =>
      rw [X11] at r43; try dsimp only at r43
      refine .go 5 ?_
      refine .cond_dec rfl (fun c => absurd c (X8 g42)) (fun _ => ?_)
      refine .exit rfl ?_
      exact (hb31 _ ⟨v37, a38, k39, cs40, rfl, o41, r43⟩).ar
     | cons x44 xs45 =>
      have r46 : X4u X10 (X11 X10 xs45 (i35 + 1)) x44 i35 v37 = some r := r43; clear r43; unfold X4u at r46; try dsimp only at r46
      refine .go 5 ?_
      refine .cond_dec rfl (fun _ => ?_) (fun c => absurd (Xf g42) c)
      refine .go 2 ?_
      refine .block (.go 3 ?_)
      obtain ⟨c47, p48, h49⟩ := SlR.get s1 (X2 g42)
      obtain ⟨_, _, rfl, rfl, rfl⟩ := h49
      refine .q .ro (.idxR s1 rfl rfl (X2 g42) sl32 ty69.sz) rfl (.q .ro (.load_rp_a [_, _] p48 mcs rfl ty69 rfl) rfl ?_)
      refine .alloc .ro ty69 rfl (fun b50 hb50 => ?_)
      refine .go 1 ?_
      refine .store 0 [_, _] [_] .ro rfl rfl rfl ty69 rfl rfl rfl rfl (.go 11 ?_)
      refine .owncap 0 rfl (fun h51 => ?_)
      obtain ⟨u52, hu52, r53⟩ := X0 r46
      refine .q .ro (.sliceP rfl (PartV.all h51) hu52 sl22 ty5.sz (fun h => .yes' rfl h) (fun h => .yes' rfl h)) rfl (.go 7 ?_)
      refine .q .ro (.len_s rfl Tryz.underlying9) rfl (.q .ro (.convw Tryz.underlying3 Tryz.underlying5 rfl) rfl ?_)
      obtain ⟨u54, hu54, r55⟩ := X0 r53
      obtain ⟨u56, hu56, r57⟩ := X0 r55
      obtain ⟨c58, p59, h60⟩ := OL.get o41 hu56
      obtain rfl := h60
      refine .q .ro (.idxP 0 rfl rfl (PartV.psub (PartV.all h51) hu52) rfl hu54 hu56 sl22 ty5.sz) rfl ?_
      obtain ⟨u61, hu61, r62⟩ := X0 r57
      refine .storeR 0 0 (Q := (Rep.int .u8)) .ro rfl rfl o41 hu61 rfl (.inl ⟨rfl, rfl⟩) rfl ty5 p59 ((Rep.intI .u8 (wu8 (x44.1.size : Int))) :) rfl rfl (fun cs63 hlcs63 o65 => ?_)
      refine .reval 7 hlcs63 rfl (.go 2 ?_)
      refine .drawL (.q 0 (.q 2 (.q 3 (.e 1 1 (.e 4 2 .nil))))) [_] (by kernel_rfl) (by kernel_rfl) (X1 [0] rfl) (.go 3 ?_)
      obtain ⟨u66, hu66, r67⟩ := X0 r62
      refine .q .d1 (.sliceP rfl (PartV.psub (PartV.all h51) hu52) hu66 sl22 ty5.sz (fun h => .yes' rfl h) (fun _ => .no)) rfl (.clsL (HpLe.refl _) (X1 [0] rfl) ?_)
      obtain ⟨u70, hu70, r71⟩ := X0 r67
      obtain ⟨u72, hu72, r73⟩ := X0 r71
      refine .copyG 0 (Q := (Rep.int .u8)) .d2 sl22 ty5.sz rfl o65 hu70 rfl (PartV.psub (PartV.psub (PartV.all h51) hu52) hu66) rfl (SrcV.str' hu72) rfl (fun cs74 hlcs74 o75 => ?_)
      refine .reval 7 hlcs74 rfl (.go 5 ?_)
      refine .block ?_
      refine .lp (fun y m => ∃ (Z0 : Nat) (Z1 : _) (Z2 : List Int) (Z3 : _), y = ⟨[(56, .int .i64 Z1), (7, .slice a38 Z2.length k39)], [], [], [.s (.slice a38 Z2.length k39) 5 1 Z2.length Z3]⟩ ∧ Z0 = m ∧ OL (Rep.int .u8) G Z3 Z2 ∧ Z2.length = v37.length ∧ X1p (X11 X10 xs45 (i35 + 1)) u52.1 u52.2 x44.2 Z0 Z1 Z2 = some r) [(31, _), (6, _), (29, _), (30, _), (9, _), (10, _)] [_] [] ⟨big, 0, (lcpy u61 u66.1 u70.length u72), cs74, rfl, rfl, o75, (hlcs74.trans hlcs63), r73⟩ (fun y m hI hb76 => ?_)
      obtain ⟨n77, v78, v79, cs80, rfl, rfl, o81, hl82, r83⟩ := hI
      refine .gn 0 ?_
      obtain ⟨m84, rfl⟩ : ∃ m, n77 = m + 1 := by cases n77 with | zero => exact absurd (show (none : Option _) = some _ from r83) (by simp) | succ m => exact ⟨m, rfl⟩
      have r85 : X4t (X11 X10 xs45 (i35 + 1)) u52.1 u52.2 x44.2 (X1p (X11 X10 xs45 (i35 + 1)) u52.1 u52.2 x44.2 m84) v78 v79 = some r := r83; clear r83; unfold X4t at r85; try dsimp only at r85
      refine .go 5 ?_
      refine .cH r85 (fun c86 r87 => ?_) (fun c86 r88 => ?_)
      ·refine .go 2 ?_
       refine .block (.go 13 ?_)
       obtain ⟨u89, hu89, r90⟩ := X0 r87
       refine .q .ro (.shrw rfl rfl (Xj7 hu89)) rfl (.q .ro (.convw Tryz.underlying3 Tryz.underlying5 rfl) rfl ?_)
       obtain ⟨u91, hu91, r92⟩ := X0 r90
       obtain ⟨u93, hu93, r94⟩ := X0 r92
       obtain ⟨c95, p96, h97⟩ := OL.get o81 hu93
       obtain rfl := h97
       refine .q .ro (.idxP 0 rfl rfl (PartV.psub (PartV.all h51) hu52) rfl hu91 hu93 sl22 ty5.sz) rfl ?_
       obtain ⟨u98, hu98, r99⟩ := X0 r94
       refine .storeR 0 0 (Q := (Rep.int .u8)) .ro rfl rfl o81 hu98 rfl (.inl ⟨rfl, rfl⟩) rfl ty5 p96 ((Rep.intI .u8 (wu8 (shrI .i64 x44.2 (w64 (8 * v78))))) :) rfl rfl (fun cs100 hlcs100 o101 => ?_)
       refine .reval 7 hlcs100 rfl (.go 6 ?_)
       exact (hb76 _ _ ⟨m84, (w64 (v78 + 1)), u98, cs100, rfl, rfl, o101, (hlcs100.trans hl82), r99⟩ (Nat.lt_succ_self _)).ar
      ·refine .exit rfl ?_
       refine .go 5 ?_
       refine .drop 1 0 [] _ rfl rfl ?_
       exact (hb33 _ _ ⟨(i35 + 1), xs45, v79, a38, k39, cs80, rfl, rfl, o81, (X3 g42), r88⟩ (Nat.lt_succ_self _)).ax ⟨rfl, (congrArg (fun z => some (Value.int .i64 z)) (X7 (SlR.len s1) g42)), rfl, rfl, rfl, trivial⟩
theorem X8b {x0 : List Int} {r : (List Int)} (hG : G ∈ Fs) (s0 : SlR ri G a0 k0 x0) (h : X2i x0 = some r) : RetS Tryz.prog 65 #[.slice a0 x0.length k0] Fs [] [] (fun v bo so => ∃ (oa0 : Option Addr) (ok0 : Nat) (oc0 : List Value), v = .slice oa0 r.length ok0 ∧ bo = [] ∧ so = [.s (.slice oa0 r.length ok0) 3 1 r.length oc0] ∧ OL ri G oc0 r) := by
 unfold X2i at h
 try dsimp only at h
 refine RetS.st [(0, _)] Tryz.func65 Tryz.ntmps65 hG fun w0 S0 hS0 B0 => ?_
 refine .go 8 ?_
 refine .q .ro (.eqnil Tryz.underlying48 rfl rfl) rfl (.go 1 ?_)
 refine .cond rfl (fun c1 => ?_) (fun _ => ?_)
 ·have h2 := SlR.isnil s0 c1
  refine .go 4 ?_
  refine .own_nil 3 1 ?_
  obtain rfl := Xgc h2 h
  refine .rS [.tmp 2] [_] Tryz.func65 Tryz.results65 ⟨none, 0, [], rfl, rfl, rfl, (OL.nil (Rp' := ri))⟩
 ·refine .go 3 ?_
  refine .lit [] [] .ro sl48 ty3 rfl rfl rfl rfl rfl rfl (fun b4 hb4 => ?_)
  have o5 : OL ri G [] ([] : List Int) := ((OL.nil (Rp' := ri)) :)
  refine .reval 5 (n' := ([] : List Int).length) rfl rfl (.go 1 ?_)
  obtain ⟨u11, hu11, r12⟩ := X0 h
  refine .appR (Q := ri) 0 .ro sl48 ty3 rfl rfl rfl rfl rfl o5 rfl rfl s0 rfl mcs hu11 rfl (fun a7 k8 cs9 o10 => ?_)
  refine .go 2 ?_
  cases r12
  refine .rS [.tmp 2] [_] Tryz.func65 Tryz.results65 ⟨a7, k8, cs9, rfl, rfl, rfl, o10⟩
theorem X9y {x0 : List Int} {F1 : FuncId} {c1 : List Value} {x1 : Int → Option Bool} {r : Int} (hG : G ∈ Fs) (s0 : SlR ri G a0 k0 x0) (hc1 : ∀ args w, (callFunc F1 args).run Tryz.prog w = .ok (.enter F1 args) w) (hf1 : ∀ (Fs' : List Hp) (G1 : Hp), HpLe G G1 → G1 ∈ Fs' → ∀ (y0 : Int) (r : Bool), x1 y0 = some r → RetS Tryz.prog F1 (([.int .i64 y0] : List Value) ++ c1).toArray Fs' [] [] (fun v bo so => v = .bool r ∧ bo = [] ∧ so = [])) (h : X27 x0 x1 = some r) : RetS Tryz.prog 124 #[.slice a0 x0.length k0, .func (.func F1) #[] c1.toArray] Fs [] [] (rv (.int .i64 r)) := by
 unfold X27 at h
 try dsimp only at h
 refine RetS.st [(0, _), (1, _)] Tryz.func124 Tryz.ntmps124 hG fun w0 S0 hS0 B0 => ?_
 refine .go 11 ?_
 refine .block ?_
 refine .lp (fun y m => ∃ (Z0 : Nat) (Z1 : List Int), y = ⟨[(8, .int .i64 (Z0 : Int))], [], [], []⟩ ∧ Z1.length = m ∧ List.drop Z0 x0 = Z1 ∧ Xd x1 Z1 Z0  = some r) [(0, _), (1, _), (7, _)] [] [] ⟨0, x0, rfl, rfl, rfl, h⟩ (fun y m hI hb23 => ?_)
 obtain ⟨i19, w20, rfl, rfl, g21, r22⟩ := hI
 refine .gn 0 ?_
 cases w20 with
 | nil =>
  rw [Xd] at r22; try dsimp only at r22
  refine .go 5 ?_
  refine .cond_dec rfl (fun c => absurd c (X8 g21)) (fun _ => ?_)
  refine .exit rfl (.go 4 ?_)
  cases r22
  refine .rS [.tmp 4] [_] Tryz.func124 Tryz.results124 ⟨rfl, rfl, rfl⟩
 | cons x28 xs29 =>
  have r27 : X1g x1 (Xd x1 xs29 (i19 + 1)) x28 i19  = some r := r22; clear r22; unfold X1g at r27; try dsimp only at r27
  refine .go 5 ?_
  refine .cond_dec rfl (fun _ => ?_) (fun c => absurd (Xf g21) c)
  refine .go 2 ?_
  refine .block (.go 10 ?_)
  obtain ⟨c30, p31, h32⟩ := SlR.get s0 (X2 g21)
  obtain rfl := h32
  refine .q .ro (.idxR s0 rfl rfl (X2 g21) sl48 ty3.sz) rfl (.q .ro (.load_rp p31 mcs rfl ty3 rfl) rfl ?_)
  obtain ⟨u33, hu33, r34⟩ := X0 r27
  refine .callS (b1 := []) (b2 := []) (s1 := []) [_] c1 .ro rfl rfl hc1 rfl rfl (hf1 _ G (HpLe.refl _) mcs _ _  hu33) rfl (fun v36 bo so h35 => ?_)
  obtain ⟨rfl, rfl, rfl⟩ := h35
  refine .gn 1 ?_
  refine .cB r34 (fun c37 r38 => ?_) (fun c37 r39 => ?_)
  ·refine .go 5 ?_
   cases r38
   refine .rS [.tmp 4] [_] Tryz.func124 Tryz.results124 ⟨rfl, rfl, rfl⟩
  ·refine .go 6 ?_
   exact (hb23 _ _ ⟨(i19 + 1), xs29, rfl, rfl, (X3 g21), r39⟩ (Nat.lt_succ_self _)).ax ⟨(congrArg (fun z => some (Value.int .i64 z)) (X7 (SlR.len s0) g21)), rfl, rfl, rfl, trivial⟩
theorem X5s {x0 : List Int} {F1 : FuncId} {c1 : List Value} {x1 : Int → Option Bool} {r : Bool} (hG : G ∈ Fs) (s0 : SlR ri G a0 k0 x0) (hc1 : ∀ args w, (callFunc F1 args).run Tryz.prog w = .ok (.enter F1 args) w) (hf1 : ∀ (Fs' : List Hp) (G1 : Hp), HpLe G G1 → G1 ∈ Fs' → ∀ (y0 : Int) (r : Bool), x1 y0 = some r → RetS Tryz.prog F1 (([.int .i64 y0] : List Value) ++ c1).toArray Fs' [] [] (fun v bo so => v = .bool r ∧ bo = [] ∧ so = [])) (h : X12 x0 x1 = some r) : RetS Tryz.prog 90 #[.slice a0 x0.length k0, .func (.func F1) #[] c1.toArray] Fs [] [] (rv (.bool r)) := by
 unfold X12 at h
 try dsimp only at h
 refine RetS.st [(0, _), (1, _)] Tryz.func90 Tryz.ntmps90 hG fun w0 S0 hS0 B0 => ?_
 refine .go 8 ?_
 obtain ⟨u1, hu1, r2⟩ := X0 h
 refine .cV [_, _] Tryz.call124 (X9y mcs s0 hc1 (fun Fs' G1 hle hm => hf1 Fs' G1 (HpLe.trans (HpLe.refl _) hle) hm) hu1) ?_
 refine .go 3 ?_
 cases r2
 refine .rS [.tmp 4] [_] Tryz.func90 Tryz.results90 ⟨rfl, rfl, rfl⟩
theorem Xc3 {x0 : Int} {x1 : Int} {r : Bool} (hG : G ∈ Fs)  (h : X6s x0 x1 = some r) : RetS Tryz.prog 139 #[.int .i64 x0, .int .i64 x1] Fs [] [] (rv (.bool r)) := by
 unfold X6s at h
 try dsimp only at h
 refine RetS.st [(0, _), (1, _)] Tryz.func139 Tryz.ntmps139 hG fun w0 S0 hS0 B0 => ?_
 refine .go 9 ?_
 refine .kR (fun y => y = ⟨[(11, .bool (decide ((0 ≤ x1) ∧ (x1 < x0))))], G :: Fs, [], []⟩) [(4, _)] [] [] [] [] 4 ?_ ?_
 ·rintro _ rfl
  refine .gn 2 ?_
  cases h
  refine .rS [.tmp 4] [_] Tryz.func139 Tryz.results139 ⟨rfl, rfl, rfl⟩
 ·intro hb2
  refine .split 7 rfl (fun c1 => ?_) (fun c1 => ?_)
  ·refine .go 7 ?_
   exact (hb2 _ rfl).ax ⟨X6w c1, rfl, trivial⟩
  ·refine .go 4 ?_
   exact (hb2 _ rfl).ax ⟨X6x c1, rfl, trivial⟩
theorem Xb7 {x0 : Int} {x1 : Int} {r : Bool} (hG : G ∈ Fs) (hp1 : Rp G p1 [.int .i64 x1]) (h : X4r x0 x1 = some r) : RetS Tryz.prog 138 #[.int .i64 x0, p1] Fs [] [] (rv (.bool r)) := by
 unfold X4r at h
 try dsimp only at h
 refine RetS.st [(0, _), (1, _)] Tryz.func138 Tryz.ntmps138 hG fun w0 S0 hS0 B0 => ?_
 refine .go 6 ?_
 refine .q .ro (.load_rp hp1 mcs rfl ty133 rfl) rfl (.go 1 ?_)
 obtain ⟨u1, hu1, r2⟩ := X0 h
 refine .cV [_, _] Tryz.call139 (Xc3 mcs  hu1) ?_
 refine .go 3 ?_
 cases r2
 refine .rS [.tmp 3] [_] Tryz.func138 Tryz.results138 ⟨rfl, rfl, rfl⟩
theorem Xc4 {x0 : Int} {x1 : List Int} {r : Bool} (hG : G ∈ Fs) (s1 : SlR ri G a1 k1 x1) (h : X4v x0 x1 = some r) : RetS Tryz.prog 113 #[.int .i64 x0, .slice a1 x1.length k1] Fs [] [] (rv (.bool r)) := by
 unfold X4v at h
 try dsimp only at h
 refine RetS.st [(0, _), (1, _)] Tryz.func113 Tryz.ntmps113 hG fun w0 S0 hS0 B0 => ?_
 refine .go 2 ?_
 refine .box [_] .ro rfl rfl rfl (fun b1 hb1 => ?_)
 refine .go 5 ?_
 refine .q .ro (.makeFunc (vf := []) (vc := [_]) rfl rfl) rfl ?_
 refine .freezeBR 0 rfl [] rfl B0 (fun G2 e3 B4 p5 => ?_)
 obtain ⟨u7, hu7, r8⟩ := X0 h
 refine .cV [_, _] Tryz.call90 (X5s mcs (SlR.mono e3 s1) Tryz.call138 (fun Fs' G1 hle hm y0 r  hr => Xb7 (G := G1) hm  (Rp.mono hle p5) hr) hu7) ?_
 refine .go 3 ?_
 cases r8
 refine .rS [.tmp 4] [_] Tryz.func113 Tryz.results113 ⟨rfl, rfl, rfl⟩
theorem Xfb {x0_0 : Int} {x0_1 : Int} {x0_2 : Int} {x0_3 : List (List Int)} {r : Int} (hG : G ∈ Fs) (s0_3 : SlR (Rep.sl ri) G a0_3 k0_3 x0_3) (h : Xao (x0_0, x0_1, x0_2, x0_3) = some r) : RetS Tryz.prog 73 #[.agg #[.int .i64 x0_0, .int .i64 x0_1, .int .i64 x0_2, .slice a0_3 x0_3.length k0_3]] Fs [] [] (rv (.int .i64 r)) := by
 unfold Xao at h
 try dsimp only at h
 refine RetS.st [(0, _)] Tryz.func73 Tryz.ntmps73 hG fun w0 S0 hS0 B0 => ?_
 refine .go 2 ?_
 refine .box [_, _, _, _] .ro rfl rfl rfl (fun b1 hb1 => ?_)
 refine .go 5 ?_
 refine .q .ro (.load_own_a 0 [_] rfl rfl ty36 rfl) rfl ?_
 obtain ⟨u2, hu2, r3⟩ := X0 h
 refine .cV [_] Tryz.call72 (Xcr mcs  hu2) ?_
 refine .go 7 ?_
 refine .block (.go 6 ?_)
 refine .kR (fun y => y = ⟨[(21, .bool (decide ((x0_0 < 1) ∨ (2147483647 ≤ x0_0))))], G :: Fs, [], []⟩) [(1, _), (3, _), (4, _)] [_] [0] [] [] 4 ?_ ?_
 ·rintro _ rfl
  refine .gn 2 ?_
  refine .cH r3 (fun c10 r11 => ?_) (fun c10 r12 => ?_)
  ·refine .go 4 ?_
   cases r11
   refine .drop 1 0 [] _ rfl rfl ?_
   refine .rS [.tmp 2] [_] Tryz.func73 Tryz.results73 ⟨rfl, rfl, rfl⟩
  ·refine .go 6 ?_
   refine .cB r12 (fun c13 r14 => ?_) (fun c13 r15 => ?_)
   ·refine .go 4 ?_
    cases r14
    refine .drop 1 0 [] _ rfl rfl ?_
    refine .rS [.tmp 2] [_] Tryz.func73 Tryz.results73 ⟨rfl, rfl, rfl⟩
   ·refine .go 6 ?_
    refine .kR (fun y => y = ⟨[(33, .bool (decide ((x0_2 < 1) ∨ (64 < x0_2))))], G :: Fs, [], []⟩) [(1, _), (3, _)] [_] [0] [] [] 4 ?_ ?_
    ·rintro _ rfl
     refine .gn 2 ?_
     refine .cH r15 (fun c20 r21 => ?_) (fun c20 r22 => ?_)
     ·refine .go 4 ?_
      cases r21
      refine .drop 1 0 [] _ rfl rfl ?_
      refine .rS [.tmp 2] [_] Tryz.func73 Tryz.results73 ⟨rfl, rfl, rfl⟩
     ·refine .go 8 ?_
      refine .cH r22 (fun c23 r24 => ?_) (fun c23 r25 => ?_)
      ·refine .go 4 ?_
       cases r24
       refine .drop 1 0 [] _ rfl rfl ?_
       refine .rS [.tmp 2] [_] Tryz.func73 Tryz.results73 ⟨rfl, rfl, rfl⟩
      ·refine .go 10 ?_
       refine .block ?_
       refine .lp (fun y m => ∃ (Z0 : Nat) (Z1 : List (List Int)), y = ⟨[(42, .int .i64 (Z0 : Int))], [], [], []⟩ ∧ Z1.length = m ∧ List.drop Z0 x0_3 = Z1 ∧ X4e u2.1 x0_2 Z1  = some r) [(1, _), (3, _), (40, _), (41, _)] [_] [] ⟨0, x0_3, rfl, rfl, rfl, r25⟩ (fun y m hI hb57 => ?_)
       obtain ⟨i53, w54, rfl, rfl, g55, r56⟩ := hI
       refine .gn 0 ?_
       cases w54 with
       | nil =>
        rw [X4e] at r56; try dsimp only at r56
        refine .go 5 ?_
        refine .cond_dec rfl (fun c => absurd c (X8 g55)) (fun _ => ?_)
        refine .exit rfl (.go 4 ?_)
        cases r56
        refine .drop 1 0 [] _ rfl rfl ?_
        refine .rS [.tmp 2] [_] Tryz.func73 Tryz.results73 ⟨rfl, rfl, rfl⟩
       | cons x65 xs66 =>
        have r64 : X6z u2.1 x0_2 (X4e u2.1 x0_2 xs66) x65  = some r := r56; clear r56; unfold X6z at r64; try dsimp only at r64
        refine .go 5 ?_
        refine .cond_dec rfl (fun _ => ?_) (fun c => absurd (Xf g55) c)
        refine .go 2 ?_
        refine .block (.go 2 ?_)
        obtain ⟨c67, p68, h69⟩ := SlR.get s0_3 (X2 g55)
        obtain ⟨a70, k71, rfl, s72⟩ := h69
        refine .q .ro (.idxR s0_3 rfl rfl (X2 g55) sl37 ty48.sz) rfl (.q .ro (.load_rp p68 mcs rfl ty48 rfl) rfl (.go 11 ?_))
        refine .cH r64 (fun c73 r74 => ?_) (fun c73 r75 => ?_)
        ·refine .go 4 ?_
         cases r74
         refine .drop 1 0 [] _ rfl rfl ?_
         refine .rS [.tmp 2] [_] Tryz.func73 Tryz.results73 ⟨rfl, rfl, rfl⟩
        ·refine .go 5 ?_
         obtain ⟨u76, hu76, r77⟩ := X0 r75
         refine .cV [_, _] Tryz.call113 (Xc4 mcs s72 hu76) ?_
         refine .go 2 ?_
         refine .cB r77 (fun c80 r81 => ?_) (fun c80 r82 => ?_)
         ·refine .go 4 ?_
          cases r81
          refine .drop 1 0 [] _ rfl rfl ?_
          refine .rS [.tmp 2] [_] Tryz.func73 Tryz.results73 ⟨rfl, rfl, rfl⟩
         ·refine .go 6 ?_
          exact (hb57 _ _ ⟨(i53 + 1), xs66, rfl, rfl, (X3 g55), r82⟩ (Nat.lt_succ_self _)).ax ⟨(congrArg (fun z => some (Value.int .i64 z)) (X7 (SlR.len s0_3) g55)), rfl, rfl, rfl, rfl, trivial⟩
    ·intro hb17
     refine .split 29 rfl (fun c16 => ?_) (fun c16 => ?_)
     ·refine .go 4 ?_
      exact (hb17 _ rfl).ax ⟨X3s c16, rfl, rfl, trivial⟩
     ·refine .go 7 ?_
      exact (hb17 _ rfl).ax ⟨X44 c16, rfl, rfl, trivial⟩
 ·intro hb7
  refine .split 17 rfl (fun c6 => ?_) (fun c6 => ?_)
  ·refine .go 4 ?_
   exact (hb7 _ rfl).ax ⟨X3s c6, rfl, rfl, rfl, trivial⟩
  ·refine .go 7 ?_
   exact (hb7 _ rfl).ax ⟨X44 c6, rfl, rfl, rfl, trivial⟩
theorem Xha {x0 : Int} {x1_0 : Int} {x2 : Int} {x3 : List (List Int)} {r : ((Int × Int × Int × (List (List Int))) × Int)} (hG : G ∈ Fs) (s3 : SlR (Rep.sl ri) G a3 k3 x3) (h : Xbe x0 x1_0 x2 x3 = some r) : RetW Tryz.prog 35 #[.int .i64 x0, .agg #[.int .i64 x1_0], .int .i64 x2, .slice a3 x3.length k3] Fs [] [] (fun v bo so G => ∃ a0 : Option Addr, ∃ k0 : Nat, v = .tuple #[.agg #[.int .i64 r.1.1, .int .i64 r.1.2.1, .int .i64 r.1.2.2.1, .slice a0 r.1.2.2.2.length k0], .int .i64 r.2] ∧ bo = [] ∧ so = [] ∧ SlR (Rep.sl ri) G a0 k0 r.1.2.2.2) := by
 unfold Xbe at h
 try dsimp only at h
 refine RetW.st [(0, _), (1, _), (2, _), (3, _)] Tryz.func35 Tryz.ntmps35 hG fun w0 S0 hS0 B0 => ?_
 refine .go 2 ?_
 refine .box [_] .ro rfl rfl rfl (fun b1 hb1 => ?_)
 refine .alloc .ro ty39 rfl (fun b2 hb2 => ?_)
 refine .go 5 ?_
 refine .q .ro (.load_own_a 1 [_] rfl rfl ty36 rfl) rfl (.go 2 ?_)
 refine .q .ro (.build [_, _, _, _] [(0, _), (1, _), (2, _), (3, _)] ty39 pl39 rfl rfl) rfl ?_
 refine .alloc .ro ty39 rfl (fun b3 hb3 => ?_)
 refine .store 0 [_, _, _, _] [_, _, _] .ro rfl rfl rfl ty39 rfl rfl rfl rfl (.go 4 ?_)
 refine .q .ro (.load_own_a 0 [_, _, _, _] rfl rfl ty39 rfl) rfl ?_
 obtain ⟨u4, hu4, r5⟩ := X0 h
 refine .cV [_] Tryz.call73 (Xfb mcs s3 hu4) ?_
 refine .go 7 ?_
 refine .cH r5 (fun c8 r9 => ?_) (fun c8 r10 => ?_)
 ·refine .go 2 ?_
  refine .q .ro (.build [_, _, _, _] [] ty39 pl39 rfl rfl) rfl (.go 1 ?_)
  refine .store 1 [_, _, _, _] [_, _, _] .ro rfl rfl rfl ty39 rfl rfl rfl rfl (.go 2 ?_)
  cases r9
  refine .rW 3 [.cell 8 39, .tmp 9] [_, _] Tryz.func35 Tryz.results35 ⟨RV.cell_a 1 [_, _, _, _] rfl rfl ty39 rfl, RV.tmp rfl, trivial⟩ B0 hS0 (fun G' hg => ⟨none, 0, rfl, rfl, rfl, (SlR.mono hg (SlR.nil (Rp' := (Rep.sl ri))))⟩)
 ·refine .go 4 ?_
  refine .store 0 [_, _, _, _] [_, _, _] .ro rfl rfl rfl ty37 rfl rfl rfl rfl (.go 8 ?_)
  refine .kB (fun y => ∃ (Z0 Z1 Z2 Z3 : _) (Z4 : List (List Int)) (Z5 : _) (Z6 : Nat) (Z7 Z8 Z9 Z10 Z11 : _), y = ⟨[], Z0 :: Fs, [(b3, .cells #[.int .i64 Z1, .int .i64 Z2, .int .i64 Z3, .slice Z5 Z4.length Z6] 39 (0, 0)), (b2, .cells #[.int .i64 Z8, .int .i64 Z9, .int .i64 Z10, .slice none 0 0] 39 (0, 0)), (b1, .cells #[.int .i64 Z11] 36 (0, 0))], [.s (.slice Z5 Z4.length Z6) 48 1 Z4.length Z7]⟩ ∧ HpLe G Z0 ∧ Bd w0 S0 Fs Z0 ∧ OL (Rep.sl ri) Z0 Z7 Z4 ∧ X65 Z1 Z2 Z3 Z4 Z8 Z9 Z10 Z11 = some r) [(8, _), (10, _)] [] [] [] [] ?_ ?_
  ·rintro _ ⟨G12, v13, v14, v15, v16, a17, k18, cs19, v20, v21, v22, v23, rfl, e24, B25, o26, r27⟩
   refine .gn 0 ?_
   unfold X65 at r27
   try dsimp only at r27
   refine .go 2 ?_
   refine .q .ro (.load_own_a 0 [_, _, _, _] rfl rfl ty39 rfl) rfl (.store 1 [_, _, _, _] [_, _, _] .ro rfl rfl rfl ty39 rfl rfl rfl rfl (.go 2 ?_))
   refine .freezeR 0 rfl rfl o26 [] rfl B25 (fun G28 e29 B30 s31 => ?_)
   cases r27
   refine .rW 3 [.cell 8 39, .tmp 9] [_, _] Tryz.func35 Tryz.results35 ⟨RV.cell_a 1 [_, _, _, _] rfl rfl ty39 rfl, RV.tmp rfl, trivial⟩ B30 hS0 (fun G' hg => ⟨a17, k18, rfl, rfl, rfl, (SlR.mono hg s31)⟩)
  ·intro hb32
   refine .block (.own_nil 48 1 ?_)
   refine .lp (fun y m => ∃ (Z0 : Nat) (Z1 : List (List Int)) (Z2 : _) (Z3 : List (List Int)) (Z4 : _) (Z5 : Nat) (Z6 : _), y = ⟨[(28, .int .i64 (Z0 : Int))], [Z2], [(b3, .cells #[.int .i64 x0, .int .i64 x1_0, .int .i64 x2, .slice Z4 Z3.length Z5] 39 (0, 0))], [.s (.slice Z4 Z3.length Z5) 48 1 Z3.length Z6]⟩ ∧ Z1.length = m ∧ HpLe G Z2 ∧ Bd w0 S0 Fs Z2 ∧ OL (Rep.sl ri) Z2 Z6 Z3 ∧ List.drop Z0 x3 = Z1 ∧ X55 X65 x0 x1_0 x2 Z1 Z3 = some r) [(8, _), (10, _), (26, _), (27, _)] [_, _] [] ⟨0, x3, G, ([] : List (List Int)), none, 0, [], rfl, rfl, (HpLe.refl _), B0, (OL.nil (Rp' := (Rep.sl ri))), rfl, r10⟩ (fun y m hI hb33 => ?_)
   obtain ⟨i34, w38, G40, v41, a42, k43, cs44, rfl, rfl, e45, B46, o47, g49, r50⟩ := hI
   refine .gn 0 ?_
   cases w38 with
   | nil =>
    rw [X55] at r50; try dsimp only at r50
    refine .go 5 ?_
    refine .cond_dec rfl (fun c => absurd c (X8 g49)) (fun _ => ?_)
    refine .exit rfl ?_
    exact (hb32 _ ⟨G40, x0, x1_0, x2, v41, a42, k43, cs44, 0, 0, 0, x1_0, rfl, e45, B46, o47, r50⟩).ar
   | cons x51 xs52 =>
    have r53 : X8v X65 x0 x1_0 x2 (X55 X65 x0 x1_0 x2 xs52) x51 v41 = some r := r50; clear r50; unfold X8v at r53; try dsimp only at r53
    refine .go 5 ?_
    refine .cond_dec rfl (fun _ => ?_) (fun c => absurd (Xf g49) c)
    refine .go 2 ?_
    refine .block (.go 2 ?_)
    obtain ⟨c54, p55, h56⟩ := SlR.get (SlR.mono e45 s3) (X2 g49)
    obtain ⟨a57, k58, rfl, s59⟩ := h56
    refine .q .ro (.idxR (SlR.mono e45 s3) rfl rfl (X2 g49) sl37 ty48.sz) rfl (.q .ro (.load_rp p55 mcs rfl ty48 rfl) rfl (.go 2 ?_))
    refine .drawL (.q 0 (.q 1 (.q 2 (.e 3 1 (.e 4 1 (.e 5 1 (.q 6 (.e 7 2 .nil)))))))) [_, _, _] (by kernel_rfl) (by kernel_rfl) (X1 [0, 1, 2] rfl) (.go 3 ?_)
    obtain ⟨u60, hu60, r61⟩ := X0 r53
    refine .cSd [_] Tryz.call65 (X8b mcs s59 hu60) (fun v62 bo so h63 => ?_)
    obtain ⟨a66, k67, cs68, rfl, rfl, rfl, o69⟩ := h63
    refine .gn 0 ?_
    refine .clsL (HpLe.refl _) (X1 [0, 1, 2] rfl) ?_
    refine .freezeR 0 rfl rfl o69 [_] rfl B46 (fun G70 e71 B72 s74 => ?_)
    refine .lit [_] [(0, _)] .d1 sl37 ty48 rfl rfl rfl rfl rfl rfl (fun b75 hb75 => ?_)
    have o76 : OL (Rep.sl ri) G70 [.slice a66 u60.length k67] ([u60] : List (List Int)) := ((OL.cons rfl (Rep.slI s74) (OL.nil (Rp' := (Rep.sl ri)))) :)
    refine .reval 36 (n' := ([u60] : List (List Int)).length) rfl rfl (.clsL e71 (X1 [0, 1, 2] rfl) ?_)
    obtain ⟨u77, hu77, r78⟩ := X0 r61
    refine .appO (Q := (Rep.sl ri)) 0 .d1 sl37 ty48 rfl rfl rfl rfl rfl rfl (OL.mono e71 o47) o76 rfl rfl rfl B72 hu77 rfl (fun a79 k80 cs81 o82 => ?_)
    refine .clsL e71 (X1 [0, 1, 2] rfl) (.go 1 ?_)
    refine .store 0 [_, _, _, _] [_, _, _] .d2 rfl rfl rfl ty37 rfl rfl rfl rfl (.go 6 ?_)
    exact (hb33 _ _ ⟨(i34 + 1), xs52, G70, u77, a79, k80, cs81, rfl, rfl, (HpLe.trans e45 e71), B72, o82, (X3 g49), r78⟩ (Nat.lt_succ_self _)).ax ⟨(congrArg (fun z => some (Value.int .i64 z)) (X7 (SlR.len s3) g49)), rfl, rfl, rfl, rfl, trivial⟩
theorem Xa8 {x0 : Int} {x1_0 : Int} {x2_0 : Int} {x2_1 : List (Int × Int)} {x2_2 : Int} {x2_3 : List (List (ByteArray × Int))} {r : ((Int × Int × Int × (List (List Int))) × Int)} (hG : G ∈ Fs) (s2_1 : SlR (Rep.pair ri ri) G a2_1 k2_1 x2_1) (s2_3 : SlR (Rep.sl (Rep.pair Rep.str ri)) G a2_3 k2_3 x2_3) (h : X68 x0 x1_0 ((x2_0, x2_1), x2_2, x2_3) = some r) : RetW Tryz.prog 8 #[.int .i64 x0, .agg #[.int .i64 x1_0], .agg #[.int .i64 x2_0, .slice a2_1 x2_1.length k2_1, .int .i64 x2_2, .slice a2_3 x2_3.length k2_3]] Fs [] [] (fun v bo so G => ∃ a0 : Option Addr, ∃ k0 : Nat, v = .tuple #[.agg #[.int .i64 r.1.1, .int .i64 r.1.2.1, .int .i64 r.1.2.2.1, .slice a0 r.1.2.2.2.length k0], .int .i64 r.2] ∧ bo = [] ∧ so = [] ∧ SlR (Rep.sl ri) G a0 k0 r.1.2.2.2) := by
 unfold X68 at h
 try dsimp only at h
 refine RetW.st [(0, _), (1, _), (2, _)] Tryz.func8 Tryz.ntmps8 hG fun w0 S0 hS0 B0 => ?_
 refine .go 2 ?_
 refine .box [_] .ro rfl rfl rfl (fun b1 hb1 => ?_)
 refine .box [_, _, _, _] .ro rfl rfl rfl (fun b2 hb2 => ?_)
 refine .alloc .ro ty39 rfl (fun b3 hb3 => ?_)
 refine .go 5 ?_
 refine .q .ro (.load_own_a 1 [_, _, _, _] rfl rfl ty31 rfl) rfl ?_
 obtain ⟨u4, hu4, r5⟩ := X0 h
 refine .cV [_] Tryz.call32 (Xdn mcs s2_1 s2_3 hu4) ?_
 refine .go 7 ?_
 refine .cH r5 (fun c8 r9 => ?_) (fun c8 r10 => ?_)
 ·refine .go 2 ?_
  refine .q .ro (.build [_, _, _, _] [] ty39 pl39 rfl rfl) rfl (.go 1 ?_)
  refine .store 0 [_, _, _, _] [_, _, _] .ro rfl rfl rfl ty39 rfl rfl rfl rfl (.go 2 ?_)
  cases r9
  refine .rW 3 [.cell 6 39, .tmp 7] [_, _] Tryz.func8 Tryz.results8 ⟨RV.cell_a 0 [_, _, _, _] rfl rfl ty39 rfl, RV.tmp rfl, trivial⟩ B0 hS0 (fun G' hg => ⟨none, 0, rfl, rfl, rfl, (SlR.mono hg (SlR.nil (Rp' := (Rep.sl ri))))⟩)
 ·refine .go 2 ?_
  refine .block (.go 2 ?_)
  refine .q .ro (.load_own_a 2 [_] rfl rfl ty36 rfl) rfl ?_
  obtain ⟨u11, hu11, r12⟩ := X0 r10
  refine .cV [_] Tryz.call33 (Xfa mcs  hu11) ?_
  refine .go 2 ?_
  refine .kR (fun y => y = ⟨[(31, .bool (decide ((u11 ≠ 0) ∨ (x1_0 ≤ 256))))], G :: Fs, [], []⟩) [(0, _), (4, _), (5, _), (6, _)] [_, _, _] [0, 1, 2] [] [] 4 ?_ ?_
  ·rintro _ rfl
   refine .gn 2 ?_
   refine .cH r12 (fun c19 r20 => ?_) (fun c19 r21 => ?_)
   ·refine .go 2 ?_
    refine .q .ro (.build [_, _, _, _] [] ty39 pl39 rfl rfl) rfl (.store 0 [_, _, _, _] [_, _, _] .ro rfl rfl rfl ty39 rfl rfl rfl rfl (.go 2 ?_))
    cases r20
    refine .rW 3 [.cell 6 39, .tmp 7] [_, _] Tryz.func8 Tryz.results8 ⟨RV.cell_a 0 [_, _, _, _] rfl rfl ty39 rfl, RV.tmp rfl, trivial⟩ B0 hS0 (fun G' hg => ⟨none, 0, rfl, rfl, rfl, (SlR.mono hg (SlR.nil (Rp' := (Rep.sl ri))))⟩)
   ·refine .go 4 ?_
    obtain ⟨u22, hu22, r23⟩ := X0 r21
    refine .cV [_] Tryz.call30 (X8r mcs  hu22) ?_
    refine .go 3 ?_
    refine .cH r23 (fun c26 r27 => ?_) (fun c26 r28 => ?_)
    ·refine .go 2 ?_
     refine .q .ro (.build [_, _, _, _] [] ty39 pl39 rfl rfl) rfl (.store 0 [_, _, _, _] [_, _, _] .ro rfl rfl rfl ty39 rfl rfl rfl rfl (.go 2 ?_))
     cases r27
     refine .rW 3 [.cell 6 39, .tmp 7] [_, _] Tryz.func8 Tryz.results8 ⟨RV.cell_a 0 [_, _, _, _] rfl rfl ty39 rfl, RV.tmp rfl, trivial⟩ B0 hS0 (fun G' hg => ⟨none, 0, rfl, rfl, rfl, (SlR.mono hg (SlR.nil (Rp' := (Rep.sl ri))))⟩)
    ·refine .go 14 ?_
     refine .kB (fun y => ∃ (Z0 : _) (Z1 : List (List Int)) (Z2 : _) (Z3 : Nat) (Z4 Z5 Z6 Z7 Z8 Z9 Z10 : _), y = ⟨[(9, .slice Z2 Z1.length Z3)], Z0 :: Fs, [(b3, .cells #[.int .i64 Z5, .int .i64 Z6, .int .i64 Z7, .slice none 0 0] 39 (0, 0)), (b2, .cells #[.int .i64 Z8, .slice a2_1 x2_1.length k2_1, .int .i64 Z9, .slice a2_3 x2_3.length k2_3] 31 (0, 0)), (b1, .cells #[.int .i64 Z10] 36 (0, 0))], [.s (.slice Z2 Z1.length Z3) 48 1 Z1.length Z4]⟩ ∧ HpLe G Z0 ∧ Bd w0 S0 Fs Z0 ∧ OL (Rep.sl ri) Z0 Z4 Z1 ∧ (X1h x0) Z1 Z5 Z6 Z7 Z8 Z9 Z10 = some r) [(0, _), (4, _), (5, _), (6, _)] [] [] [] [] ?_ ?_
     ·rintro _ ⟨G13, v14, a17, k18, cs24, v25, v38, v40, v41, v42, v43, rfl, e44, B45, o46, r47⟩
      refine .gn 0 ?_
      unfold X1h at r47
      try dsimp only at r47
      refine .go 1 ?_
      refine .freezeR 0 rfl rfl o46 [] rfl B45 (fun G49 e50 B51 s52 => ?_)
      refine .drawL (.q 0 (.q 1 (.q 2 (.q 3 (.q 5 (.e 4 1 (.e 6 1 (.q 7 (.q 8 (.e 9 1 (.q 10 .nil))))))))))) [_, _] (by kernel_rfl) (by kernel_rfl) (X1 [1, 2] rfl) (.go 1 ?_)
      refine .dq (.load_own_a 1 [_] rfl rfl ty36 rfl) rfl (.go 3 ?_)
      obtain ⟨u53, hu53, r54⟩ := X0 r47
      refine .cVd [_] Tryz.call30 (X8r mcs  hu53) ?_
      refine .clsL (HpLe.refl _) (X1 [1, 2] rfl) ?_
      obtain ⟨u55, hu55, r56⟩ := X0 r54
      refine .callW (b1 := []) (b2 := [_, _, _]) (s1 := []) [_, _, _, _] [] .d1 rfl rfl Tryz.call35 rfl rfl (Xha mcs s52 hu55) rfl B51 (fun v57 bo so G58 e59 B60 h61 => ?_)
      obtain ⟨a62, k63, rfl, rfl, rfl, s65⟩ := h61
      refine .gn 0 ?_
      refine .clsL e59 (X1 [1, 2] rfl) (.go 2 ?_)
      refine .store 0 [_, _, _, _] [_, _, _] .d1 rfl rfl rfl ty39 rfl rfl rfl rfl (.clsL e59 (X1 [1, 2] rfl) (.go 2 ?_))
      cases r56
      refine .rW 3 [.cell 6 39, .tmp 7] [_, _] Tryz.func8 Tryz.results8 ⟨RV.cell_a 0 [_, _, _, _] rfl rfl ty39 rfl, RV.tmp rfl, trivial⟩ B60 hS0 (fun G' hg => ⟨a62, k63, rfl, rfl, rfl, (SlR.mono hg s65)⟩)
     ·intro hb66
      refine .block (.own_nil 48 1 (.pull 2 rfl [_, _, _] rfl (.pull 2 rfl [_, _, _] rfl (.pull 2 rfl [_, _, _] rfl ?_))))
      refine .lp (fun y m => ∃ (Z0 : Nat) (Z1 : List (List (ByteArray × Int))) (Z2 : _) (Z3 : List (List Int)) (Z4 : _) (Z5 : Nat) (Z6 Z7 Z8 Z9 Z10 Z11 Z12 : _), y = ⟨[(9, .slice Z4 Z3.length Z5), (42, .int .i64 (Z0 : Int))], [Z2], [(b3, .cells #[.int .i64 Z7, .int .i64 Z8, .int .i64 Z9, .slice none 0 0] 39 (0, 0)), (b2, .cells #[.int .i64 Z10, .slice a2_1 x2_1.length k2_1, .int .i64 Z11, .slice a2_3 x2_3.length k2_3] 31 (0, 0)), (b1, .cells #[.int .i64 Z12] 36 (0, 0))], [.s (.slice Z4 Z3.length Z5) 48 1 Z3.length Z6]⟩ ∧ Z1.length = m ∧ HpLe G Z2 ∧ Bd w0 S0 Fs Z2 ∧ OL (Rep.sl ri) Z2 Z6 Z3 ∧ List.drop Z0 x2_3 = Z1 ∧ X1a (X1h x0) Z1 Z3 Z7 Z8 Z9 Z10 Z11 Z12 = some r) [(0, _), (4, _), (5, _), (6, _), (40, _), (41, _)] [] [] ⟨0, x2_3, G, ([] : List (List Int)), none, 0, [], 0, 0, 0, x2_0, x2_2, x1_0, rfl, rfl, (HpLe.refl _), B0, (OL.nil (Rp' := (Rep.sl ri))), rfl, r28⟩ (fun y m hI hb67 => ?_)
      obtain ⟨i68, w69, G70, v71, a72, k73, cs74, v75, v76, v77, v78, v79, v80, rfl, rfl, e81, B82, o83, g84, r85⟩ := hI
      refine .gn 0 ?_
      cases w69 with
      | nil =>
       rw [X1a] at r85; try dsimp only at r85
       refine .go 5 ?_
       refine .cond_dec rfl (fun c => absurd c (X8 g84)) (fun _ => ?_)
       refine .exit rfl ?_
       exact (hb66 _ ⟨G70, v71, a72, k73, cs74, v75, v76, v77, v78, v79, v80, rfl, e81, B82, o83, r85⟩).ar
      | cons x86 xs87 =>
       have r88 : X67 (X1h x0) (X1a (X1h x0) xs87) x86 v71 v75 v76 v77 v78 v79 v80 = some r := r85; clear r85; unfold X67 at r88; try dsimp only at r88
       refine .go 5 ?_
       refine .cond_dec rfl (fun _ => ?_) (fun c => absurd (Xf g84) c)
       refine .go 2 ?_
       refine .block (.go 2 ?_)
       obtain ⟨c89, p90, h91⟩ := SlR.get (SlR.mono e81 s2_3) (X2 g84)
       obtain ⟨a92, k93, rfl, s94⟩ := h91
       refine .q .ro (.idxR (SlR.mono e81 s2_3) rfl rfl (X2 g84) sl29 ty32.sz) rfl (.q .ro (.load_rp p90 mcs rfl ty32 rfl) rfl (.go 7 ?_))
       obtain ⟨u95, hu95, r96⟩ := X0 r88
       refine .cV [_, _] Tryz.call34 (Xb3 mcs s94 hu95) ?_
       refine .go 12 ?_
       refine .cH r96 (fun c97 r98 => ?_) (fun c97 r99 => ?_)
       ·refine .go 2 ?_
        refine .q .ro (.build [_, _, _, _] [] ty39 pl39 rfl rfl) rfl (.go 1 ?_)
        refine .store 0 [_, _, _, _] [_, _, _] .ro rfl rfl rfl ty39 rfl rfl rfl rfl (.go 2 ?_)
        cases r98
        refine .drop 0 1 _ [] rfl rfl ?_
        refine .rW 3 [.cell 6 39, .tmp 7] [_, _] Tryz.func8 Tryz.results8 ⟨RV.cell_a 0 [_, _, _, _] rfl rfl ty39 rfl, RV.tmp rfl, trivial⟩ B82 hS0 (fun G' hg => ⟨none, 0, rfl, rfl, rfl, (SlR.mono hg (SlR.nil (Rp' := (Rep.sl ri))))⟩)
       ·refine .go 9 ?_
        obtain ⟨u100, hu100, r101⟩ := X0 r99
        refine .s2bR .ro rfl Tryz.underlying9 Tryz.underlying22 Tryz.underlying5 hu100 rfl B82 (fun a102 k103 G104 e105 B106 s107 => ?_)
        refine .go 3 ?_
        refine .kB (fun y => ∃ (Z0 : List Int) (Z1 : _) (Z2 : Nat) (Z3 Z4 Z5 Z6 Z7 Z8 Z9 : _), y = ⟨[(14, .slice Z1 Z0.length Z2)], G104 :: Fs, [(b3, .cells #[.int .i64 Z4, .int .i64 Z5, .int .i64 Z6, .slice none 0 0] 39 (0, 0)), (b2, .cells #[.int .i64 Z7, .slice a2_1 x2_1.length k2_1, .int .i64 Z8, .slice a2_3 x2_3.length k2_3] 31 (0, 0)), (b1, .cells #[.int .i64 Z9] 36 (0, 0))], [.s (.slice Z1 Z0.length Z2) 3 1 Z0.length Z3]⟩ ∧ OL ri G104 Z3 Z0 ∧ (X3t (X1a (X1h x0) xs87) v71) Z0 Z4 Z5 Z6 Z7 Z8 Z9 = some r) [(9, _), (42, _), (0, _), (4, _), (5, _), (6, _), (40, _), (41, _)] [] [] [_] [0] ?_ ?_
        ·rintro _ ⟨v108, a109, k110, cs111, v112, v113, v114, v115, v116, v117, rfl, o118, r119⟩
         refine .gn 0 ?_
         unfold X3t at r119
         try dsimp only at r119
         refine .go 3 ?_
         refine .freezeR 0 rfl rfl o118 [_] rfl B106 (fun G120 e121 B122 s123 => ?_)
         refine .lit [_] [(0, _)] .ro sl37 ty48 rfl rfl rfl rfl rfl rfl (fun b124 hb124 => ?_)
         have o125 : OL (Rep.sl ri) G120 [.slice a109 v108.length k110] ([v108] : List (List Int)) := ((OL.cons rfl (Rep.slI s123) (OL.nil (Rp' := (Rep.sl ri)))) :)
         refine .reval 72 (n' := ([v108] : List (List Int)).length) rfl rfl ?_
         obtain ⟨u126, hu126, r127⟩ := X0 r119
         refine .appO (Q := (Rep.sl ri)) 0 .ro sl37 ty48 rfl rfl rfl rfl rfl rfl (OL.mono (HpLe.trans e105 e121) o83) o125 rfl rfl rfl B122 hu126 rfl (fun a128 k129 cs130 o131 => ?_)
         refine .go 7 ?_
         exact (hb67 _ _ ⟨(i68 + 1), xs87, G120, u126, a128, k129, cs130, v112, v113, v114, v115, v116, v117, rfl, rfl, (HpLe.trans (HpLe.trans e81 e105) e121), B122, o131, (X3 g84), r127⟩ (Nat.lt_succ_self _)).ax ⟨rfl, (congrArg (fun z => some (Value.int .i64 z)) (X7 (SlR.len s2_3) g84)), rfl, rfl, rfl, rfl, rfl, rfl, trivial⟩
        ·intro hb132
         refine .block (.own_nil 3 1 ?_)
         refine .lp (fun y m => ∃ (Z0 : Nat) (Z1 Z2 : List Int) (Z3 : _) (Z4 : Nat) (Z5 : _), y = ⟨[(14, .slice Z3 Z2.length Z4), (60, .int .i64 (Z0 : Int))], [], [], [.s (.slice Z3 Z2.length Z4) 3 1 Z2.length Z5]⟩ ∧ Z1.length = m ∧ OL ri G104 Z5 Z2 ∧ List.drop Z0 u100 = Z1 ∧ X2v (X3t (X1a (X1h x0) xs87) v71) v75 v76 v77 v78 v79 v80 Z1 Z2 = some r) [(9, _), (42, _), (0, _), (4, _), (5, _), (6, _), (40, _), (41, _), (58, _), (59, _)] [_, _, _] [_] ⟨0, u100, ([] : List Int), none, 0, [], rfl, rfl, (OL.nil (Rp' := ri)), rfl, r101⟩ (fun y m hI hb133 => ?_)
         obtain ⟨i134, w135, v136, a137, k138, cs139, rfl, rfl, o140, g141, r142⟩ := hI
         refine .gn 0 ?_
         cases w135 with
         | nil =>
          rw [X2v] at r142; try dsimp only at r142
          refine .go 5 ?_
          refine .cond_dec rfl (fun c => absurd c (X8 g141)) (fun _ => ?_)
          refine .exit rfl ?_
          exact (hb132 _ ⟨v136, a137, k138, cs139, v75, v76, v77, v78, v79, v80, rfl, o140, r142⟩).ar
         | cons x143 xs144 =>
          have r145 : X66 (X3t (X1a (X1h x0) xs87) v71) v75 v76 v77 v78 v79 v80 (X2v (X3t (X1a (X1h x0) xs87) v71) v75 v76 v77 v78 v79 v80 xs144) x143 v136 = some r := r142; clear r142; unfold X66 at r145; try dsimp only at r145
          refine .go 5 ?_
          refine .cond_dec rfl (fun _ => ?_) (fun c => absurd (Xf g141) c)
          refine .go 2 ?_
          refine .block (.go 2 ?_)
          obtain ⟨c146, p147, h148⟩ := SlR.get s107 (X2 g141)
          obtain rfl := h148
          refine .q .ro (.idxR s107 rfl rfl (X2 g141) sl22 ty5.sz) rfl (.q .ro (.load_rp p147 mcs rfl ty5 rfl) rfl (.go 5 ?_))
          refine .q .ro (.convw Tryz.underlying5 Tryz.underlying3 rfl) rfl ?_
          refine .lit [_] [(0, _)] .ro sl48 ty3 rfl rfl rfl rfl rfl rfl (fun b149 hb149 => ?_)
          have o150 : OL ri G104 [.int .i64 (w64 x143)] ([(w64 x143)] : List Int) := ((OL.cons rfl (Rep.intI .i64 (w64 x143)) (OL.nil (Rp' := ri))) :)
          refine .reval 67 (n' := ([(w64 x143)] : List Int).length) rfl rfl ?_
          obtain ⟨u151, hu151, r152⟩ := X0 r145
          refine .appO (Q := ri) 0 .ro sl48 ty3 rfl rfl rfl rfl rfl rfl o140 o150 rfl rfl rfl B106 hu151 rfl (fun a153 k154 cs155 o156 => ?_)
          refine .go 7 ?_
          exact (hb133 _ _ ⟨(i134 + 1), xs144, u151, a153, k154, cs155, rfl, rfl, o156, (X3 g141), r152⟩ (Nat.lt_succ_self _)).ax ⟨rfl, (congrArg (fun z => some (Value.int .i64 z)) (X7 (SlR.len s107) g141)), rfl, rfl, rfl, rfl, rfl, rfl, rfl, rfl, rfl, rfl, trivial⟩
  ·intro hb16
   refine .split 27 rfl (fun c15 => ?_) (fun c15 => ?_)
   ·refine .go 4 ?_
    exact (hb16 _ rfl).ax ⟨X3s c15, rfl, rfl, rfl, rfl, trivial⟩
   ·refine .go 7 ?_
    exact (hb16 _ rfl).ax ⟨X44 c15, rfl, rfl, rfl, rfl, trivial⟩
end Go.Proofs.YtmfppphlhgneeaaGreat
end

section
set_option maxHeartbeats 4000000
set_option maxRecDepth 100000
namespace Go.Proofs.YtmfppphlhgneeaaGreat
open Go.RowKit
set_option linter.unusedSimpArgs false
set_option linter.unusedVariables false
set_option synthInstance.maxSize 2000
set_option synthInstance.maxHeartbeats 400000
variable {Fs : List Hp} {G : Hp} {a0_1 a0 a1 a2 a5 a3 : Option Addr} {k0_1 k0 k1 k2 k5 k3 : Nat} {cc1 cc5 : List Value} {ee1 : List NE} {bb5 : Option Nat}
theorem Xdo {x0_0 : Int} {x0_1 : List (Int × Int)} {x1 : ByteArray} {r : ((List Int) × Int)} (hG : G ∈ Fs) (s0_1 : SlR (Rep.pair ri ri) G a0_1 k0_1 x0_1) (h : X6t (x0_0, x0_1) x1 = some r) : RetS Tryz.prog 36 #[.agg #[.int .i64 x0_0, .slice a0_1 x0_1.length k0_1], .string x1] Fs [] [] (fun v bo so => ∃ (oa0 : Option Addr) (ok0 : Nat) (oc0 : List Value), v = .tuple #[.slice oa0 r.1.length ok0, .int .i64 r.2] ∧ bo = [] ∧ so = [.s (.slice oa0 r.1.length ok0) 3 1 r.1.length oc0] ∧ OL ri G oc0 r.1) := by
 unfold X6t at h
 try dsimp only at h
 refine RetS.st [(0, _), (1, _)] Tryz.func36 Tryz.ntmps36 hG fun w0 S0 hS0 B0 => ?_
 refine .go 2 ?_
 refine .box [_, _] .ro rfl rfl rfl (fun b1 hb1 => ?_)
 refine .go 6 ?_
 refine .q .ro (.load_own_a 0 [_, _] rfl rfl ty28 rfl) rfl ?_
 obtain ⟨u2, hu2, r3⟩ := X0 h
 refine .cV [_] Tryz.call67 (Xa6 mcs s0_1 hu2) ?_
 refine .go 7 ?_
 refine .cH r3 (fun c6 r7 => ?_) (fun c6 r9 => ?_)
 ·refine .go 6 ?_
  refine .own_nil 3 1 ?_
  cases r7
  refine .drop 1 0 [] _ rfl rfl ?_
  refine .rS [.tmp 4, .tmp 5] [_, _] Tryz.func36 Tryz.results36 ⟨none, 0, [], rfl, rfl, rfl, (OL.nil (Rp' := ri))⟩
 ·refine .go 5 ?_
  obtain ⟨u10, hu10, r11⟩ := X0 r9
  refine .cV [_] Tryz.call74 (X93 mcs  hu10) ?_
  refine .go 2 ?_
  refine .cB r11 (fun c14 r15 => ?_) (fun c14 r17 => ?_)
  ·refine .go 5 ?_
   refine .own_nil 3 1 ?_
   cases r15
   refine .drop 1 0 [] _ rfl rfl ?_
   refine .rS [.tmp 4, .tmp 5] [_, _] Tryz.func36 Tryz.results36 ⟨none, 0, [], rfl, rfl, rfl, (OL.nil (Rp' := ri))⟩
  ·refine .go 3 ?_
   refine .q .ro (.load_own_a 0 [_, _] rfl rfl ty28 rfl) rfl (.go 1 ?_)
   obtain ⟨u18, hu18, r19⟩ := X0 r17
   refine .cS [_, _] Tryz.call71 (Xbg mcs s0_1 hu18) (fun v21 bo so h20 => ?_)
   obtain ⟨a23, k24, cs25, rfl, rfl, rfl, o26⟩ := h20
   refine .gn 3 ?_
   cases r19
   refine .drop 1 0 [] _ rfl rfl ?_
   refine .rS [.tmp 4, .tmp 5] [_, _] Tryz.func36 Tryz.results36 ⟨a23, k24, cs25, rfl, rfl, rfl, o26⟩
theorem Xcd {x0_0 : Int} {x0_1 : List (Int × Int)} {x1 : ByteArray} {r : ((List Int) × Int)} (hG : G ∈ Fs) (s0_1 : SlR (Rep.pair ri ri) G a0_1 k0_1 x0_1) (h : X5b (x0_0, x0_1) x1 = some r) : RetS Tryz.prog 11 #[.agg #[.int .i64 x0_0, .slice a0_1 x0_1.length k0_1], .string x1] Fs [] [] (fun v bo so => ∃ (oa0 : Option Addr) (ok0 : Nat) (oc0 : List Value), v = .tuple #[.slice oa0 r.1.length ok0, .int .i64 r.2] ∧ bo = [] ∧ so = [.s (.slice oa0 r.1.length ok0) 3 1 r.1.length oc0] ∧ OL ri G oc0 r.1) := by
 unfold X5b at h
 try dsimp only at h
 refine RetS.st [(0, _), (1, _)] Tryz.func11 Tryz.ntmps11 hG fun w0 S0 hS0 B0 => ?_
 refine .go 2 ?_
 refine .box [_, _] .ro rfl rfl rfl (fun b1 hb1 => ?_)
 refine .go 5 ?_
 refine .q .ro (.load_own_a 0 [_, _] rfl rfl ty28 rfl) rfl (.go 1 ?_)
 obtain ⟨u2, hu2, r3⟩ := X0 h
 refine .cS [_, _] Tryz.call36 (Xdo mcs s0_1 hu2) (fun v5 bo so h4 => ?_)
 obtain ⟨a7, k8, cs9, rfl, rfl, rfl, o10⟩ := h4
 refine .gn 5 ?_
 cases r3
 refine .drop 1 0 [] _ rfl rfl ?_
 refine .rS [.tmp 4, .tmp 5] [_, _] Tryz.func11 Tryz.results11 ⟨a7, k8, cs9, rfl, rfl, rfl, o10⟩
theorem X98 {x0_0 : Int} {x0_1 : List (Int × Int)} {r : Int} (hG : G ∈ Fs) (s0_1 : SlR (Rep.pair ri ri) G a0_1 k0_1 x0_1) (h : X69 (x0_0, x0_1) = some r) : RetS Tryz.prog 49 #[.agg #[.int .i64 x0_0, .slice a0_1 x0_1.length k0_1]] Fs [] [] (rv (.int .i64 r)) := by
 unfold X69 at h
 try dsimp only at h
 refine RetS.st [(0, _)] Tryz.func49 Tryz.ntmps49 hG fun w0 S0 hS0 B0 => ?_
 refine .go 2 ?_
 refine .box [_, _] .ro rfl rfl rfl (fun b1 hb1 => ?_)
 refine .go 9 ?_
 refine .kR (fun y => y = ⟨[(12, .bool (decide ((x0_0 < 1) ∨ (64 < x0_0))))], G :: Fs, [], []⟩) [(1, _)] [_] [0] [] [] 4 ?_ ?_
 ·rintro _ rfl
  refine .gn 1 ?_
  refine .kR (fun y => y = ⟨[(18, .bool (decide (((x0_0 < 1) ∨ (64 < x0_0)) ∨ ((x0_1.length : Int) < 1))))], G :: Fs, [], []⟩) [(1, _)] [_] [0] [] [] 5 ?_ ?_
  ·rintro _ rfl
   refine .gn 1 ?_
   refine .kR (fun y => y = ⟨[(24, .bool (decide ((((x0_0 < 1) ∨ (64 < x0_0)) ∨ ((x0_1.length : Int) < 1)) ∨ (4 < (x0_1.length : Int)))))], G :: Fs, [], []⟩) [(1, _)] [_] [0] [] [] 5 ?_ ?_
   ·rintro _ rfl
    refine .gn 1 ?_
    refine .cH h (fun c14 r15 => ?_) (fun c14 r16 => ?_)
    ·refine .go 4 ?_
     cases r15
     refine .drop 1 0 [] _ rfl rfl ?_
     refine .rS [.tmp 2] [_] Tryz.func49 Tryz.results49 ⟨rfl, rfl, rfl⟩
    ·refine .go 9 ?_
     refine .block ?_
     refine .lp (fun y m => ∃ (Z0 : Nat) (Z1 : List (Int × Int)), y = ⟨[(28, .int .i64 (Z0 : Int))], [], [], []⟩ ∧ Z1.length = m ∧ List.drop Z0 x0_1 = Z1 ∧ X4f Z1  = some r) [(26, _), (27, _)] [_] [] ⟨0, x0_1, rfl, rfl, rfl, r16⟩ (fun y m hI hb49 => ?_)
     obtain ⟨i45, w46, rfl, rfl, g47, r48⟩ := hI
     refine .gn 0 ?_
     cases w46 with
     | nil =>
      rw [X4f] at r48; try dsimp only at r48
      refine .go 5 ?_
      refine .cond_dec rfl (fun c => absurd c (X8 g47)) (fun _ => ?_)
      refine .exit rfl (.go 4 ?_)
      cases r48
      refine .drop 1 0 [] _ rfl rfl ?_
      refine .rS [.tmp 2] [_] Tryz.func49 Tryz.results49 ⟨rfl, rfl, rfl⟩
     | cons x54 xs55 =>
      have r53 : Xa5 (X4f xs55) x54  = some r := r48; clear r48; unfold Xa5 at r53; try dsimp only at r53
      refine .go 5 ?_
      refine .cond_dec rfl (fun _ => ?_) (fun c => absurd (Xf g47) c)
      refine .go 2 ?_
      refine .block (.go 2 ?_)
      obtain ⟨c56, p57, h58⟩ := SlR.get s0_1 (X2 g47)
      obtain ⟨_, _, rfl, rfl, rfl⟩ := h58
      refine .q .ro (.idxR s0_1 rfl rfl (X2 g47) sl26 ty89.sz) rfl (.q .ro (.load_rp_a [_, _] p57 mcs rfl ty89 rfl) rfl ?_)
      refine .alloc .ro ty89 rfl (fun b59 hb59 => ?_)
      refine .store 0 [_, _] [_, _] .ro rfl rfl rfl ty89 rfl rfl rfl rfl (.go 7 ?_)
      refine .kR (fun y => y = ⟨[(39, .bool (decide ((x54.1 < 0) ∨ (2147483647 ≤ x54.1))))], G :: Fs, [], []⟩) [(28, _), (26, _), (27, _), (4, _)] [_, _] [0, 1] [] [] 4 ?_ ?_
      ·rintro _ rfl
       refine .gn 1 ?_
       refine .kR (fun y => y = ⟨[(44, .bool (decide (((x54.1 < 0) ∨ (2147483647 ≤ x54.1)) ∨ (x54.2 < 0))))], G :: Fs, [], []⟩) [(28, _), (26, _), (27, _), (4, _)] [_, _] [0, 1] [] [] 4 ?_ ?_
       ·rintro _ rfl
        refine .gn 1 ?_
        refine .kR (fun y => y = ⟨[(49, .bool (decide ((((x54.1 < 0) ∨ (2147483647 ≤ x54.1)) ∨ (x54.2 < 0)) ∨ (2147483647 ≤ x54.2))))], G :: Fs, [], []⟩) [(28, _), (26, _), (27, _)] [_, _] [0, 1] [] [] 4 ?_ ?_
        ·rintro _ rfl
         refine .gn 1 ?_
         refine .cH r53 (fun c72 r73 => ?_) (fun c72 r74 => ?_)
         ·refine .go 4 ?_
          cases r73
          refine .drop 2 0 [] _ rfl rfl ?_
          refine .rS [.tmp 2] [_] Tryz.func49 Tryz.results49 ⟨rfl, rfl, rfl⟩
         ·refine .go 6 ?_
          refine .drop 1 0 [_] _ rfl rfl ?_
          exact (hb49 _ _ ⟨(i45 + 1), xs55, rfl, rfl, (X3 g47), r74⟩ (Nat.lt_succ_self _)).ax ⟨(congrArg (fun z => some (Value.int .i64 z)) (X7 (SlR.len s0_1) g47)), rfl, rfl, trivial⟩
        ·intro hb69
         refine .split 45 rfl (fun c68 => ?_) (fun c68 => ?_)
         ·refine .go 4 ?_
          exact (hb69 _ rfl).ax ⟨X3s c68, rfl, rfl, rfl, trivial⟩
         ·refine .go 7 ?_
          exact (hb69 _ rfl).ax ⟨X44 c68, rfl, rfl, rfl, trivial⟩
       ·intro hb65
        refine .split 40 rfl (fun c64 => ?_) (fun c64 => ?_)
        ·refine .go 4 ?_
         exact (hb65 _ rfl).ax ⟨X3s c64, rfl, rfl, rfl, rfl, trivial⟩
        ·refine .go 7 ?_
         exact (hb65 _ rfl).ax ⟨X44 c64, rfl, rfl, rfl, rfl, trivial⟩
      ·intro hb61
       refine .split 35 rfl (fun c60 => ?_) (fun c60 => ?_)
       ·refine .go 4 ?_
        exact (hb61 _ rfl).ax ⟨X3s c60, rfl, rfl, rfl, rfl, trivial⟩
       ·refine .go 7 ?_
        exact (hb61 _ rfl).ax ⟨X44 c60, rfl, rfl, rfl, rfl, trivial⟩
   ·intro hb11
    refine .split 19 rfl (fun c10 => ?_) (fun c10 => ?_)
    ·refine .go 5 ?_
     exact (hb11 _ rfl).ax ⟨X3s c10, rfl, trivial⟩
    ·refine .go 9 ?_
     exact (hb11 _ rfl).ax ⟨X44 c10, rfl, trivial⟩
  ·intro hb7
   refine .split 13 rfl (fun c6 => ?_) (fun c6 => ?_)
   ·refine .go 5 ?_
    exact (hb7 _ rfl).ax ⟨X3s c6, rfl, trivial⟩
   ·refine .go 9 ?_
    exact (hb7 _ rfl).ax ⟨X44 c6, rfl, trivial⟩
 ·intro hb3
  refine .split 8 rfl (fun c2 => ?_) (fun c2 => ?_)
  ·refine .go 4 ?_
   exact (hb3 _ rfl).ax ⟨X3s c2, rfl, trivial⟩
  ·refine .go 7 ?_
   exact (hb3 _ rfl).ax ⟨X44 c2, rfl, trivial⟩
theorem X9x {x0 : ByteArray} {r : Bool} (hG : G ∈ Fs)  (h : X70 x0 = some r) : RetS Tryz.prog 92 #[.string x0] Fs [] [] (rv (.bool r)) := by
 unfold X70 at h
 try dsimp only at h
 refine RetS.st [(0, _)] Tryz.func92 Tryz.ntmps92 hG fun w0 S0 hS0 B0 => ?_
 refine .go 7 ?_
 refine .q .ro (.len_s rfl Tryz.underlying9) rfl (.go 2 ?_)
 refine .kR (fun y => y = ⟨[(10, .bool (decide ((1 ≤ (x0.size : Int)) ∧ ((x0.size : Int) ≤ 32))))], G :: Fs, [], []⟩) [(2, _)] [] [] [] [] 4 ?_ ?_
 ·rintro _ rfl
  refine .gn 2 ?_
  cases h
  refine .rS [.tmp 2] [_] Tryz.func92 Tryz.results92 ⟨rfl, rfl, rfl⟩
 ·intro hb2
  refine .split 6 rfl (fun c1 => ?_) (fun c1 => ?_)
  ·refine .go 3 ?_
   refine .q .ro (.len_s rfl Tryz.underlying9) rfl (.go 3 ?_)
   exact (hb2 _ rfl).ax ⟨X6w c1, rfl, trivial⟩
  ·refine .go 4 ?_
   exact (hb2 _ rfl).ax ⟨X6x c1, rfl, trivial⟩
theorem Xau {x0_0 : ByteArray} {x0_1 : Int} {r : Bool} (hG : G ∈ Fs)  (h : X6a (x0_0, x0_1) = some r) : RetS Tryz.prog 50 #[.agg #[.string x0_0, .int .i64 x0_1]] Fs [] [] (rv (.bool r)) := by
 unfold X6a at h
 try dsimp only at h
 refine RetS.st [(0, _)] Tryz.func50 Tryz.ntmps50 hG fun w0 S0 hS0 B0 => ?_
 refine .go 2 ?_
 refine .box [_, _] .ro rfl rfl rfl (fun b1 hb1 => ?_)
 refine .go 6 ?_
 obtain ⟨u2, hu2, r3⟩ := X0 h
 refine .cV [_] Tryz.call92 (X9x mcs  hu2) ?_
 refine .go 1 ?_
 refine .kR (fun y => y = ⟨[(10, .bool (decide ((u2 = true) ∧ (0 ≤ x0_1))))], G :: Fs, [], []⟩) [(1, _), (2, _)] [_] [0] [] [] 4 ?_ ?_
 ·rintro _ rfl
  refine .gn 1 ?_
  refine .kR (fun y => y = ⟨[(15, .bool (decide (((u2 = true) ∧ (0 ≤ x0_1)) ∧ (x0_1 < 2147483647))))], G :: Fs, [], []⟩) [(2, _)] [_] [0] [] [] 4 ?_ ?_
  ·rintro _ rfl
   refine .gn 2 ?_
   cases r3
   refine .drop 1 0 [] _ rfl rfl ?_
   refine .rS [.tmp 2] [_] Tryz.func50 Tryz.results50 ⟨rfl, rfl, rfl⟩
  ·intro hb11
   refine .split 11 rfl (fun c10 => ?_) (fun c10 => ?_)
   ·refine .go 7 ?_
    exact (hb11 _ rfl).ax ⟨X6w c10, rfl, trivial⟩
   ·refine .go 4 ?_
    exact (hb11 _ rfl).ax ⟨X6x c10, rfl, trivial⟩
 ·intro hb7
  refine .split_b 6 rfl (fun c6 => ?_) (fun c6 => ?_)
  ·refine .go 7 ?_
   exact (hb7 _ rfl).ax ⟨X6w c6, rfl, rfl, trivial⟩
  ·refine .go 4 ?_
   exact (hb7 _ rfl).ax ⟨X6x (Xga c6), rfl, rfl, trivial⟩
theorem Xfc {x0_0 : Int} {x0_1 : List (Int × Int)} {x1 : Int} {r : ((List Int) × Int)} (hG : G ∈ Fs) (s0_1 : SlR (Rep.pair ri ri) G a0_1 k0_1 x0_1) (h : X9k (x0_0, x0_1) x1 = some r) : RetS Tryz.prog 93 #[.agg #[.int .i64 x0_0, .slice a0_1 x0_1.length k0_1], .int .i64 x1] Fs [] [] (fun v bo so => ∃ (oa0 : Option Addr) (ok0 : Nat) (oc0 : List Value), v = .tuple #[.slice oa0 r.1.length ok0, .int .i64 r.2] ∧ bo = [] ∧ so = [.s (.slice oa0 r.1.length ok0) 3 1 r.1.length oc0] ∧ OL ri G oc0 r.1) := by
 unfold X9k at h
 try dsimp only at h
 refine RetS.st [(0, _), (1, _)] Tryz.func93 Tryz.ntmps93 hG fun w0 S0 hS0 B0 => ?_
 refine .go 2 ?_
 refine .box [_, _] .ro rfl rfl rfl (fun b1 hb1 => ?_)
 refine .go 6 ?_
 refine .q .ro (.load_own_a 0 [_, _] rfl rfl ty28 rfl) rfl ?_
 obtain ⟨u2, hu2, r3⟩ := X0 h
 refine .cV [_] Tryz.call49 (X98 mcs s0_1 hu2) ?_
 refine .go 7 ?_
 refine .cH r3 (fun c6 r7 => ?_) (fun c6 r9 => ?_)
 ·refine .go 6 ?_
  refine .own_nil 3 1 ?_
  cases r7
  refine .drop 1 0 [] _ rfl rfl ?_
  refine .rS [.tmp 4, .tmp 5] [_, _] Tryz.func93 Tryz.results93 ⟨none, 0, [], rfl, rfl, rfl, (OL.nil (Rp' := ri))⟩
 ·refine .go 7 ?_
  refine .kR (fun y => y = ⟨[(20, .bool (decide ((x1 < 0) ∨ (2147483647 ≤ x1))))], G :: Fs, [], []⟩) [(1, _), (2, _)] [_] [0] [] [] 3 ?_ ?_
  ·rintro _ rfl
   refine .gn 1 ?_
   refine .cH r9 (fun c14 r15 => ?_) (fun c14 r17 => ?_)
   ·refine .go 5 ?_
    refine .own_nil 3 1 ?_
    cases r15
    refine .drop 1 0 [] _ rfl rfl ?_
    refine .rS [.tmp 4, .tmp 5] [_, _] Tryz.func93 Tryz.results93 ⟨none, 0, [], rfl, rfl, rfl, (OL.nil (Rp' := ri))⟩
   ·refine .go 13 ?_
    refine .block (.own_nil 3 1 ?_)
    refine .lp (fun y m => ∃ (Z0 : Nat) (Z1 : List (Int × Int)) (Z2 : List Int) (Z3 : _) (Z4 : Nat) (Z5 : _), y = ⟨[(7, .slice Z3 Z2.length Z4), (24, .int .i64 (Z0 : Int))], [], [], [.s (.slice Z3 Z2.length Z4) 3 1 Z2.length Z5]⟩ ∧ Z1.length = m ∧ OL ri G Z5 Z2 ∧ List.drop Z0 x0_1 = Z1 ∧ X3f x1 x0_0 Z1 Z2 = some r) [(1, _), (2, _), (22, _), (23, _)] [_] [] ⟨0, x0_1, ([] : List Int), none, 0, [], rfl, rfl, (OL.nil (Rp' := ri)), rfl, r17⟩ (fun y m hI hb82 => ?_)
    obtain ⟨i72, w73, v75, a76, k77, cs78, rfl, rfl, o79, g74, r81⟩ := hI
    refine .gn 0 ?_
    cases w73 with
    | nil =>
     rw [X3f] at r81; try dsimp only at r81
     refine .go 5 ?_
     refine .cond_dec rfl (fun c => absurd c (X8 g74)) (fun _ => ?_)
     refine .exit rfl (.go 6 ?_)
     cases r81
     refine .drop 1 0 [] _ rfl rfl ?_
     refine .rS [.tmp 4, .tmp 5] [_, _] Tryz.func93 Tryz.results93 ⟨a76, k77, cs78, rfl, rfl, rfl, o79⟩
    | cons x88 xs89 =>
     have r87 : X8h x1 x0_0 (X3f x1 x0_0 xs89) x88 v75 = some r := r81; clear r81; unfold X8h at r87; try dsimp only at r87
     refine .go 5 ?_
     refine .cond_dec rfl (fun _ => ?_) (fun c => absurd (Xf g74) c)
     refine .go 2 ?_
     refine .block (.go 2 ?_)
     obtain ⟨c90, p91, h92⟩ := SlR.get s0_1 (X2 g74)
     obtain ⟨_, _, rfl, rfl, rfl⟩ := h92
     refine .q .ro (.idxR s0_1 rfl rfl (X2 g74) sl26 ty89.sz) rfl (.q .ro (.load_rp_a [_, _] p91 mcs rfl ty89 rfl) rfl ?_)
     refine .alloc .ro ty89 rfl (fun b93 hb93 => ?_)
     refine .store 0 [_, _] [_, _] .ro rfl rfl rfl ty89 rfl rfl rfl rfl (.go 10 ?_)
     refine .q .ro (.remt rfl rfl (by decide)) rfl (.go 2 ?_)
     obtain ⟨u94, hu94, r95⟩ := X0 r87
     refine .q .ro (.remt rfl rfl (Xbz hu94)) rfl ?_
     refine .lit [_] [(0, _)] .ro sl48 ty3 rfl rfl rfl rfl rfl rfl (fun b96 hb96 => ?_)
     have o97 : OL ri G [.int .i64 (Int.tmod (Int.tmod (w64 ((w64 (x88.1 * x1)) + x88.2)) 2147483647) x0_0)] ([(Int.tmod (Int.tmod (w64 ((w64 (x88.1 * x1)) + x88.2)) 2147483647) x0_0)] : List Int) := ((OL.cons rfl (Rep.intI .i64 (Int.tmod (Int.tmod (w64 ((w64 (x88.1 * x1)) + x88.2)) 2147483647) x0_0)) (OL.nil (Rp' := ri))) :)
     refine .reval 40 (n' := ([(Int.tmod (Int.tmod (w64 ((w64 (x88.1 * x1)) + x88.2)) 2147483647) x0_0)] : List Int).length) rfl rfl ?_
     obtain ⟨u12, hu12, r13⟩ := X0 r95
     refine .appO (Q := ri) 0 .ro sl48 ty3 rfl rfl rfl rfl rfl rfl o79 o97 rfl rfl rfl B0 hu12 rfl (fun a99 k16 cs18 o20 => ?_)
     refine .go 7 ?_
     refine .drop 1 0 [_] _ rfl rfl ?_
     exact (hb82 _ _ ⟨(i72 + 1), xs89, u12, a99, k16, cs18, rfl, rfl, o20, (X3 g74), r13⟩ (Nat.lt_succ_self _)).ax ⟨rfl, (congrArg (fun z => some (Value.int .i64 z)) (X7 (SlR.len s0_1) g74)), rfl, rfl, rfl, rfl, trivial⟩
  ·intro hb11
   refine .split 17 rfl (fun c10 => ?_) (fun c10 => ?_)
   ·refine .go 3 ?_
    exact (hb11 _ rfl).ax ⟨X3s c10, rfl, rfl, trivial⟩
   ·refine .go 5 ?_
    exact (hb11 _ rfl).ax ⟨X44 c10, rfl, rfl, trivial⟩
theorem Xhb {x0 : ByteArray} {r : Int} (hG : G ∈ Fs)  (h : Xad x0 = some r) : RetS Tryz.prog 94 #[.string x0] Fs [] [] (rv (.int .i64 r)) := by
 unfold Xad at h
 try dsimp only at h
 refine RetS.st [(0, _)] Tryz.func94 Tryz.ntmps94 hG fun w0 S0 hS0 B0 => ?_
 refine .go 13 ?_
 refine .block ?_
 refine .lp (fun y m => ∃ (Z0 : Nat) (Z1 Z2 : _), y = ⟨[(3, .int .i64 Z1), (4, .int .i64 Z2)], [], [], []⟩ ∧ Z0 = m ∧ X6b x0 Z0 Z1 Z2 = some r) [(0, _)] [] [] ⟨big, 1, 0, rfl, rfl, h⟩ (fun y m hI hb14 => ?_)
 obtain ⟨n9, v11, v12, rfl, rfl, r13⟩ := hI
 refine .gn 0 ?_
 obtain ⟨m17, rfl⟩ : ∃ m, n9 = m + 1 := by cases n9 with | zero => exact absurd (show (none : Option _) = some _ from r13) (by simp) | succ m => exact ⟨m, rfl⟩
 have r16 : X8w x0 (X6b x0 m17) v11 v12 = some r := r13; clear r13; unfold X8w at r16; try dsimp only at r16
 refine .go 5 ?_
 refine .q .ro (.len_s rfl Tryz.underlying9) rfl (.go 2 ?_)
 refine .cH r16 (fun c18 r19 => ?_) (fun c18 r22 => ?_)
 ·refine .go 2 ?_
  refine .block (.go 5 ?_)
  obtain ⟨u20, hu20, r21⟩ := X0 r19
  refine .q .ro (.sidx rfl rfl Tryz.underlying9 hu20) rfl (.q .ro (.convw Tryz.underlying5 Tryz.underlying3 rfl) rfl (.go 2 ?_))
  refine .q .ro (.remt rfl rfl (by decide)) rfl (.go 8 ?_)
  exact (hb14 _ _ ⟨m17, (Int.tmod (w64 ((w64 ((w64 (v11 * 1000003)) + (w64 u20))) + 1)) 2147483647), (w64 (v12 + 1)), rfl, rfl, r21⟩ (Nat.lt_succ_self _)).ar
 ·refine .exit rfl ?_
  refine .go 5 ?_
  cases r22
  refine .rS [.tmp 2] [_] Tryz.func94 Tryz.results94 ⟨rfl, rfl, rfl⟩
theorem Xav {x0_0 : Int} {x0_1 : List (Int × Int)} {x1 : ByteArray} {r : ((List Int) × Int)} (hG : G ∈ Fs) (s0_1 : SlR (Rep.pair ri ri) G a0_1 k0_1 x0_1) (h : X35 (x0_0, x0_1) x1 = some r) : RetS Tryz.prog 51 #[.agg #[.int .i64 x0_0, .slice a0_1 x0_1.length k0_1], .string x1] Fs [] [] (fun v bo so => ∃ (oa0 : Option Addr) (ok0 : Nat) (oc0 : List Value), v = .tuple #[.slice oa0 r.1.length ok0, .int .i64 r.2] ∧ bo = [] ∧ so = [.s (.slice oa0 r.1.length ok0) 3 1 r.1.length oc0] ∧ OL ri G oc0 r.1) := by
 unfold X35 at h
 try dsimp only at h
 refine RetS.st [(0, _), (1, _)] Tryz.func51 Tryz.ntmps51 hG fun w0 S0 hS0 B0 => ?_
 refine .go 2 ?_
 refine .box [_, _] .ro rfl rfl rfl (fun b1 hb1 => ?_)
 refine .go 6 ?_
 refine .q .ro (.load_own_a 0 [_, _] rfl rfl ty28 rfl) rfl ?_
 obtain ⟨u2, hu2, r3⟩ := X0 h
 refine .cV [_] Tryz.call49 (X98 mcs s0_1 hu2) ?_
 refine .go 2 ?_
 refine .cH r3 (fun c6 r7 => ?_) (fun c6 r9 => ?_)
 ·refine .go 5 ?_
  refine .own_nil 3 1 ?_
  cases r7
  refine .drop 1 0 [] _ rfl rfl ?_
  refine .rS [.tmp 4, .tmp 5] [_, _] Tryz.func51 Tryz.results51 ⟨none, 0, [], rfl, rfl, rfl, (OL.nil (Rp' := ri))⟩
 ·refine .go 5 ?_
  obtain ⟨u10, hu10, r11⟩ := X0 r9
  refine .cV [_] Tryz.call92 (X9x mcs  hu10) ?_
  refine .go 2 ?_
  refine .cB r11 (fun c14 r15 => ?_) (fun c14 r17 => ?_)
  ·refine .go 5 ?_
   refine .own_nil 3 1 ?_
   cases r15
   refine .drop 1 0 [] _ rfl rfl ?_
   refine .rS [.tmp 4, .tmp 5] [_, _] Tryz.func51 Tryz.results51 ⟨none, 0, [], rfl, rfl, rfl, (OL.nil (Rp' := ri))⟩
  ·refine .go 2 ?_
   refine .drawL (.q 0 (.q 1 (.e 2 1 (.e 3 1 (.q 4 (.q 5 (.q 6 (.q 7 .nil)))))))) [_] (by kernel_rfl) (by kernel_rfl) (X1 [0] rfl) (.dq (.load_own_a 0 [_, _] rfl rfl ty28 rfl) rfl (.go 1 ?_))
   obtain ⟨u18, hu18, r19⟩ := X0 r17
   refine .cVd [_] Tryz.call94 (Xhb mcs  hu18) ?_
   refine .clsL (HpLe.refl _) (X1 [0] rfl) ?_
   obtain ⟨u22, hu22, r23⟩ := X0 r19
   refine .cSd [_, _] Tryz.call93 (Xfc mcs s0_1 hu22) (fun v25 bo so h24 => ?_)
   obtain ⟨a27, k28, cs29, rfl, rfl, rfl, o30⟩ := h24
   refine .gn 0 ?_
   refine .clsL (HpLe.refl _) (X1 [0] rfl) (.go 5 ?_)
   cases r23
   refine .drop 1 0 [] _ rfl rfl ?_
   refine .rS [.tmp 4, .tmp 5] [_, _] Tryz.func51 Tryz.results51 ⟨a27, k28, cs29, rfl, rfl, rfl, o30⟩
theorem Xdp (n : Nat) : ∀ {Fs : List Hp} {G : Hp} {a0 : Option Addr} {k0 : Nat} {x0 : List (List Int)} {a1 : Option Addr} {k1 : Nat} {x1 : List (List Int)} {cc1 : List Value} {ee1 : List NE} {a2 : Option Addr} {k2 : Nat} {x2 : List Int} {x3 : Int} {x4 : Int} {a5 : Option Addr} {k5 : Nat} {x5 : List Bool} {cc5 : List Value} {bb5 : Option Nat} {pre5 post5 : List Value} {r : (Bool × (List (List Int)) × (List Bool))} (hG : G ∈ Fs) (s0 : SlR (Rep.sl ri) G a0 k0 x0) (oo1 : NL ri G ee1 cc1 x1) (s2 : SlR ri G a2 k2 x2) (vva5 : VA a5 bb5 x5.length k5 pre5 cc5) (oo5 : OL Rep.bool G cc5 x5) (h : Xb n x0 x1 x2 x3 x4 x5 = some r), RetS Tryz.prog 125 #[.slice a0 x0.length k0, .slice a1 x1.length k1, .slice a2 x2.length k2, .int .i64 x3, .int .i64 x4, .slice a5 x5.length k5] Fs [] [.s (.slice a1 x1.length k1) 48 1 x1.length cc1, .g (packG 3 1 ee1), .g (viewG bb5 4 pre5 cc5 post5)] (fun v bo so => (r.1 = false ∧ ∃ lc0 : List Value, v = .bool false ∧ bo = [] ∧ so = [.s (.slice a1 x1.length k1) 48 1 x1.length cc1, .g (packG 3 1 ee1), .g (viewG bb5 4 pre5 lc0 post5)] ∧ OL Rep.bool G lc0 r.2.2 ∧ r.2.2.length = x5.length) ∨ (r.1 = true ∧ ∃ le0 : List NE, ∃ lc0 : List Value, ∃ lc1 : List Value, v = .bool true ∧ bo = [] ∧ so = [.s (.slice a1 r.2.1.length k1) 48 1 r.2.1.length lc0, .g (packG 3 1 le0), .g (viewG bb5 4 pre5 lc1 post5)] ∧ NL ri G le0 lc0 r.2.1 ∧ r.2.1.length = x1.length ∧ OL Rep.bool G lc1 r.2.2 ∧ r.2.2.length = x5.length)) := by
 induction n with
 | zero => intro Fs G a0 k0 x0 a1 k1 x1 cc1 ee1 a2 k2 x2 x3 x4 a5 k5 x5 cc5 bb5 pre5 post5 r hG s0 oo1 s2 vva5 oo5 h; exact absurd h (by unfold Xb; simp)
 | succ n ih =>
  intro Fs G a0 k0 x0 a1 k1 x1 cc1 ee1 a2 k2 x2 x3 x4 a5 k5 x5 cc5 bb5 pre5 post5 r hG s0 oo1 s2 vva5 oo5 h
  unfold Xb at h
  unfold X8i at h
  try dsimp only at h
  refine RetS.st [(0, _), (1, _), (2, _), (3, _), (4, _), (5, _)] Tryz.func125 Tryz.ntmps125 hG fun w0 S0 hS0 B0 => ?_
  refine .go 9 ?_
  obtain ⟨u4, hu4, r5⟩ := X0 h
  obtain ⟨c6, p7, h8⟩ := SlR.get s0 hu4
  obtain ⟨a9, k10, rfl, s11⟩ := h8
  refine .q .ro (.idxR s0 rfl rfl hu4 sl37 ty48.sz) rfl (.q .ro (.load_rp p7 mcs rfl ty48 rfl) rfl (.go 3 ?_))
  refine .block (.pullS 2 rfl [_, _, _] rfl ?_)
  refine .lp (fun y m => ∃ (Z0 : Nat) (Z1 : List Int) (Z2 : List Bool) (Z3 : _), y = ⟨[(5, .slice a5 Z2.length k5), (22, .int .i64 (Z0 : Int))], [], [], [.g (viewG bb5 4 pre5 Z3 post5)]⟩ ∧ Z1.length = m ∧ OL Rep.bool G Z3 Z2 ∧ VA a5 bb5 Z2.length k5 pre5 Z3 ∧ Z2.length = x5.length ∧ List.drop Z0 u4 = Z1 ∧ X1n (Xb n) x0 x2 x3 x4 x1 Z1 Z2 = some r) [(0, _), (1, _), (2, _), (3, _), (4, _), (20, _), (21, _)] [] [_, _] ⟨0, u4, x5, cc5, rfl, rfl, oo5, vva5, rfl, rfl, r5⟩ (fun y m hI hb12 => ?_)
  obtain ⟨i13, w14, v15, cs16, rfl, rfl, o17, va18, hl20, g21, r22⟩ := hI
  refine .gn 0 ?_
  cases w14 with
  | nil =>
   rw [X1n] at r22; try dsimp only at r22
   refine .go 5 ?_
   refine .cond_dec rfl (fun c => absurd c (X8 g21)) (fun _ => ?_)
   refine .exit rfl (.go 4 ?_)
   cases r22
   refine .pullS 2 rfl [_, _, _] rfl (.pullS 2 rfl [_, _, _] rfl ?_)
   refine .rS [.tmp 12] [_] Tryz.func125 Tryz.results125 (.inl ⟨rfl, ⟨cs16, rfl, rfl, rfl, o17, hl20⟩⟩)
  | cons x23 xs24 =>
   have r25 : X72 (Xb n) x0 x2 x3 x4 x1 (X1n (Xb n) x0 x2 x3 x4 x1 xs24) x23 v15 = some r := r22; clear r22; unfold X72 at r25; try dsimp only at r25
   refine .go 5 ?_
   refine .cond_dec rfl (fun _ => ?_) (fun c => absurd (Xf g21) c)
   refine .go 2 ?_
   refine .block (.go 2 ?_)
   obtain ⟨c26, p27, h28⟩ := SlR.get s11 (X2 g21)
   obtain rfl := h28
   refine .q .ro (.idxR s11 rfl rfl (X2 g21) sl48 ty3.sz) rfl (.q .ro (.load_rp p27 mcs rfl ty3 rfl) rfl (.go 7 ?_))
   obtain ⟨u29, hu29, r30⟩ := X0 r25
   obtain ⟨c31, p32, h33⟩ := OL.get o17 hu29
   obtain rfl := h33
   refine .q .ro (.idxV 0 rfl va18 o17 rfl rfl hu29 sl186 ty4.sz rfl rfl) rfl (.q .ro (.loadV 0 0 rfl va18 o17 rfl rfl hu29 p32 rfl (.inl ⟨rfl, rfl⟩) ty4 rfl) rfl (.go 1 ?_))
   refine .cB r30 (fun c34 r35 => ?_) (fun c34 r36 => ?_)
   ·refine .exit rfl ?_
    refine .go 4 ?_
    exact (hb12 _ _ ⟨(i13 + 1), xs24, v15, cs16, rfl, rfl, o17, va18, hl20, (X3 g21), r35⟩ (Nat.lt_succ_self _)).ax ⟨rfl, (congrArg (fun z => some (Value.int .i64 z)) (X7 (SlR.len s11) g21)), rfl, rfl, rfl, rfl, rfl, rfl, rfl, trivial⟩
   ·refine .go 5 ?_
    obtain ⟨u38, hu38, r39⟩ := X0 r36
    obtain ⟨c40, p41, h42⟩ := OL.get o17 hu38
    obtain rfl := h42
    refine .q .ro (.idxV 0 rfl va18 o17 rfl rfl hu38 sl186 ty4.sz rfl rfl) rfl ?_
    obtain ⟨u43, hu43, r44⟩ := X0 r39
    refine .storeV 0 0 (Q := Rep.bool) .ro rfl va18 rfl rfl o17 hu43 rfl (.inl ⟨rfl, rfl⟩) rfl ty4 p41 ((Rep.boolI true) :) rfl rfl (fun cs45 hlcs45 o46 va47 => ?_)
    refine .reval 5 hlcs45 rfl (.reval 26 hlcs45 rfl (.reval 30 hlcs45 rfl (.go 3 ?_)))
    refine .drawL (.q 0 (.q 1 (.q 5 (.q 6 (.q 7 (.q 8 (.q 10 (.e 2 1 (.e 3 1 (.q 4 (.q 9 (.q 11 .nil)))))))))))) [] (by kernel_rfl) (by kernel_rfl) (X1 [] rfl) (.go 4 ?_)
    obtain ⟨u49, hu49, r50⟩ := X0 r44
    obtain ⟨c51, p52, h53⟩ := SlR.get s2 hu49
    obtain rfl := h53
    refine .dq (.idxR s2 rfl rfl hu49 sl48 ty3.sz) rfl (.dq (.load_rp p52 mcs rfl ty3 rfl) rfl (.go 1 ?_))
    obtain ⟨u54, hu54, r55⟩ := X0 r50
    obtain ⟨e56, he57, hn58, ho59, p60⟩ := NL.get oo1 hu54
    refine .q .d1 (.idxO 1 rfl rfl rfl hu54 sl37 ty48.sz) rfl (.clsL (HpLe.refl _) (X1 [] rfl) (.q .d1 (.loadO 1 0 rfl hu54 p60 rfl (.inl ⟨rfl, rfl⟩) ty48 rfl) rfl (.clsL (HpLe.refl _) (X1 [] rfl) (.go 4 ?_))))
    refine .cH r55 (fun c61 r62 => ?_) (fun c61 r63 => ?_)
    ·refine .go 6 ?_
     obtain ⟨u65, hu65, r66⟩ := X0 r62
     obtain ⟨e67, he68, hn69, ho70, p71⟩ := NL.get oo1 hu65
     refine .q .ro (.idxO 1 rfl rfl rfl hu65 sl37 ty48.sz) rfl (.q .ro (.loadO 1 0 rfl hu65 p71 rfl (.inl ⟨rfl, rfl⟩) ty48 rfl) rfl (.go 1 ?_))
     refine .lit [_] [(0, _)] .ro sl48 ty3 rfl rfl rfl rfl rfl rfl (fun b72 hb72 => ?_)
     have o73 : OL ri G [.int .i64 x4] ([x4] : List Int) := ((OL.cons rfl (Rep.intI .i64 x4) (OL.nil (Rp' := ri))) :)
     refine .reval 52 (n' := ([x4] : List Int).length) rfl rfl ?_
     refine .freezeR 0 rfl rfl o73 [_, _, _] rfl B0 (fun G74 e75 B76 s77 => ?_)
     refine .takeN 2 rfl he68 hn69 ?_
     obtain ⟨u78, hu78, r79⟩ := X0 r66
     refine .appR (Q := ri) 0 .ro sl48 ty3 rfl rfl rfl rfl rfl (OL.mono e75 ho70) rfl rfl s77 rfl mcs hu78 rfl (fun a80 k81 cs82 o83 => ?_)
     obtain ⟨u84, hu84, r85⟩ := X0 r79
     obtain ⟨e86, he87, hn88, ho89, p90⟩ := NL.get (NL.mono e75 oo1) hu84
     refine .q .ro (.idxO 2 rfl rfl rfl hu84 sl37 ty48.sz) rfl ?_
     obtain ⟨u91, hu91, r92⟩ := X0 r85
     refine .storeN 1 2 (Q := ri) .ro rfl rfl rfl (NL.mono e75 oo1) he68 o83 hu91 rfl (.inl ⟨rfl, rfl⟩) rfl ty48 rfl (fun es93 cs94 hlcs94 o95 => ?_)
     refine .reval 1 hlcs94 rfl (.reval 45 hlcs94 rfl (.reval 47 hlcs94 rfl (.go 1 ?_)))
     refine .prune [] trivial (.go 4 ?_)
     cases r92
     refine .pullS 2 rfl [_, _, _] rfl (.pullS 2 rfl [_, _, _] rfl ?_)
     refine .rS [.tmp 12] [_] Tryz.func125 Tryz.results125 (.inr ⟨rfl, ⟨es93, cs94, cs45, rfl, rfl, rfl, (NL.flat (Rep.flat_int _) o95), hlcs94, (OL.flat Rep.flat_bool (OL.mono e75 o46)), (hlcs45.trans hl20)⟩⟩)
    ·refine .go 5 ?_
     obtain ⟨u96, hu96, r97⟩ := X0 r63
     obtain ⟨e98, he99, hn100, ho101, p102⟩ := NL.get oo1 hu96
     refine .q .ro (.idxO 1 rfl rfl rfl hu96 sl37 ty48.sz) rfl (.q .ro (.loadO 1 0 rfl hu96 p102 rfl (.inl ⟨rfl, rfl⟩) ty48 rfl) rfl (.go 3 ?_))
     refine .block ?_
     refine .lp (fun y m => ∃ (Z0 : Nat) (Z1 : List Int) (Z2 : List Bool) (Z3 : _), y = ⟨[(5, .slice a5 Z2.length k5), (60, .int .i64 (Z0 : Int))], [], [], [.g (viewG bb5 4 pre5 Z3 post5)]⟩ ∧ Z1.length = m ∧ OL Rep.bool G Z3 Z2 ∧ VA a5 bb5 Z2.length k5 pre5 Z3 ∧ Z2.length = x5.length ∧ List.drop Z0 u96 = Z1 ∧ X2c (X1n (Xb n) x0 x2 x3 x4 x1 xs24) (Xb n) x0 x2 x3 x4 x23 x1 Z1 Z0 Z2 = some r) [(22, _), (0, _), (1, _), (2, _), (3, _), (4, _), (20, _), (21, _), (14, _), (58, _), (59, _)] [] [_, _] ⟨0, u96, u43, cs45, rfl, rfl, o46, va47, (hlcs45.trans hl20), rfl, r97⟩ (fun y m hI hb103 => ?_)
     obtain ⟨i104, w105, v106, cs107, rfl, rfl, o108, va109, hl110, g111, r112⟩ := hI
     refine .gn 0 ?_
     cases w105 with
     | nil =>
      rw [X2c] at r112; try dsimp only at r112
      refine .go 5 ?_
      refine .cond_dec rfl (fun c => absurd c (X8 g111)) (fun _ => ?_)
      refine .exit rfl (.go 5 ?_)
      exact (hb12 _ _ ⟨(i13 + 1), xs24, v106, cs107, rfl, rfl, o108, va109, hl110, (X3 g21), r112⟩ (Nat.lt_succ_self _)).ax ⟨rfl, (congrArg (fun z => some (Value.int .i64 z)) (X7 (SlR.len s11) g21)), rfl, rfl, rfl, rfl, rfl, rfl, rfl, trivial⟩
     | cons x113 xs114 =>
      have r115 : X71 (X1n (Xb n) x0 x2 x3 x4 x1 xs24) (Xb n) x0 x2 x3 x4 x23 x1 (X2c (X1n (Xb n) x0 x2 x3 x4 x1 xs24) (Xb n) x0 x2 x3 x4 x23 x1 xs114 (i104 + 1)) x113 i104 v106 = some r := r112; clear r112; unfold X71 at r115; try dsimp only at r115
      refine .go 5 ?_
      refine .cond_dec rfl (fun _ => ?_) (fun c => absurd (Xf g111) c)
      refine .go 2 ?_
      refine .block (.go 3 ?_)
      obtain ⟨c116, p117, h118⟩ := OL.get ho101 (X2 g111)
      obtain rfl := h118
      refine .q .ro (.inN 2 rfl he99 hn100 (.idxO (l := u96) 0 rfl rfl rfl (X2 g111) sl48 ty3.sz)) rfl (.q .ro (.inN 2 rfl he99 hn100 (.loadO (l := u96) 0 0 rfl (X2 g111) p117 rfl (.inl ⟨rfl, rfl⟩) ty3 rfl)) rfl (.go 11 ?_))
      obtain ⟨u119, hu119, r120⟩ := X0 r115
      refine .pullS 2 rfl [_, _, _] rfl (.pullS 2 rfl [_, _, _] rfl ?_)
      refine .callS (b1 := []) (b2 := []) (s1 := [_, _, _]) [_, _, _, _, _, _] [] .ro rfl rfl Tryz.call125 rfl rfl (ih (G := G) mcs s0 oo1 s2 va109 o108 hu119) rfl (fun v121 bo so h122 => ?_)
      rcases h122 with ⟨hb123, h122⟩ | ⟨hb123, h122⟩
      ·have r124 := ifBF r120 hb123
       obtain ⟨cs126, rfl, rfl, rfl, o127, hl128⟩ := h122
       refine .gn 0 ?_
       have va129 := VA.call va109 o108 o127 hl128
       refine .reval 5 hl128 rfl (.reval 70 hl128 rfl (.go 1 ?_))
       refine .cond_false rfl (.go 6 ?_)
       refine .pullS 1 rfl [_, _, _] rfl (.pullS 1 rfl [_, _, _] rfl (.pullS 2 rfl [_, _, _] rfl ?_))
       exact (hb103 _ _ ⟨(i104 + 1), xs114, u119.2.2, cs126, rfl, rfl, o127, va129, (hl128.trans hl110), (X3 g111), r124⟩ (Nat.lt_succ_self _)).ax ⟨rfl, (congrArg (fun z => some (Value.int .i64 z)) (X7 (OL.len' ho101) g111)), rfl, rfl, rfl, rfl, rfl, rfl, rfl, rfl, rfl, rfl, rfl, trivial⟩
      ·have r130 := ifT r120 hb123
       obtain ⟨es131, cs132, cs133, rfl, rfl, rfl, o134, hl135, o136, hl137⟩ := h122
       refine .gn 0 ?_
       have va138 := VA.call va109 o108 o136 hl137
       refine .reval 1 hl135 rfl (.reval 66 hl135 rfl (.reval 5 hl137 rfl (.reval 70 hl137 rfl (.go 1 ?_))))
       refine .cond_true rfl (.go 4 ?_)
       obtain ⟨u139, hu139, r140⟩ := X0 r130
       obtain ⟨e141, he142, hn143, ho144, p145⟩ := NL.get o134 hu139
       refine .q .ro (.idxO 0 rfl rfl rfl hu139 sl37 ty48.sz) rfl (.q .ro (.loadO 0 0 rfl hu139 p145 rfl (.inl ⟨rfl, rfl⟩) ty48 rfl) rfl (.go 2 ?_))
       obtain ⟨u146, hu146, r147⟩ := X0 r140
       obtain ⟨c148, p149, h150⟩ := OL.get ho144 hu146
       obtain rfl := h150
       refine .q .ro (.inN 1 rfl he142 hn143 (.idxO (l := u139) 0 rfl rfl rfl hu146 sl48 ty3.sz)) rfl (.takeN 1 rfl he142 hn143 ?_)
       obtain ⟨u151, hu151, r152⟩ := X0 r147
       refine .storeR 0 0 (Q := ri) .ro rfl rfl ho144 hu151 rfl (.inl ⟨rfl, rfl⟩) rfl ty3 p149 ((Rep.intI .i64 x4) :) rfl rfl (fun cs153 hlcs153 o154 => ?_)
       obtain ⟨u155, hu155, r156⟩ := X0 r152
       refine .backN 0 1 rfl rfl rfl o134 he142 (Eq.trans hlcs153 hn143.symm) o154 hu155 (fun es157 hles157 o158 hmes157 => ?_)
       refine .reval 1 hles157 rfl (.reval 66 hles157 rfl (.reval 72 hles157 rfl (.go 1 ?_)))
       refine .prune [] trivial (.go 4 ?_)
       cases r156
       refine .rS [.tmp 12] [_] Tryz.func125 Tryz.results125 (.inr ⟨rfl, ⟨es157, cs132, cs133, rfl, rfl, rfl, o158, (hles157.trans hl135), o136, (hl137.trans hl110)⟩⟩)
theorem Xfd {x0 : List (List Int)} {x1 : List (List Int)} {x2 : List Int} {x3 : Int} {x4 : Int} {x5 : List Bool} {pre5 post5 : List Value} {r : (Bool × (List (List Int)) × (List Bool))} (hG : G ∈ Fs) (s0 : SlR (Rep.sl ri) G a0 k0 x0) (oo1 : NL ri G ee1 cc1 x1) (s2 : SlR ri G a2 k2 x2) (vva5 : VA a5 bb5 x5.length k5 pre5 cc5) (oo5 : OL Rep.bool G cc5 x5) (h : X9l x0 x1 x2 x3 x4 x5 = some r) : RetS Tryz.prog 125 #[.slice a0 x0.length k0, .slice a1 x1.length k1, .slice a2 x2.length k2, .int .i64 x3, .int .i64 x4, .slice a5 x5.length k5] Fs [] [.s (.slice a1 x1.length k1) 48 1 x1.length cc1, .g (packG 3 1 ee1), .g (viewG bb5 4 pre5 cc5 post5)] (fun v bo so => (r.1 = false ∧ ∃ lc0 : List Value, v = .bool false ∧ bo = [] ∧ so = [.s (.slice a1 x1.length k1) 48 1 x1.length cc1, .g (packG 3 1 ee1), .g (viewG bb5 4 pre5 lc0 post5)] ∧ OL Rep.bool G lc0 r.2.2 ∧ r.2.2.length = x5.length) ∨ (r.1 = true ∧ ∃ le0 : List NE, ∃ lc0 : List Value, ∃ lc1 : List Value, v = .bool true ∧ bo = [] ∧ so = [.s (.slice a1 r.2.1.length k1) 48 1 r.2.1.length lc0, .g (packG 3 1 le0), .g (viewG bb5 4 pre5 lc1 post5)] ∧ NL ri G le0 lc0 r.2.1 ∧ r.2.1.length = x1.length ∧ OL Rep.bool G lc1 r.2.2 ∧ r.2.2.length = x5.length)) := by
 unfold X9l at h
 exact Xdp big hG s0 oo1 s2 vva5 oo5 h
theorem Xb4 {x0 : List (List Int)} {x1 : Int} {x2 : Int} {x3 : List Int} {r : Bool} (hG : G ∈ Fs) (s0 : SlR (Rep.sl ri) G a0 k0 x0) (s3 : SlR ri G a3 k3 x3) (h : X3g x0 x1 x2 x3 = some r) : RetS Tryz.prog 95 #[.slice a0 x0.length k0, .int .i64 x1, .int .i64 x2, .slice a3 x3.length k3] Fs [] [] (rv (.bool r)) := by
 unfold X3g at h
 try dsimp only at h
 refine RetS.st [(0, _), (1, _), (2, _), (3, _)] Tryz.func95 Tryz.ntmps95 hG fun w0 S0 hS0 B0 => ?_
 refine .go 7 ?_
 obtain ⟨u1, hu1, r2⟩ := X0 h
 refine .makeN (G := G) (Q := ri) 3 1 .ro sl37 ty48 rfl rfl hu1 rfl rfl (fun b3 es4 cs5 hb3 o6 => ?_)
 refine .go 9 ?_
 refine .block (.pullS 1 rfl [_, _] rfl (.pullS 1 rfl [_, _] rfl ?_))
 refine .lp (fun y m => ∃ (Z0 : Nat) (Z1 Z2 : List (List Int)) (Z3 Z4 : _), y = ⟨[(9, .slice (some ⟨b3, 0, none⟩) Z2.length u1.length), (16, .int .i64 (Z0 : Int))], [], [], [.s (.slice (some ⟨b3, 0, none⟩) Z2.length u1.length) 48 1 Z2.length Z4, .g (packG 3 1 Z3)]⟩ ∧ Z1.length = m ∧ NL ri G Z3 Z4 Z2 ∧ Z2.length = u1.length ∧ List.drop Z0 x0 = Z1 ∧ X1q x0 x1 x2 x3 Z1 Z0 Z2 = some r) [(0, _), (1, _), (2, _), (3, _), (15, _)] [] [] ⟨0, x0, u1, es4, cs5, rfl, rfl, o6, rfl, rfl, r2⟩ (fun y m hI hb56 => ?_)
 obtain ⟨i45, w46, v48, es49, cs50, rfl, rfl, o51, hl52, g47, r55⟩ := hI
 refine .gn 0 ?_
 cases w46 with
 | nil =>
  rw [X1q] at r55; try dsimp only at r55
  refine .go 5 ?_
  refine .cond_dec rfl (fun c => absurd c (X8 g47)) (fun _ => ?_)
  refine .exit rfl (.go 4 ?_)
  cases r55
  refine .drop 0 2 _ [] rfl rfl ?_
  refine .rS [.tmp 8] [_] Tryz.func95 Tryz.results95 ⟨rfl, rfl, rfl⟩
 | cons x63 xs64 =>
  have r62 : X4w x0 x1 x2 x3 (X1q x0 x1 x2 x3 xs64 (i45 + 1)) x63 i45 v48 = some r := r55; clear r55; unfold X4w at r62; try dsimp only at r62
  refine .go 5 ?_
  refine .cond_dec rfl (fun _ => ?_) (fun c => absurd (Xf g47) c)
  refine .go 2 ?_
  refine .block (.go 8 ?_)
  obtain ⟨u65, hu65, r66⟩ := X0 r62
  refine .makeR (G := G) (Q := Rep.bool) .ro sl186 ty4 rfl rfl rfl ((Rep.boolI false) :) rfl rfl hu65 rfl rfl (fun b67 cs68 hb67 o69 => ?_)
  refine .go 10 ?_
  refine .toV 0 rfl (fun vb71 po72 va73 vb74 => ?_)
  obtain ⟨u75, hu75, r76⟩ := X0 r66
  refine .pullS 2 rfl [_, _, _] rfl (.pullS 2 rfl [_, _, _] rfl ?_)
  refine .callS (b1 := []) (b2 := []) (s1 := [_, _, _]) [_, _, _, _, _, _] [] .ro rfl rfl Tryz.call125 rfl rfl (Xfd mcs s0 o51 s3 va73 o69 hu75) rfl (fun v78 bo so h77 => ?_)
  rcases h77 with ⟨hb79, h77⟩ | ⟨hb79, h77⟩
  ·have r80 := ifBF r76 hb79
   obtain ⟨cs81, rfl, rfl, rfl, o82, hl83⟩ := h77
   refine .gn 0 ?_
   refine .ofV 2 rfl vb74 hl83 o82 rfl (.reval 20 hl83 rfl (.reval 11 hl83 rfl (.reval 26 hl83 rfl (.q .ro (.not_f rfl) rfl (.go 1 ?_)))))
   refine .cond_true rfl (.go 4 ?_)
   cases r80
   refine .drop 0 3 _ [] rfl rfl ?_
   refine .rS [.tmp 8] [_] Tryz.func95 Tryz.results95 ⟨rfl, rfl, rfl⟩
  ·have r85 := ifT r76 hb79
   obtain ⟨es89, cs86, cs90, rfl, rfl, rfl, o87, hl88, o91, hl92⟩ := h77
   refine .gn 0 ?_
   refine .ofV 2 rfl vb74 hl92 o91 rfl (.reval 9 hl88 rfl (.reval 22 hl88 rfl (.reval 20 hl92 rfl (.reval 11 hl92 rfl (.reval 26 hl92 rfl (.q .ro (.not_t rfl) rfl (.go 1 ?_)))))))
   refine .cond_false rfl (.go 6 ?_)
   refine .pullS 1 rfl [_, _, _] rfl (.pullS 1 rfl [_, _, _] rfl (.pullS 2 rfl [_, _, _] rfl (.drop 0 1 _ [_, _] rfl rfl ?_)))
   exact (hb56 _ _ ⟨(i45 + 1), xs64, u75.2.1, es89, cs86, rfl, rfl, o87, (hl88.trans hl52), (X3 g47), r85⟩ (Nat.lt_succ_self _)).ax ⟨rfl, (congrArg (fun z => some (Value.int .i64 z)) (X7 (SlR.len s0) g47)), rfl, rfl, rfl, rfl, rfl, trivial⟩
theorem Xfe {x0 : List (List Int)} {x1 : Int} {x2 : Int} {r : ((List Int) × Bool)} (hG : G ∈ Fs) (s0 : SlR (Rep.sl ri) G a0 k0 x0) (h : X6c x0 x1 x2 = some r) : RetS Tryz.prog 52 #[.slice a0 x0.length k0, .int .i64 x1, .int .i64 x2] Fs [] [] (fun v bo so => ∃ (oa0 : Option Addr) (ok0 : Nat) (oc0 : List Value), v = .tuple #[.slice oa0 r.1.length ok0, .bool r.2] ∧ bo = [] ∧ so = [.s (.slice oa0 r.1.length ok0) 3 1 r.1.length oc0] ∧ OL ri G oc0 r.1) := by
 unfold X6c at h
 try dsimp only at h
 refine RetS.st [(0, _), (1, _), (2, _)] Tryz.func52 Tryz.ntmps52 hG fun w0 S0 hS0 B0 => ?_
 refine .go 8 ?_
 obtain ⟨u1, hu1, r2⟩ := X0 h
 refine .makeR (G := G) (Q := ri) .ro sl48 ty3 rfl rfl rfl ((Rep.intI .i64 0) :) rfl rfl hu1 rfl rfl (fun b3 cs4 hb3 o5 => ?_)
 refine .go 9 ?_
 obtain ⟨u7, hu7, r8⟩ := X0 r2
 refine .callB (Q := fun v bo so => v = .bool u7 ∧ bo = [] ∧ so = []) (b1 := []) (b2 := []) (s1 := []) (sB := [_]) (s2 := []) [_, _, _, _] [] .ro rfl rfl Tryz.call95 rfl rfl (fun Fs' G' hle hB hm => (Xb4 (G := G') hm (SlR.mono hle s0) (SlR.rd o5 rfl hle (hB _ (List.mem_of_getElem? (i := 0) rfl))) hu7)) rfl (fun v10 bo so h9 => ?_)
 obtain ⟨rfl, rfl, rfl⟩ := h9
 refine .gn 2 ?_
 refine .cB r8 (fun c11 r12 => ?_) (fun c11 r14 => ?_)
 ·refine .go 5 ?_
  refine .own_nil 3 1 ?_
  cases r12
  refine .pullS 1 rfl [_, _] rfl (.drop 0 1 _ [_] rfl rfl ?_)
  refine .rS [.tmp 6, .tmp 7] [_, _] Tryz.func52 Tryz.results52 ⟨none, 0, [], rfl, rfl, rfl, (OL.nil (Rp' := ri))⟩
 ·refine .go 12 ?_
  refine .block (.own_nil 3 1 (.pullS 1 rfl [_, _] rfl (.pullS 1 rfl [_, _] rfl ?_)))
  refine .lp (fun y m => ∃ (Z0 : Nat) (Z1 : List (List Int)) (Z2 : List Int) (Z3 : _) (Z4 : Nat) (Z5 : _) (Z6 : List Int) (Z7 : _) (Z8 : Nat) (Z9 : _), y = ⟨[(9, .slice Z3 Z2.length Z4), (8, .slice Z7 Z6.length Z8), (24, .int .i64 (Z0 : Int))], [], [], [.s (.slice Z3 Z2.length Z4) 3 1 Z2.length Z5, .s (.slice Z7 Z6.length Z8) 3 1 Z6.length Z9]⟩ ∧ Z1.length = m ∧ OL ri G Z5 Z2 ∧ OL ri G Z9 Z6 ∧ List.drop Z0 x0 = Z1 ∧ X14 x0 x1 x2 Z1 Z0 Z2 Z6 = some r) [(0, _), (1, _), (2, _), (22, _), (23, _)] [] [] ⟨0, x0, ([] : List Int), none, 0, [], u1, (some ⟨b3, 0, none⟩), u1.length, cs4, rfl, rfl, (OL.nil (Rp' := ri)), o5, rfl, r14⟩ (fun y m hI hb13 => ?_)
  obtain ⟨i15, w16, v17, a18, k20, cs21, v22, a23, k24, cs25, rfl, rfl, o26, o27, g28, r29⟩ := hI
  refine .gn 0 ?_
  cases w16 with
  | nil =>
   rw [X14] at r29; try dsimp only at r29
   refine .go 5 ?_
   refine .cond_dec rfl (fun c => absurd c (X8 g28)) (fun _ => ?_)
   refine .exit rfl (.go 6 ?_)
   cases r29
   refine .pullS 1 rfl [_, _] rfl (.drop 0 1 _ [_] rfl rfl ?_)
   refine .rS [.tmp 6, .tmp 7] [_, _] Tryz.func52 Tryz.results52 ⟨a18, k20, cs21, rfl, rfl, rfl, o26⟩
  | cons x30 xs31 =>
   have r32 : X73 x0 x1 x2 (X14 x0 x1 x2 xs31 (i15 + 1)) x30 i15 v17 v22 = some r := r29; clear r29; unfold X73 at r32; try dsimp only at r32
   refine .go 5 ?_
   refine .cond_dec rfl (fun _ => ?_) (fun c => absurd (Xf g28) c)
   refine .go 2 ?_
   refine .block (.go 3 ?_)
   obtain ⟨c33, p34, h35⟩ := SlR.get s0 (X2 g28)
   obtain ⟨a36, k38, rfl, s39⟩ := h35
   refine .q .ro (.idxR s0 rfl rfl (X2 g28) sl37 ty48.sz) rfl (.q .ro (.load_rp p34 mcs rfl ty48 rfl) rfl (.go 9 ?_))
   refine .block (.pullS 1 rfl [_, _] rfl ?_)
   refine .lp (fun y m => ∃ (Z0 : Nat) (Z1 Z2 : List Int) (Z3 : _) (Z4 : Nat) (Z5 : _), y = ⟨[(8, .slice Z3 Z2.length Z4), (31, .int .i64 (Z0 : Int))], [], [], [.s (.slice Z3 Z2.length Z4) 3 1 Z2.length Z5]⟩ ∧ Z1.length = m ∧ OL ri G Z5 Z2 ∧ List.drop Z0 x30 = Z1 ∧ Xx (X14 x0 x1 x2 xs31 (i15 + 1)) (i15 : Int) x0 x1 x2 v17 Z1 Z2 = some r) [(9, _), (24, _), (0, _), (1, _), (2, _), (22, _), (23, _), (10, _), (29, _), (30, _)] [] [_] ⟨0, x30, v22, a23, k24, cs25, rfl, rfl, o27, rfl, r32⟩ (fun y m hI hb40 => ?_)
   obtain ⟨i41, w42, v43, a44, k45, cs46, rfl, rfl, o47, g49, r50⟩ := hI
   refine .gn 0 ?_
   cases w42 with
   | nil =>
    rw [Xx] at r50; try dsimp only at r50
    refine .go 5 ?_
    refine .cond_dec rfl (fun c => absurd c (X8 g49)) (fun _ => ?_)
    refine .exit rfl (.go 5 ?_)
    refine .pullS 1 rfl [_, _] rfl ?_
    exact (hb13 _ _ ⟨(i15 + 1), xs31, v17, a18, k20, cs21, v43, a44, k45, cs46, rfl, rfl, o26, o47, (X3 g28), r50⟩ (Nat.lt_succ_self _)).ax ⟨rfl, rfl, (congrArg (fun z => some (Value.int .i64 z)) (X7 (SlR.len s0) g28)), rfl, rfl, rfl, rfl, rfl, trivial⟩
   | cons x51 xs53 =>
    have r54 : X5u (X14 x0 x1 x2 xs31 (i15 + 1)) (i15 : Int) x0 x1 x2 v17 (Xx (X14 x0 x1 x2 xs31 (i15 + 1)) (i15 : Int) x0 x1 x2 v17 xs53) x51 v43 = some r := r50; clear r50; unfold X5u at r54; try dsimp only at r54
    refine .go 5 ?_
    refine .cond_dec rfl (fun _ => ?_) (fun c => absurd (Xf g49) c)
    refine .go 2 ?_
    refine .block (.go 2 ?_)
    obtain ⟨c55, p56, h57⟩ := SlR.get s39 (X2 g49)
    obtain rfl := h57
    refine .q .ro (.idxR s39 rfl rfl (X2 g49) sl48 ty3.sz) rfl (.q .ro (.load_rp p56 mcs rfl ty3 rfl) rfl (.go 7 ?_))
    obtain ⟨u58, hu58, r59⟩ := X0 r54
    obtain ⟨c60, p61, h62⟩ := OL.get o47 hu58
    obtain rfl := h62
    refine .q .ro (.idxO 0 rfl rfl rfl hu58 sl48 ty3.sz) rfl (.q .ro (.loadO 0 0 rfl hu58 p61 rfl (.inl ⟨rfl, rfl⟩) ty3 rfl) rfl (.go 3 ?_))
    refine .cH r59 (fun c63 r65 => ?_) (fun c63 r66 => ?_)
    ·refine .exit rfl ?_
     refine .go 4 ?_
     exact (hb40 _ _ ⟨(i41 + 1), xs53, v43, a44, k45, cs46, rfl, rfl, o47, (X3 g49), r65⟩ (Nat.lt_succ_self _)).ax ⟨rfl, (congrArg (fun z => some (Value.int .i64 z)) (X7 (SlR.len s39) g49)), rfl, rfl, rfl, rfl, rfl, rfl, rfl, rfl, rfl, rfl, trivial⟩
    ·refine .go 5 ?_
     obtain ⟨u67, hu67, r68⟩ := X0 r66
     obtain ⟨c69, p70, h71⟩ := OL.get o47 hu67
     obtain rfl := h71
     refine .q .ro (.idxO 0 rfl rfl rfl hu67 sl48 ty3.sz) rfl (.q .ro (.loadO 0 0 rfl hu67 p70 rfl (.inl ⟨rfl, rfl⟩) ty3 rfl) rfl (.go 1 ?_))
     obtain ⟨u72, hu72, r73⟩ := X0 r68
     obtain ⟨c74, p75, h76⟩ := OL.get o47 hu72
     obtain rfl := h76
     refine .q .ro (.idxO 0 rfl rfl rfl hu72 sl48 ty3.sz) rfl ?_
     obtain ⟨u77, hu77, r78⟩ := X0 r73
     refine .storeR 0 0 (Q := ri) .ro rfl rfl o47 hu77 rfl (.inl ⟨rfl, rfl⟩) rfl ty3 p75 ((Rep.intI .i64 (w64 (u67 + 1))) :) rfl rfl (fun cs79 hlcs79 o80 => ?_)
     refine .reval 8 hlcs79 rfl (.reval 35 hlcs79 rfl (.reval 41 hlcs79 rfl (.go 7 ?_)))
     obtain ⟨u81, hu81, r82⟩ := X0 r78
     obtain ⟨a83, k84, h85, s86⟩ := SlR.sub s0 hu81
     refine .q .ro (.sliceR s0 rfl hu81 sl37 ty48.sz (fun h => .yes' rfl h) (fun _ => .no) h85) rfl (.go 3 ?_)
     obtain ⟨u87, hu87, r88⟩ := X0 r82
     refine .callB (Q := fun v bo so => v = .bool u87 ∧ bo = [] ∧ so = []) (b1 := []) (b2 := []) (s1 := []) (sB := [_]) (s2 := [_]) [_, _, _, _] [] .ro rfl rfl Tryz.call95 rfl rfl (fun Fs' G' hle hB hm => (Xb4 (G := G') hm (SlR.mono hle s86) (SlR.rd o80 rfl hle (hB _ (List.mem_of_getElem? (i := 0) rfl))) hu87)) rfl (fun v89 bo so h90 => ?_)
     obtain ⟨rfl, rfl, rfl⟩ := h90
     refine .gn 1 ?_
     refine .cB r88 (fun c91 r92 => ?_) (fun c91 r93 => ?_)
     ·refine .go 4 ?_
      refine .lit [_] [(0, _)] .ro sl48 ty3 rfl rfl rfl rfl rfl rfl (fun b94 hb94 => ?_)
      have o96 : OL ri G [.int .i64 x51] ([x51] : List Int) := ((OL.cons rfl (Rep.intI .i64 x51) (OL.nil (Rp' := ri))) :)
      refine .reval 57 (n' := ([x51] : List Int).length) rfl rfl ?_
      obtain ⟨u97, hu97, r98⟩ := X0 r92
      refine .appO (Q := ri) 1 .ro sl48 ty3 rfl rfl rfl rfl rfl rfl o26 o96 rfl rfl rfl B0 hu97 rfl (fun a99 k100 cs101 o102 => ?_)
      refine .go 2 ?_
      refine .exit rfl (.go 5 ?_)
      refine .pullS 1 rfl [_, _] rfl ?_
      exact (hb13 _ _ ⟨(i15 + 1), xs31, u97, a99, k100, cs101, u77, a44, k45, cs79, rfl, rfl, o102, o80, (X3 g28), r98⟩ (Nat.lt_succ_self _)).ax ⟨rfl, rfl, (congrArg (fun z => some (Value.int .i64 z)) (X7 (SlR.len s0) g28)), rfl, rfl, rfl, rfl, rfl, trivial⟩
     ·refine .go 4 ?_
      obtain ⟨u103, hu103, r104⟩ := X0 r93
      obtain ⟨c105, p106, h107⟩ := OL.get o80 hu103
      obtain rfl := h107
      refine .q .ro (.idxO 0 rfl rfl rfl hu103 sl48 ty3.sz) rfl (.q .ro (.loadO 0 0 rfl hu103 p106 rfl (.inl ⟨rfl, rfl⟩) ty3 rfl) rfl (.go 1 ?_))
      obtain ⟨u108, hu108, r109⟩ := X0 r104
      obtain ⟨c110, p111, h112⟩ := OL.get o80 hu108
      obtain rfl := h112
      refine .q .ro (.idxO 0 rfl rfl rfl hu108 sl48 ty3.sz) rfl ?_
      obtain ⟨u113, hu113, r114⟩ := X0 r109
      refine .storeR 0 0 (Q := ri) .ro rfl rfl o80 hu113 rfl (.inl ⟨rfl, rfl⟩) rfl ty3 p111 ((Rep.intI .i64 (w64 (u103 - 1))) :) rfl rfl (fun cs115 hlcs115 o116 => ?_)
      refine .reval 8 hlcs115 rfl (.reval 53 hlcs115 rfl (.reval 59 hlcs115 rfl (.go 6 ?_)))
      exact (hb40 _ _ ⟨(i41 + 1), xs53, u113, a44, k45, cs115, rfl, rfl, o116, (X3 g49), r114⟩ (Nat.lt_succ_self _)).ax ⟨rfl, (congrArg (fun z => some (Value.int .i64 z)) (X7 (SlR.len s39) g49)), rfl, rfl, rfl, rfl, rfl, rfl, rfl, rfl, rfl, rfl, trivial⟩
theorem X99 {x0_0 : Int} {x0_1 : List (Int × Int)} {x1 : Int} {x2 : List (ByteArray × Int)} {r : (((Int × (List (Int × Int))) × Int × (List (List (ByteArray × Int)))) × Int)} (hG : G ∈ Fs) (s0_1 : SlR (Rep.pair ri ri) G a0_1 k0_1 x0_1) (s2 : SlR (Rep.pair Rep.str ri) G a2 k2 x2) (h : X3v (x0_0, x0_1) x1 x2 = some r) : RetW Tryz.prog 19 #[.agg #[.int .i64 x0_0, .slice a0_1 x0_1.length k0_1], .int .i64 x1, .slice a2 x2.length k2] Fs [] [] (fun v bo so G => ∃ a0 : Option Addr, ∃ k0 : Nat, ∃ a1 : Option Addr, ∃ k1 : Nat, v = .tuple #[.agg #[.int .i64 r.1.1.1, .slice a0 r.1.1.2.length k0, .int .i64 r.1.2.1, .slice a1 r.1.2.2.length k1], .int .i64 r.2] ∧ bo = [] ∧ so = [] ∧ SlR (Rep.pair ri ri) G a0 k0 r.1.1.2 ∧ SlR (Rep.sl (Rep.pair Rep.str ri)) G a1 k1 r.1.2.2) := by
 unfold X3v at h
 try dsimp only at h
 refine RetW.st [(0, _), (1, _), (2, _)] Tryz.func19 Tryz.ntmps19 hG fun w0 S0 hS0 B0 => ?_
 refine .go 2 ?_
 refine .box [_, _] .ro rfl rfl rfl (fun b1 hb1 => ?_)
 refine .alloc .ro ty31 rfl (fun b2 hb2 => ?_)
 refine .go 5 ?_
 refine .q .ro (.load_own_a 1 [_, _] rfl rfl ty28 rfl) rfl ?_
 obtain ⟨u3, hu3, r4⟩ := X0 h
 refine .cV [_] Tryz.call49 (X98 mcs s0_1 hu3) ?_
 refine .go 2 ?_
 refine .cH r4 (fun c7 r8 => ?_) (fun c7 r9 => ?_)
 ·refine .go 2 ?_
  refine .q .ro (.build [_, _, _, _] [] ty31 pl31 rfl rfl) rfl (.store 0 [_, _, _, _] [_, _] .ro rfl rfl rfl ty31 rfl rfl rfl rfl (.go 2 ?_))
  cases r8
  refine .rW 2 [.cell 6 31, .tmp 7] [_, _] Tryz.func19 Tryz.results19 ⟨RV.cell_a 0 [_, _, _, _] rfl rfl ty31 rfl, RV.tmp rfl, trivial⟩ B0 hS0 (fun G' hg => ⟨none, 0, none, 0, rfl, rfl, rfl, (SlR.mono hg (SlR.nil (Rp' := (Rep.pair ri ri)))), (SlR.mono hg (SlR.nil (Rp' := (Rep.sl (Rep.pair Rep.str ri)))))⟩)
 ·refine .go 7 ?_
  refine .kR (fun y => y = ⟨[(33, .bool (decide ((x1 < 1) ∨ (8 < x1))))], G :: Fs, [], []⟩) [(1, _), (2, _), (3, _), (6, _)] [_, _] [0, 1] [] [] 3 ?_ ?_
  ·rintro _ rfl
   refine .gn 1 ?_
   refine .cH r9 (fun c14 r15 => ?_) (fun c14 r16 => ?_)
   ·refine .go 2 ?_
    refine .q .ro (.build [_, _, _, _] [] ty31 pl31 rfl rfl) rfl (.store 0 [_, _, _, _] [_, _] .ro rfl rfl rfl ty31 rfl rfl rfl rfl (.go 2 ?_))
    cases r15
    refine .rW 2 [.cell 6 31, .tmp 7] [_, _] Tryz.func19 Tryz.results19 ⟨RV.cell_a 0 [_, _, _, _] rfl rfl ty31 rfl, RV.tmp rfl, trivial⟩ B0 hS0 (fun G' hg => ⟨none, 0, none, 0, rfl, rfl, rfl, (SlR.mono hg (SlR.nil (Rp' := (Rep.pair ri ri)))), (SlR.mono hg (SlR.nil (Rp' := (Rep.sl (Rep.pair Rep.str ri)))))⟩)
   ·refine .go 8 ?_
    refine .cH r16 (fun c17 r18 => ?_) (fun c17 r19 => ?_)
    ·refine .go 2 ?_
     refine .q .ro (.build [_, _, _, _] [] ty31 pl31 rfl rfl) rfl (.store 0 [_, _, _, _] [_, _] .ro rfl rfl rfl ty31 rfl rfl rfl rfl (.go 2 ?_))
     cases r18
     refine .rW 2 [.cell 6 31, .tmp 7] [_, _] Tryz.func19 Tryz.results19 ⟨RV.cell_a 0 [_, _, _, _] rfl rfl ty31 rfl, RV.tmp rfl, trivial⟩ B0 hS0 (fun G' hg => ⟨none, 0, none, 0, rfl, rfl, rfl, (SlR.mono hg (SlR.nil (Rp' := (Rep.pair ri ri)))), (SlR.mono hg (SlR.nil (Rp' := (Rep.sl (Rep.pair Rep.str ri)))))⟩)
    ·refine .go 12 ?_
     refine .kB (fun y => ∃ (Z0 : List (ByteArray × Int)) (Z1 : _) (Z2 : Nat) (Z3 Z4 Z5 Z6 : _), y = ⟨[(8, .slice Z1 Z0.length Z2)], G :: Fs, [(b2, .cells #[.int .i64 Z4, .slice none 0 0, .int .i64 Z5, .slice none 0 0] 31 (0, 0)), (b1, .cells #[.int .i64 Z6, .slice a0_1 x0_1.length k0_1] 28 (0, 0))], [.s (.slice Z1 Z0.length Z2) 69 2 Z0.length Z3]⟩ ∧ OL (Rep.pair Rep.str ri) G Z3 Z0 ∧ (Xc x1 x0_1) Z0 Z4 Z5 Z6 = some r) [(1, _), (3, _), (6, _)] [] [] [] [] ?_ ?_
     ·rintro _ ⟨v13, a21, k22, cs23, v24, v25, v27, rfl, o30, r33⟩
      refine .gn 0 ?_
      unfold Xc at r33
      try dsimp only at r33
      refine .go 11 ?_
      refine .kB (fun y => ∃ (Z0 : List (List Int)) (Z1 : _) (Z2 : Nat) (Z3 Z4 Z5 Z6 Z7 : _), y = ⟨[(14, .slice Z1 Z0.length Z2)], G :: Fs, [(b2, .cells #[.int .i64 Z5, .slice none 0 0, .int .i64 Z6, .slice none 0 0] 31 (0, 0)), (b1, .cells #[.int .i64 Z7, .slice a0_1 x0_1.length k0_1] 28 (0, 0))], [.s (.slice Z1 Z0.length Z2) 48 1 Z0.length Z4, .g (packG 3 1 Z3)]⟩ ∧ NL ri G Z3 Z4 Z0 ∧ (X3i x1 x0_1 v13) Z0 Z5 Z6 Z7 = some r) [(8, _), (1, _), (3, _), (6, _)] [] [] [_] [0] ?_ ?_
      ·rintro _ ⟨v34, a35, k36, es38, cs39, v40, v41, v42, rfl, o43, r44⟩
       refine .gn 0 ?_
       unfold X3i at r44
       try dsimp only at r44
       refine .go 6 ?_
       obtain ⟨u45, hu45, r46⟩ := X0 r44
       refine .pullS 1 rfl [_, _, _] rfl (.pullS 1 rfl [_, _, _] rfl ?_)
       refine .callB (Q := fun v bo so => ∃ (oa0 : Option Addr) (ok0 : Nat) (oc0 : List Value), v = .tuple #[.slice oa0 u45.1.length ok0, .bool u45.2] ∧ bo = [] ∧ so = [.s (.slice oa0 u45.1.length ok0) 3 1 u45.1.length oc0] ∧ OL ri G oc0 u45.1) (b1 := []) (b2 := [_, _]) (s1 := []) (sB := [_, _]) (s2 := [_]) [_, _, _] [] .ro rfl rfl Tryz.call52 rfl rfl (fun Fs' G' hle hB hm => RetG.mono (Xfe (G := G') hm (SlR.rdN o43 rfl hle (hB _ (List.mem_of_getElem? (i := 0) rfl)) (hB _ (List.mem_of_getElem? (i := 1) rfl))) hu45) (fun v _ bo so h => by obtain ⟨q0a, q0k, q0c, e1, e2, e3, f0⟩ := h; exact ⟨q0a, q0k, q0c, e1, e2, e3, OL.flat (Rep.flat_int _) f0⟩)) rfl (fun v47 bo so h53 => ?_)
       obtain ⟨a54, k55, cs56, rfl, rfl, rfl, o57⟩ := h53
       refine .gn 12 ?_
       refine .cB r46 (fun c58 r59 => ?_) (fun c58 r60 => ?_)
       ·refine .go 2 ?_
        refine .q .ro (.build [_, _, _, _] [] ty31 pl31 rfl rfl) rfl (.store 0 [_, _, _, _] [_, _] .ro rfl rfl rfl ty31 rfl rfl rfl rfl (.go 2 ?_))
        cases r59
        refine .drop 0 4 _ [] rfl rfl ?_
        refine .rW 2 [.cell 6 31, .tmp 7] [_, _] Tryz.func19 Tryz.results19 ⟨RV.cell_a 0 [_, _, _, _] rfl rfl ty31 rfl, RV.tmp rfl, trivial⟩ B0 hS0 (fun G' hg => ⟨none, 0, none, 0, rfl, rfl, rfl, (SlR.mono hg (SlR.nil (Rp' := (Rep.pair ri ri)))), (SlR.mono hg (SlR.nil (Rp' := (Rep.sl (Rep.pair Rep.str ri)))))⟩)
       ·refine .go 2 ?_
        refine .kG (fun y => ∃ (Z0 : Nat) (Z1 : _) (Z2 : List (Int × Int)) (Z3 : _) (Z4 : Nat) (Z5 Z6 : _) (Z7 : List (List (ByteArray × Int))) (Z8 : _) (Z9 : Nat) (Z10 Z11 : _), y = ⟨[(21, .pointer (some ⟨Z0, 0, none⟩))], G :: Fs, [(Z0, .cells #[.int .i64 Z1, .slice Z3 Z2.length Z4, .int .i64 Z6, .slice Z8 Z7.length Z9] 31 (0, 0))], [.s (.slice Z3 Z2.length Z4) 89 2 Z2.length Z5, .s (.slice Z8 Z7.length Z9) 32 1 Z7.length Z11, .g (packG 69 2 Z10)]⟩ ∧ OL (Rep.pair ri ri) G Z5 Z2 ∧ NL (Rep.pair Rep.str ri) G Z10 Z11 Z7 ∧ (X74 v40 v41 v42 u45.1 v13) Z1 Z2 Z6 Z7 = some r) [(8, _), (6, _), (19, _)] [_, _] [0, 1] [_, _, _, _] [0, 1, 2, 3] ?_ ?_
        ·rintro _ ⟨b61, v62, v63, a65, k66, cs67, v68, v70, a71, k72, es73, cs74, rfl, o75, o76, r77⟩
         refine .gn 0 ?_
         unfold X74 at r77
         try dsimp only at r77
         refine .go 7 ?_
         refine .kB (fun y => ∃ (Z0 Z1 Z2 : _) (Z3 : List (List (ByteArray × Int))) (Z4 Z5 Z6 Z7 Z8 : _), y = ⟨[], Z0 :: Fs, [(b61, .cells #[.int .i64 Z1, .slice a65 v63.length k66, .int .i64 Z2, .slice a71 Z3.length k72] 31 (0, 0)), (b2, .cells #[.int .i64 Z6, .slice none 0 0, .int .i64 Z7, .slice none 0 0] 31 (0, 0)), (b1, .cells #[.int .i64 Z8, .slice a0_1 x0_1.length k0_1] 28 (0, 0))], [.s (.slice a71 Z3.length k72) 32 1 Z3.length Z5, .g (packG 69 2 Z4)]⟩ ∧ HpLe G Z0 ∧ Bd w0 S0 Fs Z0 ∧ NL (Rep.pair Rep.str ri) Z0 Z4 Z5 Z3 ∧ Z3.length = v70.length ∧ (X3h v63) Z1 Z2 Z3 Z6 Z7 Z8 = some r) [(21, _), (6, _)] [] [] [_, _, _, _] [0, 3, 4, 5] ?_ ?_
         ·rintro _ ⟨G78, v79, v80, v81, es82, cs83, v84, v85, v86, rfl, e87, B88, o90, hl91, r92⟩
          refine .gn 0 ?_
          unfold X3h at r92
          try dsimp only at r92
          refine .go 2 ?_
          refine .q .ro (.load_own_a 0 [_, _, _, _] rfl rfl ty31 rfl) rfl (.store 1 [_, _, _, _] [_, _, _] .ro rfl rfl rfl ty31 rfl rfl rfl rfl (.go 2 ?_))
          refine .freezeR 2 rfl rfl (OL.mono e87 o75) [_, _, _, _, _] rfl B88 (fun G93 e94 B95 s96 => ?_)
          refine .pullS 1 rfl [_, _, _, _, _] rfl (.pullS 1 rfl [_, _, _, _, _] rfl ?_)
          refine .freezeN (Q := (Rep.pair Rep.str ri)) rfl (NL.mono e94 o90) rfl B95 (fun G97 e98 B99 s100 => ?_)
          cases r92
          refine .drop 0 3 _ [] rfl rfl ?_
          refine .rW 3 [.cell 6 31, .tmp 7] [_, _] Tryz.func19 Tryz.results19 ⟨RV.cell_a 1 [_, _, _, _] rfl rfl ty31 rfl, RV.tmp rfl, trivial⟩ B99 hS0 (fun G' hg => ⟨a65, k66, a71, k72, rfl, rfl, rfl, (SlR.mono hg (SlR.mono e98 s96)), (SlR.mono hg s100)⟩)
         ·intro hb101
          refine .block ?_
          refine .freezeR 6 rfl rfl o30 [_, _, _, _, _, _] rfl B0 (fun G102 e103 B104 s105 => ?_)
          refine .pullS 2 rfl [_, _, _, _, _, _] rfl (.pullS 2 rfl [_, _, _, _, _, _] rfl ?_)
          refine .lp (fun y m => ∃ (Z0 : Nat) (Z1 : List Int) (Z2 : _) (Z3 : List (List (ByteArray × Int))) (Z4 Z5 : _), y = ⟨[(141, .int .i64 (Z0 : Int))], [Z2], [(b61, .cells #[.int .i64 v62, .slice a65 v63.length k66, .int .i64 v68, .slice a71 Z3.length k72] 31 (0, 0))], [.s (.slice a71 Z3.length k72) 32 1 Z3.length Z5, .g (packG 69 2 Z4)]⟩ ∧ Z1.length = m ∧ HpLe G102 Z2 ∧ Bd w0 S0 Fs Z2 ∧ NL (Rep.pair Rep.str ri) Z2 Z4 Z5 Z3 ∧ Z3.length = v70.length ∧ List.drop Z0 u45.1 = Z1 ∧ X2r (X3h v63) v13 v62 v68 v40 v41 v42 Z1 Z0 Z3 = some r) [(21, _), (8, _), (6, _), (139, _), (140, _)] [_, _] [_, _, _, _] ⟨0, u45.1, G102, v70, es73, cs74, rfl, rfl, (HpLe.refl _), B104, (NL.mono e103 o76), rfl, rfl, r77⟩ (fun y m hI hb106 => ?_)
          obtain ⟨i107, w108, G109, v110, es111, cs112, rfl, rfl, e113, B114, o115, hl116, g117, r118⟩ := hI
          refine .gn 0 ?_
          cases w108 with
          | nil =>
           rw [X2r] at r118; try dsimp only at r118
           refine .go 5 ?_
           refine .cond_dec rfl (fun c => absurd c (X8 g117)) (fun _ => ?_)
           refine .exit rfl ?_
           exact (hb101 _ ⟨G109, v62, v68, v110, es111, cs112, v40, v41, v42, rfl, (HpLe.trans e103 e113), B114, o115, hl116, r118⟩).ar
          | cons x119 xs120 =>
           have r121 : X4g (X3h v63) v13 v62 v68 v40 v41 v42 (X2r (X3h v63) v13 v62 v68 v40 v41 v42 xs120 (i107 + 1)) x119 i107 v110 = some r := r118; clear r118; unfold X4g at r121; try dsimp only at r121
           refine .go 5 ?_
           refine .cond_dec rfl (fun _ => ?_) (fun c => absurd (Xf g117) c)
           refine .go 2 ?_
           refine .block (.go 3 ?_)
           obtain ⟨c122, p123, h124⟩ := OL.get (OL.mono (HpLe.trans e103 e113) o57) (X2 g117)
           obtain rfl := h124
           refine .q .ro (.idxO 3 rfl rfl rfl (X2 g117) sl48 ty3.sz) rfl (.q .ro (.loadO 3 0 rfl (X2 g117) p123 rfl (.inl ⟨rfl, rfl⟩) ty3 rfl) rfl (.go 3 ?_))
           refine .drawL (.q 0 (.q 1 (.q 2 (.q 3 (.q 4 (.q 5 (.q 8 (.q 9 (.q 10 (.q 11 (.alt (.e 6 1 (.alt (.e 7 1 (.e 12 1 (.e 13 1 (.e 14 2 (.e 15 2 .nil))))) (.e 12 1 (.e 7 1 (.e 13 1 (.e 14 2 (.e 15 2 .nil))))))) (.e 12 1 (.e 6 1 (.e 7 1 (.e 13 1 (.e 14 2 (.e 15 2 .nil))))))))))))))))) [_, _, _] (by kernel_rfl) (by kernel_rfl) (X1 [0, 1, 2] rfl) ?_
           obtain ⟨u125, hu125, r126⟩ := X0 r121
           obtain ⟨u127, hu127, r128⟩ := X0 r126
           obtain ⟨u129, hu129, r130⟩ := X0 r128
           obtain ⟨u131, hu131, r132⟩ := X0 r130
           obtain ⟨u133, hu133, r134⟩ := X0 r132
           refine .go 8 ?_
           obtain ⟨c135, p136, h137⟩ := SlR.get (SlR.mono e113 s105) hu125
           obtain ⟨_, _, rfl, rfl, rfl⟩ := h137
           refine .dq (.idxR (SlR.mono e113 s105) rfl rfl hu125 sl32 ty69.sz) rfl (.dq (.load_rp_a [_, _] p136 mcs rfl ty69 rfl) rfl ?_)
           refine .alt ?_ ?_
           ·obtain ⟨e138, he139, hn140, ho141, p142⟩ := NL.get o115 hu127
            refine .q .d1 (.idxO 0 rfl rfl rfl hu127 sl29 ty32.sz) rfl (.clsL (HpLe.refl _) (X1 [0, 1, 2] rfl) ?_)
            refine .alt ?_ ?_
            ·refine .q .d1 (.loadO 0 0 rfl hu127 p142 rfl (.inl ⟨rfl, rfl⟩) ty32 rfl) rfl ?_
             refine .clsL (HpLe.refl _) (X1 [0, 1, 2] rfl) ?_
             refine .lit [_, _] [(0, _)] .d1 sl32 ty69 rfl rfl rfl rfl rfl rfl (fun b143 hb143 => ?_)
             have o144 : OL (Rep.pair Rep.str ri) G109 [.string u125.1, .int .i64 u125.2] ([u125] : List (ByteArray × Int)) := ((OL.cons rfl (Rep.pairI (Rep.strI u125.1) (Rep.intI .i64 u125.2)) (OL.nil (Rp' := (Rep.pair Rep.str ri)))) :)
             refine .reval 158 (n' := ([u125] : List (ByteArray × Int)).length) rfl rfl (.clsL (HpLe.refl _) (X1 [0, 1, 2] rfl) ?_)
             refine .freezeR 0 rfl rfl o144 [_, _, _, _, _, _] rfl B114 (fun G145 e146 B147 s148 => ?_)
             refine .takeN 1 rfl he139 hn140 ?_
             refine .appR (Q := (Rep.pair Rep.str ri)) 0 .d1 sl32 ty69 rfl rfl rfl rfl rfl (OL.mono e146 ho141) rfl rfl s148 rfl mcs hu129 rfl (fun a149 k150 cs151 o152 => ?_)
             refine .clsL e146 (X1 [0, 1, 2] rfl) ?_
             obtain ⟨e153, he154, hn155, ho156, p157⟩ := NL.get (NL.mono e146 o115) hu131
             refine .q .d2 (.idxO 1 rfl rfl rfl hu131 sl29 ty32.sz) rfl ?_
             refine .storeN 0 1 (Q := (Rep.pair Rep.str ri)) .d2 rfl rfl rfl (NL.mono e146 o115) he139 o152 hu133 rfl (.inl ⟨rfl, rfl⟩) rfl ty32 rfl (fun es158 cs159 hlcs159 o160 => ?_)
             refine .reval 147 hlcs159 rfl (.reval 150 hlcs159 rfl (.recell 0 [_, _, _, .slice a71 u133.length k72] rfl (by rw [hlcs159] <;> rfl) [_, _, _] rfl (.go 6 ?_)))
             exact (hb106 _ _ ⟨(i107 + 1), xs120, G145, u133, es158, cs159, rfl, rfl, (HpLe.trans e113 e146), B147, o160, (hlcs159.trans hl116), (X3 g117), r134⟩ (Nat.lt_succ_self _)).ax ⟨(congrArg (fun z => some (Value.int .i64 z)) (X7 (OL.len' o57) g117)), rfl, rfl, rfl, rfl, rfl, trivial⟩
            ·refine .lit [_, _] [(0, _)] .d1 sl32 ty69 rfl rfl rfl rfl rfl rfl (fun b161 hb161 => ?_)
             have o162 : OL (Rep.pair Rep.str ri) G109 [.string u125.1, .int .i64 u125.2] ([u125] : List (ByteArray × Int)) := ((OL.cons rfl (Rep.pairI (Rep.strI u125.1) (Rep.intI .i64 u125.2)) (OL.nil (Rp' := (Rep.pair Rep.str ri)))) :)
             refine .reval 158 (n' := ([u125] : List (ByteArray × Int)).length) rfl rfl (.clsL (HpLe.refl _) (X1 [0, 1, 2] rfl) (.q .d1 (.loadO 1 0 rfl hu127 p142 rfl (.inl ⟨rfl, rfl⟩) ty32 rfl) rfl (.clsL (HpLe.refl _) (X1 [0, 1, 2] rfl) ?_)))
             refine .freezeR 0 rfl rfl o162 [_, _, _, _, _, _] rfl B114 (fun G163 e164 B165 s166 => ?_)
             refine .takeN 1 rfl he139 hn140 ?_
             refine .appR (Q := (Rep.pair Rep.str ri)) 0 .d1 sl32 ty69 rfl rfl rfl rfl rfl (OL.mono e164 ho141) rfl rfl s166 rfl mcs hu129 rfl (fun a167 k168 cs169 o170 => ?_)
             refine .clsL e164 (X1 [0, 1, 2] rfl) ?_
             obtain ⟨e171, he172, hn173, ho174, p175⟩ := NL.get (NL.mono e164 o115) hu131
             refine .q .d2 (.idxO 1 rfl rfl rfl hu131 sl29 ty32.sz) rfl ?_
             refine .storeN 0 1 (Q := (Rep.pair Rep.str ri)) .d2 rfl rfl rfl (NL.mono e164 o115) he139 o170 hu133 rfl (.inl ⟨rfl, rfl⟩) rfl ty32 rfl (fun es176 cs177 hlcs177 o178 => ?_)
             refine .reval 147 hlcs177 rfl (.reval 150 hlcs177 rfl (.recell 0 [_, _, _, .slice a71 u133.length k72] rfl (by rw [hlcs177] <;> rfl) [_, _, _] rfl (.go 6 ?_)))
             exact (hb106 _ _ ⟨(i107 + 1), xs120, G163, u133, es176, cs177, rfl, rfl, (HpLe.trans e113 e164), B165, o178, (hlcs177.trans hl116), (X3 g117), r134⟩ (Nat.lt_succ_self _)).ax ⟨(congrArg (fun z => some (Value.int .i64 z)) (X7 (OL.len' o57) g117)), rfl, rfl, rfl, rfl, rfl, trivial⟩
           ·refine .lit [_, _] [(0, _)] .d1 sl32 ty69 rfl rfl rfl rfl rfl rfl (fun b179 hb179 => ?_)
            have o180 : OL (Rep.pair Rep.str ri) G109 [.string u125.1, .int .i64 u125.2] ([u125] : List (ByteArray × Int)) := ((OL.cons rfl (Rep.pairI (Rep.strI u125.1) (Rep.intI .i64 u125.2)) (OL.nil (Rp' := (Rep.pair Rep.str ri)))) :)
            refine .reval 158 (n' := ([u125] : List (ByteArray × Int)).length) rfl rfl (.clsL (HpLe.refl _) (X1 [0, 1, 2] rfl) ?_)
            obtain ⟨e181, he182, hn183, ho184, p185⟩ := NL.get o115 hu127
            refine .q .d1 (.idxO 1 rfl rfl rfl hu127 sl29 ty32.sz) rfl (.clsL (HpLe.refl _) (X1 [0, 1, 2] rfl) (.q .d1 (.loadO 1 0 rfl hu127 p185 rfl (.inl ⟨rfl, rfl⟩) ty32 rfl) rfl (.clsL (HpLe.refl _) (X1 [0, 1, 2] rfl) ?_)))
            refine .freezeR 0 rfl rfl o180 [_, _, _, _, _, _] rfl B114 (fun G186 e187 B188 s189 => ?_)
            refine .takeN 1 rfl he182 hn183 ?_
            refine .appR (Q := (Rep.pair Rep.str ri)) 0 .d1 sl32 ty69 rfl rfl rfl rfl rfl (OL.mono e187 ho184) rfl rfl s189 rfl mcs hu129 rfl (fun a190 k191 cs192 o193 => ?_)
            refine .clsL e187 (X1 [0, 1, 2] rfl) ?_
            obtain ⟨e194, he195, hn196, ho197, p198⟩ := NL.get (NL.mono e187 o115) hu131
            refine .q .d2 (.idxO 1 rfl rfl rfl hu131 sl29 ty32.sz) rfl ?_
            refine .storeN 0 1 (Q := (Rep.pair Rep.str ri)) .d2 rfl rfl rfl (NL.mono e187 o115) he182 o193 hu133 rfl (.inl ⟨rfl, rfl⟩) rfl ty32 rfl (fun es199 cs200 hlcs200 o201 => ?_)
            refine .reval 147 hlcs200 rfl (.reval 150 hlcs200 rfl (.recell 0 [_, _, _, .slice a71 u133.length k72] rfl (by rw [hlcs200] <;> rfl) [_, _, _] rfl (.go 6 ?_)))
            exact (hb106 _ _ ⟨(i107 + 1), xs120, G186, u133, es199, cs200, rfl, rfl, (HpLe.trans e113 e187), B188, o201, (hlcs200.trans hl116), (X3 g117), r134⟩ (Nat.lt_succ_self _)).ax ⟨(congrArg (fun z => some (Value.int .i64 z)) (X7 (OL.len' o57) g117)), rfl, rfl, rfl, rfl, rfl, trivial⟩
        ·intro hb202
         refine .drawL (.q 0 (.q 1 (.q 2 (.q 3 (.q 6 (.q 7 (.q 8 (.alt (.e 4 1 (.q 5 (.alt (.e 9 1 (.q 10 (.e 11 1 (.e 12 2 .nil)))) (.e 11 1 (.e 9 1 (.q 10 (.e 12 2 .nil))))))) (.alt (.e 9 1 (.alt (.e 4 1 (.q 5 (.q 10 (.e 11 1 (.e 12 2 .nil))))) (.e 11 1 (.e 4 1 (.q 5 (.q 10 (.e 12 2 .nil))))))) (.e 11 1 (.alt (.e 4 1 (.q 5 (.e 9 1 (.q 10 (.e 12 2 .nil))))) (.e 9 1 (.e 4 1 (.q 5 (.q 10 (.e 12 2 .nil)))))))))))))))) [_, _] (by kernel_rfl) (by kernel_rfl) (X1 [0, 1] rfl) ?_
         obtain ⟨u203, hu203, r204⟩ := X0 r60
         obtain ⟨u205, hu205, r206⟩ := X0 r204
         refine .go 7 ?_
         refine .alt ?_ ?_
         ·refine .own_nil 89 2 ?_
          refine .appR (Q := (Rep.pair ri ri)) 0 .d1 sl26 ty89 rfl rfl rfl rfl rfl (OL.nil (Rp' := (Rep.pair ri ri))) rfl rfl s0_1 rfl mcs hu203 rfl (fun a207 k208 cs209 o210 => ?_)
          refine .clsL (HpLe.refl _) (X1 [0, 1] rfl) (.dq (.build [_, _] [(0, _), (1, _)] ty28 pl28 rfl rfl) rfl ?_)
          refine .alt ?_ ?_
          ·refine .makeN (G := G) (Q := (Rep.pair Rep.str ri)) 69 2 .d1 sl29 ty32 rfl rfl hu205 rfl rfl (fun b211 es212 cs213 hb211 o214 => ?_)
           refine .clsL (HpLe.refl _) (X1 [0, 1] rfl) (.dq (.build [_, _, _, _] [(0, _), (1, _), (2, _)] ty31 pl31 rfl rfl) rfl ?_)
           refine .alloc .d1 ty31 rfl (fun b215 hb215 => ?_)
           refine .clsL (HpLe.refl _) (X1 [1, 2] rfl) (.store 0 [_, _, _, _] [_, _, _] .d2 rfl rfl rfl ty31 rfl rfl rfl rfl (.go 1 ?_))
           refine .pullS 6 rfl [_, _, _, _, _, _, _] rfl (.pullS 6 rfl [_, _, _, _, _, _, _] rfl (.pullS 6 rfl [_, _, _, _, _, _, _] rfl (.pullS 6 rfl [_, _, _, _, _, _, _] rfl (.pullS 5 rfl [_, _, _, _, _, _, _] rfl (.pullS 5 rfl [_, _, _, _, _, _, _] rfl (.pullS 6 rfl [_, _, _, _, _, _, _] rfl ?_))))))
           exact (hb202 _ ⟨b215, v42, u203, a207, k208, cs209, x1, u205, (some ⟨b211, 0, none⟩), u205.length, es212, cs213, rfl, o210, o214, r206⟩).ar
          ·refine .alloc .d1 ty31 rfl (fun b216 hb216 => ?_)
           refine .clsL (HpLe.refl _) (X1 [1, 2] rfl) ?_
           refine .makeN (G := G) (Q := (Rep.pair Rep.str ri)) 69 2 .d1 sl29 ty32 rfl rfl hu205 rfl rfl (fun b217 es218 cs219 hb217 o220 => ?_)
           refine .clsL (HpLe.refl _) (X1 [1, 2] rfl) (.dq (.build [_, _, _, _] [(0, _), (1, _), (2, _)] ty31 pl31 rfl rfl) rfl (.store 0 [_, _, _, _] [_, _, _] .d2 rfl rfl rfl ty31 rfl rfl rfl rfl (.go 1 ?_)))
           refine .pullS 6 rfl [_, _, _, _, _, _, _] rfl (.pullS 6 rfl [_, _, _, _, _, _, _] rfl (.pullS 6 rfl [_, _, _, _, _, _, _] rfl (.pullS 6 rfl [_, _, _, _, _, _, _] rfl (.pullS 5 rfl [_, _, _, _, _, _, _] rfl (.pullS 5 rfl [_, _, _, _, _, _, _] rfl (.pullS 6 rfl [_, _, _, _, _, _, _] rfl ?_))))))
           exact (hb202 _ ⟨b216, v42, u203, a207, k208, cs209, x1, u205, (some ⟨b217, 0, none⟩), u205.length, es218, cs219, rfl, o210, o220, r206⟩).ar
         ·refine .alt ?_ ?_
          ·refine .makeN (G := G) (Q := (Rep.pair Rep.str ri)) 69 2 .d1 sl29 ty32 rfl rfl hu205 rfl rfl (fun b221 es222 cs223 hb221 o224 => ?_)
           refine .clsL (HpLe.refl _) (X1 [0, 1] rfl) ?_
           refine .alt ?_ ?_
           ·refine .own_nil 89 2 ?_
            refine .appR (Q := (Rep.pair ri ri)) 0 .d1 sl26 ty89 rfl rfl rfl rfl rfl (OL.nil (Rp' := (Rep.pair ri ri))) rfl rfl s0_1 rfl mcs hu203 rfl (fun a225 k226 cs227 o228 => ?_)
            refine .clsL (HpLe.refl _) (X1 [0, 1] rfl) (.dq (.build [_, _] [(0, _), (1, _)] ty28 pl28 rfl rfl) rfl (.dq (.build [_, _, _, _] [(0, _), (1, _), (2, _)] ty31 pl31 rfl rfl) rfl ?_))
            refine .alloc .d1 ty31 rfl (fun b229 hb229 => ?_)
            refine .clsL (HpLe.refl _) (X1 [1, 2] rfl) (.store 0 [_, _, _, _] [_, _, _] .d2 rfl rfl rfl ty31 rfl rfl rfl rfl (.go 1 ?_))
            exact (hb202 _ ⟨b229, v42, u203, a225, k226, cs227, x1, u205, (some ⟨b221, 0, none⟩), u205.length, es222, cs223, rfl, o228, o224, r206⟩).ar
           ·refine .alloc .d1 ty31 rfl (fun b230 hb230 => ?_)
            refine .clsL (HpLe.refl _) (X1 [1, 2] rfl) (.own_nil 89 2 ?_)
            refine .appR (Q := (Rep.pair ri ri)) 0 .d1 sl26 ty89 rfl rfl rfl rfl rfl (OL.nil (Rp' := (Rep.pair ri ri))) rfl rfl s0_1 rfl mcs hu203 rfl (fun a231 k232 cs233 o234 => ?_)
            refine .clsL (HpLe.refl _) (X1 [1, 2] rfl) (.dq (.build [_, _] [(0, _), (1, _)] ty28 pl28 rfl rfl) rfl (.dq (.build [_, _, _, _] [(0, _), (1, _), (2, _)] ty31 pl31 rfl rfl) rfl (.store 0 [_, _, _, _] [_, _, _] .d2 rfl rfl rfl ty31 rfl rfl rfl rfl (.go 1 ?_))))
            exact (hb202 _ ⟨b230, v42, u203, a231, k232, cs233, x1, u205, (some ⟨b221, 0, none⟩), u205.length, es222, cs223, rfl, o234, o224, r206⟩).ar
          ·refine .alloc .d1 ty31 rfl (fun b235 hb235 => ?_)
           refine .clsL (HpLe.refl _) (X1 [1, 2] rfl) ?_
           refine .alt ?_ ?_
           ·refine .own_nil 89 2 ?_
            refine .appR (Q := (Rep.pair ri ri)) 0 .d1 sl26 ty89 rfl rfl rfl rfl rfl (OL.nil (Rp' := (Rep.pair ri ri))) rfl rfl s0_1 rfl mcs hu203 rfl (fun a236 k237 cs238 o239 => ?_)
            refine .clsL (HpLe.refl _) (X1 [1, 2] rfl) (.dq (.build [_, _] [(0, _), (1, _)] ty28 pl28 rfl rfl) rfl ?_)
            refine .makeN (G := G) (Q := (Rep.pair Rep.str ri)) 69 2 .d1 sl29 ty32 rfl rfl hu205 rfl rfl (fun b240 es241 cs242 hb240 o243 => ?_)
            refine .clsL (HpLe.refl _) (X1 [1, 2] rfl) (.dq (.build [_, _, _, _] [(0, _), (1, _), (2, _)] ty31 pl31 rfl rfl) rfl (.store 0 [_, _, _, _] [_, _, _] .d2 rfl rfl rfl ty31 rfl rfl rfl rfl (.go 1 ?_)))
            refine .pullS 6 rfl [_, _, _, _, _, _, _] rfl (.pullS 6 rfl [_, _, _, _, _, _, _] rfl (.pullS 6 rfl [_, _, _, _, _, _, _] rfl (.pullS 6 rfl [_, _, _, _, _, _, _] rfl (.pullS 5 rfl [_, _, _, _, _, _, _] rfl (.pullS 5 rfl [_, _, _, _, _, _, _] rfl (.pullS 6 rfl [_, _, _, _, _, _, _] rfl ?_))))))
            exact (hb202 _ ⟨b235, v42, u203, a236, k237, cs238, x1, u205, (some ⟨b240, 0, none⟩), u205.length, es241, cs242, rfl, o239, o243, r206⟩).ar
           ·refine .makeN (G := G) (Q := (Rep.pair Rep.str ri)) 69 2 .d1 sl29 ty32 rfl rfl hu205 rfl rfl (fun b244 es245 cs246 hb244 o247 => ?_)
            refine .clsL (HpLe.refl _) (X1 [1, 2] rfl) (.own_nil 89 2 ?_)
            refine .appR (Q := (Rep.pair ri ri)) 0 .d1 sl26 ty89 rfl rfl rfl rfl rfl (OL.nil (Rp' := (Rep.pair ri ri))) rfl rfl s0_1 rfl mcs hu203 rfl (fun a248 k249 cs250 o251 => ?_)
            refine .clsL (HpLe.refl _) (X1 [1, 2] rfl) (.dq (.build [_, _] [(0, _), (1, _)] ty28 pl28 rfl rfl) rfl (.dq (.build [_, _, _, _] [(0, _), (1, _), (2, _)] ty31 pl31 rfl rfl) rfl (.store 0 [_, _, _, _] [_, _, _] .d2 rfl rfl rfl ty31 rfl rfl rfl rfl (.go 1 ?_))))
            exact (hb202 _ ⟨b235, v42, u203, a248, k249, cs250, x1, u205, (some ⟨b244, 0, none⟩), u205.length, es245, cs246, rfl, o251, o247, r206⟩).ar
      ·intro hb252
       refine .block (.packE 3 1 (.own_nil 48 1 (.pullS 1 rfl [_, _, _] rfl (.pullS 1 rfl [_, _, _] rfl ?_))))
       refine .lp (fun y m => ∃ (Z0 : Nat) (Z1 : List (ByteArray × Int)) (Z2 : List (List Int)) (Z3 : _) (Z4 : Nat) (Z5 Z6 : _), y = ⟨[(14, .slice Z3 Z2.length Z4), (101, .int .i64 (Z0 : Int))], [], [], [.s (.slice Z3 Z2.length Z4) 48 1 Z2.length Z6, .g (packG 3 1 Z5)]⟩ ∧ Z1.length = m ∧ NL ri G Z5 Z6 Z2 ∧ List.drop Z0 v13 = Z1 ∧ X3j (X3i x1 x0_1 v13) v24 v25 v27 x0_1 Z1 Z2 = some r) [(8, _), (1, _), (3, _), (6, _), (99, _), (100, _)] [_, _] [_] ⟨0, v13, ([] : List (List Int)), none, 0, [], [], rfl, rfl, (NL.nil (Q := ri)), rfl, r33⟩ (fun y m hI hb253 => ?_)
       obtain ⟨i254, w255, v256, a257, k258, es259, cs260, rfl, rfl, o261, g262, r263⟩ := hI
       refine .gn 0 ?_
       cases w255 with
       | nil =>
        rw [X3j] at r263; try dsimp only at r263
        refine .go 5 ?_
        refine .cond_dec rfl (fun c => absurd c (X8 g262)) (fun _ => ?_)
        refine .exit rfl ?_
        exact (hb252 _ ⟨v256, a257, k258, es259, cs260, v24, v25, v27, rfl, o261, r263⟩).ar
       | cons x264 xs265 =>
        have r266 : X75 (X3i x1 x0_1 v13) v24 v25 v27 x0_1 (X3j (X3i x1 x0_1 v13) v24 v25 v27 x0_1 xs265) x264 v256 = some r := r263; clear r263; unfold X75 at r266; try dsimp only at r266
        refine .go 5 ?_
        refine .cond_dec rfl (fun _ => ?_) (fun c => absurd (Xf g262) c)
        refine .go 2 ?_
        refine .block (.go 2 ?_)
        obtain ⟨c267, p268, h269⟩ := OL.get o30 (X2 g262)
        obtain ⟨_, _, rfl, rfl, rfl⟩ := h269
        refine .q .ro (.idxO 2 rfl rfl rfl (X2 g262) sl32 ty69.sz) rfl (.q .ro (.loadO_a 2 0 [_, _] rfl (X2 g262) p268 rfl (.inl ⟨rfl, rfl⟩) ty69 rfl) rfl ?_)
        refine .alloc .ro ty69 rfl (fun b270 hb270 => ?_)
        refine .store 0 [_, _] [_, _, _] .ro rfl rfl rfl ty69 rfl rfl rfl rfl (.go 3 ?_)
        refine .q .ro (.load_own_a 2 [_, _] rfl rfl ty28 rfl) rfl (.go 2 ?_)
        obtain ⟨u271, hu271, r272⟩ := X0 r266
        refine .cS [_, _] Tryz.call51 (Xav mcs s0_1 hu271) (fun v273 bo so h274 => ?_)
        obtain ⟨a275, k276, cs277, rfl, rfl, rfl, o278⟩ := h274
        refine .gn 9 ?_
        refine .lit [_] [(0, _)] .ro sl37 ty48 rfl rfl rfl rfl rfl rfl (fun b279 hb279 => ?_)
        refine .pullS 1 rfl [_, _, _, _, _] rfl (.pack1 rfl ?_)
        have o280 : NL ri G [⟨a275, u271.1.length, k276, cs277⟩] [.slice a275 u271.1.length k276] ([u271.1] : List (List Int)) := (NL.one o278 :)
        refine .reval 114 (n' := ([u271.1] : List (List Int)).length) rfl rfl ?_
        obtain ⟨u281, hu281, r282⟩ := X0 r272
        refine .pullS 1 rfl [_, _, _, _, _] rfl ?_
        refine .appN 0 1 (Q := ri) .ro sl37 ty48 rfl rfl rfl rfl rfl rfl o261 o280 rfl rfl hu281 rfl B0 (fun a283 k284 cs285 o286 => ?_)
        refine .go 7 ?_
        refine .drop 1 0 [_, _] _ rfl rfl ?_
        exact (hb253 _ _ ⟨(i254 + 1), xs265, u281, a283, k284, (es259 ++ [⟨a275, u271.1.length, k276, cs277⟩]), cs285, rfl, rfl, o286, (X3 g262), r282⟩ (Nat.lt_succ_self _)).ax ⟨rfl, (congrArg (fun z => some (Value.int .i64 z)) (X7 (OL.len' o30) g262)), rfl, rfl, rfl, rfl, rfl, rfl, trivial⟩
     ·intro hb287
      refine .block (.own_nil 69 2 (.pull 1 rfl [_, _] rfl (.pull 1 rfl [_, _] rfl ?_)))
      refine .lp (fun y m => ∃ (Z0 : Nat) (Z1 Z2 : List (ByteArray × Int)) (Z3 : _) (Z4 : Nat) (Z5 Z6 Z7 Z8 : _), y = ⟨[(8, .slice Z3 Z2.length Z4), (41, .int .i64 (Z0 : Int))], [], [(b2, .cells #[.int .i64 Z6, .slice none 0 0, .int .i64 Z7, .slice none 0 0] 31 (0, 0)), (b1, .cells #[.int .i64 Z8, .slice a0_1 x0_1.length k0_1] 28 (0, 0))], [.s (.slice Z3 Z2.length Z4) 69 2 Z2.length Z5]⟩ ∧ Z1.length = m ∧ OL (Rep.pair Rep.str ri) G Z5 Z2 ∧ List.drop Z0 x2 = Z1 ∧ Xg (Xc x1 x0_1) x2 Z1 Z0 Z2 Z6 Z7 Z8 = some r) [(1, _), (2, _), (3, _), (6, _), (39, _), (40, _)] [] [] ⟨0, x2, ([] : List (ByteArray × Int)), none, 0, [], 0, 0, x0_0, rfl, rfl, (OL.nil (Rp' := (Rep.pair Rep.str ri))), rfl, r19⟩ (fun y m hI hb288 => ?_)
      obtain ⟨i289, w290, v291, a292, k293, cs294, v295, v296, v297, rfl, rfl, o298, g299, r300⟩ := hI
      refine .gn 0 ?_
      cases w290 with
      | nil =>
       rw [Xg] at r300; try dsimp only at r300
       refine .go 5 ?_
       refine .cond_dec rfl (fun c => absurd c (X8 g299)) (fun _ => ?_)
       refine .exit rfl ?_
       exact (hb287 _ ⟨v291, a292, k293, cs294, v295, v296, v297, rfl, o298, r300⟩).ar
      | cons x301 xs302 =>
       have r303 : X6e (Xc x1 x0_1) x2 (Xg (Xc x1 x0_1) x2 xs302 (i289 + 1)) x301 i289 v291 v295 v296 v297 = some r := r300; clear r300; unfold X6e at r303; try dsimp only at r303
       refine .go 5 ?_
       refine .cond_dec rfl (fun _ => ?_) (fun c => absurd (Xf g299) c)
       refine .go 2 ?_
       refine .block (.go 3 ?_)
       obtain ⟨c304, p305, h306⟩ := SlR.get s2 (X2 g299)
       obtain ⟨_, _, rfl, rfl, rfl⟩ := h306
       refine .q .ro (.idxR s2 rfl rfl (X2 g299) sl32 ty69.sz) rfl (.q .ro (.load_rp_a [_, _] p305 mcs rfl ty69 rfl) rfl ?_)
       refine .alloc .ro ty69 rfl (fun b307 hb307 => ?_)
       refine .go 1 ?_
       refine .store 0 [_, _] [_, _, _] .ro rfl rfl rfl ty69 rfl rfl rfl rfl (.go 4 ?_)
       refine .q .ro (.load_own_a 0 [_, _] rfl rfl ty69 rfl) rfl ?_
       obtain ⟨u308, hu308, r309⟩ := X0 r303
       refine .cV [_] Tryz.call50 (Xau mcs  hu308) ?_
       refine .go 2 ?_
       refine .cB r309 (fun c310 r311 => ?_) (fun c310 r312 => ?_)
       ·refine .go 2 ?_
        refine .q .ro (.build [_, _, _, _] [] ty31 pl31 rfl rfl) rfl (.store 1 [_, _, _, _] [_, _, _] .ro rfl rfl rfl ty31 rfl rfl rfl rfl (.go 2 ?_))
        cases r311
        refine .drop 0 1 _ [] rfl rfl ?_
        refine .rW 3 [.cell 6 31, .tmp 7] [_, _] Tryz.func19 Tryz.results19 ⟨RV.cell_a 1 [_, _, _, _] rfl rfl ty31 rfl, RV.tmp rfl, trivial⟩ B0 hS0 (fun G' hg => ⟨none, 0, none, 0, rfl, rfl, rfl, (SlR.mono hg (SlR.nil (Rp' := (Rep.pair ri ri)))), (SlR.mono hg (SlR.nil (Rp' := (Rep.sl (Rep.pair Rep.str ri)))))⟩)
       ·refine .go 6 ?_
        obtain ⟨u313, hu313, r314⟩ := X0 r312
        obtain ⟨a315, k316, h317, s318⟩ := SlR.sub s2 hu313
        refine .q .ro (.sliceR s2 rfl hu313 sl32 ty69.sz (fun _ => .no) (fun h => .yes' rfl h) h317) rfl (.go 3 ?_)
        refine .kB (fun y => ∃ (Z0 : ByteArray) (Z1 Z2 Z3 Z4 : _), y = ⟨[], G :: Fs, [(b307, .cells #[.string Z0, .int .i64 Z1] 69 (0, 0)), (b2, .cells #[.int .i64 Z2, .slice none 0 0, .int .i64 Z3, .slice none 0 0] 31 (0, 0)), (b1, .cells #[.int .i64 Z4, .slice a0_1 x0_1.length k0_1] 28 (0, 0))], []⟩ ∧ (X2w (Xg (Xc x1 x0_1) x2 xs302 (i289 + 1)) v291) Z0 Z1 Z2 Z3 Z4 = some r) [(8, _), (41, _), (1, _), (2, _), (3, _), (6, _), (39, _), (40, _), (10, _)] [] [] [_] [0] ?_ ?_
        ·rintro _ ⟨v319, v320, v321, v322, v323, rfl, r324⟩
         refine .gn 0 ?_
         unfold X2w at r324
         try dsimp only at r324
         refine .go 7 ?_
         refine .kB (fun y => ∃ (Z0 : _) (Z1 : ByteArray) (Z2 Z3 Z4 Z5 : _), y = ⟨[(13, .int .i64 Z0)], G :: Fs, [(b307, .cells #[.string Z1, .int .i64 Z2] 69 (0, 0)), (b2, .cells #[.int .i64 Z3, .slice none 0 0, .int .i64 Z4, .slice none 0 0] 31 (0, 0)), (b1, .cells #[.int .i64 Z5, .slice a0_1 x0_1.length k0_1] 28 (0, 0))], []⟩ ∧ (X4h (Xg (Xc x1 x0_1) x2 xs302 (i289 + 1)) v291) Z0 Z1 Z2 Z3 Z4 Z5 = some r) [(8, _), (41, _), (1, _), (2, _), (3, _), (6, _), (39, _), (40, _), (10, _)] [] [] [_] [0] ?_ ?_
         ·rintro _ ⟨v325, v326, v327, v328, v329, v330, rfl, r331⟩
          refine .gn 0 ?_
          unfold X4h at r331
          try dsimp only at r331
          refine .go 3 ?_
          refine .q .ro (.build [_, _] [] ty69 pl69 rfl rfl) rfl ?_
          refine .lit [_, _] [(0, _)] .ro sl32 ty69 rfl rfl rfl rfl rfl rfl (fun b332 hb332 => ?_)
          have o333 : OL (Rep.pair Rep.str ri) G [.string ByteArray.empty, .int .i64 0] ([(ByteArray.empty, 0)] : List (ByteArray × Int)) := ((OL.cons rfl (Rep.pairI (Rep.strI ByteArray.empty) (Rep.intI .i64 0)) (OL.nil (Rp' := (Rep.pair Rep.str ri)))) :)
          refine .reval 84 (n' := ([(ByteArray.empty, 0)] : List (ByteArray × Int)).length) rfl rfl ?_
          obtain ⟨u334, hu334, r335⟩ := X0 r331
          refine .appO (Q := (Rep.pair Rep.str ri)) 0 .ro sl32 ty69 rfl rfl rfl rfl rfl rfl o298 o333 rfl rfl rfl B0 hu334 rfl (fun a336 k337 cs338 o339 => ?_)
          refine .go 3 ?_
          refine .kG (fun y => ∃ (Z0 : List (ByteArray × Int)) (Z1 : _) (Z2 : Nat) (Z3 : _), y = ⟨[(8, .slice Z1 Z0.length Z2)], G :: Fs, [], [.s (.slice Z1 Z0.length Z2) 69 2 Z0.length Z3]⟩ ∧ OL (Rep.pair Rep.str ri) G Z3 Z0 ∧ (X8j (Xg (Xc x1 x0_1) x2 xs302 (i289 + 1)) v325 v326 v327 v328 v329 v330) Z0 = some r) [(13, _), (41, _), (1, _), (2, _), (3, _), (6, _), (39, _), (40, _), (10, _)] [_, _, _] [0, 1, 2] [] [] ?_ ?_
          ·rintro _ ⟨v340, a341, k342, cs343, rfl, o344, r345⟩
           refine .gn 0 ?_
           unfold X8j at r345
           try dsimp only at r345
           refine .go 3 ?_
           refine .q .ro (.load_own_a 0 [_, _] rfl rfl ty69 rfl) rfl ?_
           obtain ⟨u346, hu346, r347⟩ := X0 r345
           obtain ⟨c348, p349, h350⟩ := OL.get o344 hu346
           obtain ⟨_, _, rfl, rfl, rfl⟩ := h350
           refine .q .ro (.idxO 0 rfl rfl rfl hu346 sl32 ty69.sz) rfl ?_
           obtain ⟨u351, hu351, r352⟩ := X0 r347
           refine .storeR 0 0 (Q := (Rep.pair Rep.str ri)) .ro rfl rfl o344 hu351 rfl (.inl ⟨rfl, rfl⟩) rfl ty69 p349 ((Rep.pairI (Rep.strI v326) (Rep.intI .i64 v327)) :) rfl rfl (fun cs353 hlcs353 o354 => ?_)
           refine .reval 8 hlcs353 rfl (.reval 94 hlcs353 rfl (.go 6 ?_))
           refine .drop 1 0 [_, _] _ rfl rfl ?_
           exact (hb288 _ _ ⟨(i289 + 1), xs302, u351, a341, k342, cs353, v328, v329, v330, rfl, rfl, o354, (X3 g299), r352⟩ (Nat.lt_succ_self _)).ax ⟨rfl, (congrArg (fun z => some (Value.int .i64 z)) (X7 (SlR.len s2) g299)), rfl, rfl, rfl, rfl, rfl, rfl, trivial⟩
          ·intro hb355
           refine .drawL (.q 0 (.q 1 (.q 2 (.q 4 (.q 5 (.alt (.e 3 1 (.e 6 1 (.e 7 2 .nil))) (.e 6 1 (.e 3 1 (.e 7 2 .nil))))))))) [_, _, _] (by kernel_rfl) (by kernel_rfl) (X1 [0, 1, 2] rfl) ?_
           obtain ⟨u356, hu356, r357⟩ := X0 r335
           obtain ⟨u358, hu358, r359⟩ := X0 r357
           obtain ⟨u360, hu360, r361⟩ := X0 r359
           obtain ⟨u362, hu362, r363⟩ := X0 r361
           refine .go 5 ?_
           refine .alt ?_ ?_
           ·refine .owncap 0 rfl (fun h364 => ?_)
            refine .q .d1 (.sliceP rfl (PartV.all h364) hu356 sl32 ty69.sz (fun h => .yes' rfl h) (fun _ => .no)) rfl (.clsL (HpLe.refl _) (X1 [0, 1, 2] rfl) ?_)
            refine .owncap 0 rfl (fun h365 => ?_)
            refine .q .d1 (.sliceP rfl (PartV.all h365) hu358 sl32 ty69.sz (fun h => .yes' rfl h) (fun _ => .no)) rfl (.clsL (HpLe.refl _) (X1 [0, 1, 2] rfl) ?_)
            refine .copyG 0 (Q := (Rep.pair Rep.str ri)) .d2 sl32 ty69.sz rfl o339 hu360 rfl (PartV.psub (PartV.all h364) hu356) rfl (SrcV.osub 0 rfl o339 (PartV.psub (PartV.all h365) hu358) hu362) rfl (fun cs366 hlcs366 o367 => ?_)
            refine .reval 8 hlcs366 rfl (.reval 85 hlcs366 rfl (.reval 86 hlcs366 rfl (.reval 90 hlcs366 rfl (.go 1 ?_))))
            exact (hb355 _ ⟨(lcpy u334 u356.1 u360.length u362), a336, k337, cs366, rfl, o367, r363⟩).ar
           ·refine .owncap 0 rfl (fun h368 => ?_)
            refine .q .d1 (.sliceP rfl (PartV.all h368) hu358 sl32 ty69.sz (fun h => .yes' rfl h) (fun _ => .no)) rfl (.clsL (HpLe.refl _) (X1 [0, 1, 2] rfl) ?_)
            refine .owncap 0 rfl (fun h369 => ?_)
            refine .q .d1 (.sliceP rfl (PartV.all h369) hu356 sl32 ty69.sz (fun h => .yes' rfl h) (fun _ => .no)) rfl (.clsL (HpLe.refl _) (X1 [0, 1, 2] rfl) ?_)
            refine .copyG 0 (Q := (Rep.pair Rep.str ri)) .d2 sl32 ty69.sz rfl o339 hu360 rfl (PartV.psub (PartV.all h369) hu356) rfl (SrcV.osub 0 rfl o339 (PartV.psub (PartV.all h368) hu358) hu362) rfl (fun cs370 hlcs370 o371 => ?_)
            refine .reval 8 hlcs370 rfl (.reval 85 hlcs370 rfl (.reval 86 hlcs370 rfl (.reval 90 hlcs370 rfl (.go 1 ?_))))
            exact (hb355 _ ⟨(lcpy u334 u356.1 u360.length u362), a336, k337, cs370, rfl, o371, r363⟩).ar
         ·intro hb372
          refine .block ?_
          refine .lp (fun y m => ∃ (Z0 : Nat) (Z1 : _), y = ⟨[(13, .int .i64 Z1)], [], [], []⟩ ∧ Z0 = m ∧ X76 (X4h (Xg (Xc x1 x0_1) x2 xs302 (i289 + 1)) v291) v319 v320 v321 v322 v323 v291 Z0 Z1 = some r) [(8, _), (41, _), (1, _), (2, _), (3, _), (6, _), (39, _), (40, _), (10, _)] [_, _, _] [_] ⟨big, (v291.length : Int), rfl, rfl, r324⟩ (fun y m hI hb373 => ?_)
          obtain ⟨n374, v375, rfl, rfl, r376⟩ := hI
          refine .gn 0 ?_
          obtain ⟨m377, rfl⟩ : ∃ m, n374 = m + 1 := by cases n374 with | zero => exact absurd (show (none : Option _) = some _ from r376) (by simp) | succ m => exact ⟨m, rfl⟩
          have r378 : X8k (X4h (Xg (Xc x1 x0_1) x2 xs302 (i289 + 1)) v291) v319 v320 v321 v322 v323 v291 (X76 (X4h (Xg (Xc x1 x0_1) x2 xs302 (i289 + 1)) v291) v319 v320 v321 v322 v323 v291 m377) v375 = some r := r376; clear r376; unfold X8k at r378; try dsimp only at r378
          refine .go 2 ?_
          refine .drawL (.q 0 (.q 1 (.q 2 (.q 3 (.q 4 (.q 5 (.q 9 (.q 10 (.e 6 1 (.e 7 1 (.e 8 1 (.q 11 (.q 12 .nil))))))))))))) [_, _, _] (by kernel_rfl) (by kernel_rfl) (X1 [0, 1, 2] rfl) (.go 3 ?_)
          obtain ⟨u379, h380, r381⟩ := X0 r378
          refine .kD (fun y => y = ⟨[(79, .bool u379)], G :: Fs, [], []⟩) [(13, _), (8, _), (41, _), (1, _), (2, _), (3, _), (6, _), (39, _), (40, _), (10, _)] [_, _, _] [0, 1, 2] [_] [0] 10 ?_ ?_
          ·rintro _ rfl
           refine .gn 1 ?_
           refine .cB r381 (fun c382 r383 => ?_) (fun c382 r384 => ?_)
           ·refine .go 1 ?_
            refine .block (.go 6 ?_)
            exact (hb373 _ _ ⟨m377, (w64 (v375 - 1)), rfl, rfl, r383⟩ (Nat.lt_succ_self _)).ar
           ·refine .exit rfl ?_
            exact (hb372 _ ⟨v375, v319, v320, v321, v322, v323, rfl, r384⟩).ar
          ·intro hb385
           refine .split 69 rfl (fun c386 => ?_) (fun c386 => ?_)
           ·have r387 := ifT h380 c386
            refine .dgq_on rfl (.go 1 ?_)
            refine .dgq_on rfl (.go 1 ?_)
            refine .dgq_on rfl (.go 1 ?_)
            refine .dgq_on rfl (.go 1 ?_)
            refine .dgq_on rfl (.go 1 ?_)
            refine .dge_on rfl ?_
            obtain ⟨u388, hu388, r389⟩ := X0 r387
            obtain ⟨c390, p391, h392⟩ := OL.get o298 hu388
            obtain ⟨_, _, rfl, rfl, rfl⟩ := h392
            refine .q .d1 (.idxO 0 rfl rfl rfl hu388 sl32 ty69.sz) rfl (.clsL (HpLe.refl _) (X1 [0, 1, 2] rfl) (.dge_on rfl (.q .d1 (.fieldO 0 0 rfl hu388 rfl (.inl ⟨rfl, rfl⟩) Xhp ty9.sz) rfl (.clsL (HpLe.refl _) (X1 [0, 1, 2] rfl) (.dge_on rfl (.q .d1 (.loadO 0 0 rfl hu388 p391 rfl (.inr rfl) ty9 rfl) rfl (.clsL (HpLe.refl _) (X1 [0, 1, 2] rfl) (.dgq_on rfl (.dq (.gtr_d rfl rfl) rfl (.go 1 ?_))))))))))
            exact (hb385 _ rfl).ax ⟨sval r389, rfl, rfl, rfl, rfl, rfl, rfl, rfl, rfl, rfl, rfl, trivial⟩
           ·have r393 := ifF h380 c386
            refine .dgq_off rfl rfl rfl (.dgq_off rfl rfl rfl (.dgq_off rfl rfl rfl (.dgq_off rfl rfl rfl (.dgq_off rfl rfl rfl (.dge_offL rfl rfl rfl (HpLe.refl _) (X1 [0, 1, 2] rfl) (.dge_offL rfl rfl rfl (HpLe.refl _) (X1 [0, 1, 2] rfl) (.dge_offL rfl rfl rfl (HpLe.refl _) (X1 [0, 1, 2] rfl) (.dgq_off rfl rfl rfl (.go 1 ?_)))))))))
            exact (hb385 _ rfl).ax ⟨sval r393, rfl, rfl, rfl, rfl, rfl, rfl, rfl, rfl, rfl, rfl, trivial⟩
        ·intro hb394
         refine .block ?_
         refine .lp (fun y m => ∃ (Z0 : Nat) (Z1 : List (ByteArray × Int)), y = ⟨[(54, .int .i64 (Z0 : Int))], [], [], []⟩ ∧ Z1.length = m ∧ List.drop Z0 u313 = Z1 ∧ X3u (X2w (Xg (Xc x1 x0_1) x2 xs302 (i289 + 1)) v291) x301.1 x301.2 v295 v296 v297 Z1  = some r) [(8, _), (41, _), (1, _), (2, _), (3, _), (6, _), (39, _), (40, _), (10, _), (52, _), (53, _)] [_, _, _] [_] ⟨0, u313, rfl, rfl, rfl, r314⟩ (fun y m hI hb395 => ?_)
         obtain ⟨i396, w397, rfl, rfl, g398, r399⟩ := hI
         refine .gn 0 ?_
         cases w397 with
         | nil =>
          rw [X3u] at r399; try dsimp only at r399
          refine .go 5 ?_
          refine .cond_dec rfl (fun c => absurd c (X8 g398)) (fun _ => ?_)
          refine .exit rfl ?_
          exact (hb394 _ ⟨x301.1, x301.2, v295, v296, v297, rfl, r399⟩).ar
         | cons x400 xs401 =>
          have r402 : X6d (X2w (Xg (Xc x1 x0_1) x2 xs302 (i289 + 1)) v291) x301.1 x301.2 v295 v296 v297 (X3u (X2w (Xg (Xc x1 x0_1) x2 xs302 (i289 + 1)) v291) x301.1 x301.2 v295 v296 v297 xs401) x400  = some r := r399; clear r399; unfold X6d at r402; try dsimp only at r402
          refine .go 5 ?_
          refine .cond_dec rfl (fun _ => ?_) (fun c => absurd (Xf g398) c)
          refine .go 2 ?_
          refine .block (.go 2 ?_)
          obtain ⟨c403, p404, h405⟩ := SlR.get s318 (X2 g398)
          obtain ⟨_, _, rfl, rfl, rfl⟩ := h405
          refine .q .ro (.idxR s318 rfl rfl (X2 g398) sl32 ty69.sz) rfl (.q .ro (.load_rp_a [_, _] p404 mcs rfl ty69 rfl) rfl ?_)
          refine .alloc .ro ty69 rfl (fun b406 hb406 => ?_)
          refine .store 0 [_, _] [_, _, _, _] .ro rfl rfl rfl ty69 rfl rfl rfl rfl (.go 7 ?_)
          refine .q .ro (.eql_s rfl rfl) rfl (.go 1 ?_)
          refine .cH r402 (fun c407 r408 => ?_) (fun c407 r409 => ?_)
          ·refine .go 2 ?_
           refine .q .ro (.build [_, _, _, _] [] ty31 pl31 rfl rfl) rfl (.store 2 [_, _, _, _] [_, _, _, _] .ro rfl rfl rfl ty31 rfl rfl rfl rfl (.go 2 ?_))
           cases r408
           refine .drop 0 1 _ [] rfl rfl ?_
           refine .rW 4 [.cell 6 31, .tmp 7] [_, _] Tryz.func19 Tryz.results19 ⟨RV.cell_a 2 [_, _, _, _] rfl rfl ty31 rfl, RV.tmp rfl, trivial⟩ B0 hS0 (fun G' hg => ⟨none, 0, none, 0, rfl, rfl, rfl, (SlR.mono hg (SlR.nil (Rp' := (Rep.pair ri ri)))), (SlR.mono hg (SlR.nil (Rp' := (Rep.sl (Rep.pair Rep.str ri)))))⟩)
          ·refine .go 6 ?_
           refine .drop 1 0 [_, _, _] _ rfl rfl ?_
           exact (hb395 _ _ ⟨(i396 + 1), xs401, rfl, rfl, (X3 g398), r409⟩ (Nat.lt_succ_self _)).ax ⟨(congrArg (fun z => some (Value.int .i64 z)) (X7 (SlR.len s318) g398)), rfl, rfl, rfl, rfl, rfl, rfl, rfl, rfl, rfl, rfl, rfl, trivial⟩
  ·intro hb11
   refine .split 30 rfl (fun c10 => ?_) (fun c10 => ?_)
   ·refine .go 3 ?_
    exact (hb11 _ rfl).ax ⟨X3s c10, rfl, rfl, rfl, rfl, trivial⟩
   ·refine .go 5 ?_
    exact (hb11 _ rfl).ax ⟨X44 c10, rfl, rfl, rfl, rfl, trivial⟩
theorem Xff {x0 : Int} {r : Bool} (hG : G ∈ Fs)  (h : Xap x0 = some r) : RetS Tryz.prog 126 #[.int .i64 x0] Fs [] [] (rv (.bool r)) := by
 unfold Xap at h
 try dsimp only at h
 refine RetS.st [(0, _)] Tryz.func126 Tryz.ntmps126 hG fun w0 S0 hS0 B0 => ?_
 refine .go 9 ?_
 refine .kR (fun y => y = ⟨[(8, .bool (decide ((2 ≤ x0) ∧ (x0 ≤ 8))))], G :: Fs, [], []⟩) [(2, _)] [] [] [] [] 3 ?_ ?_
 ·rintro _ rfl
  refine .gn 2 ?_
  cases h
  refine .rS [.tmp 2] [_] Tryz.func126 Tryz.results126 ⟨rfl, rfl, rfl⟩
 ·intro hb2
  refine .split 5 rfl (fun c1 => ?_) (fun c1 => ?_)
  ·refine .go 5 ?_
   exact (hb2 _ rfl).ax ⟨X6w c1, rfl, trivial⟩
  ·refine .go 3 ?_
   exact (hb2 _ rfl).ax ⟨X6x c1, rfl, trivial⟩
theorem Xbr {x0 : ByteArray} {r : Bool} (hG : G ∈ Fs)  (h : X7k x0 = some r) : RetS Tryz.prog 103 #[.string x0] Fs [] [] (rv (.bool r)) := by
 unfold X7k at h
 try dsimp only at h
 refine RetS.st [(0, _)] Tryz.func103 Tryz.ntmps103 hG fun w0 S0 hS0 B0 => ?_
 refine .go 7 ?_
 refine .q .ro (.len_s rfl Tryz.underlying9) rfl (.go 2 ?_)
 refine .kR (fun y => y = ⟨[(10, .bool (decide ((1 ≤ (x0.size : Int)) ∧ ((x0.size : Int) ≤ 32))))], G :: Fs, [], []⟩) [(2, _)] [] [] [] [] 4 ?_ ?_
 ·rintro _ rfl
  refine .gn 2 ?_
  cases h
  refine .rS [.tmp 2] [_] Tryz.func103 Tryz.results103 ⟨rfl, rfl, rfl⟩
 ·intro hb2
  refine .split 6 rfl (fun c1 => ?_) (fun c1 => ?_)
  ·refine .go 3 ?_
   refine .q .ro (.len_s rfl Tryz.underlying9) rfl (.go 3 ?_)
   exact (hb2 _ rfl).ax ⟨X6w c1, rfl, trivial⟩
  ·refine .go 4 ?_
   exact (hb2 _ rfl).ax ⟨X6x c1, rfl, trivial⟩
theorem Xe7 {x0 : List ByteArray} {r : Bool} (hG : G ∈ Fs) (s0 : SlR Rep.str G a0 k0 x0) (h : X6f x0 = some r) : RetS Tryz.prog 127 #[.slice a0 x0.length k0] Fs [] [] (rv (.bool r)) := by
 unfold X6f at h
 try dsimp only at h
 refine RetS.st [(0, _)] Tryz.func127 Tryz.ntmps127 hG fun w0 S0 hS0 B0 => ?_
 refine .go 11 ?_
 refine .block ?_
 refine .lp (fun y m => ∃ (Z0 : Nat) (Z1 : List ByteArray), y = ⟨[(7, .int .i64 (Z0 : Int))], [], [], []⟩ ∧ Z1.length = m ∧ List.drop Z0 x0 = Z1 ∧ X2f x0 Z1 Z0  = some r) [(0, _), (5, _), (6, _)] [] [] ⟨0, x0, rfl, rfl, rfl, h⟩ (fun y m hI hb70 => ?_)
 obtain ⟨i66, w67, rfl, rfl, g68, r69⟩ := hI
 refine .gn 0 ?_
 cases w67 with
 | nil =>
  rw [X2f] at r69; try dsimp only at r69
  refine .go 5 ?_
  refine .cond_dec rfl (fun c => absurd c (X8 g68)) (fun _ => ?_)
  refine .exit rfl (.go 4 ?_)
  cases r69
  refine .rS [.tmp 2] [_] Tryz.func127 Tryz.results127 ⟨rfl, rfl, rfl⟩
 | cons x74 xs75 =>
  have r73 : X4x x0 (X2f x0 xs75 (i66 + 1)) x74 i66  = some r := r69; clear r69; unfold X4x at r73; try dsimp only at r73
  refine .go 5 ?_
  refine .cond_dec rfl (fun _ => ?_) (fun c => absurd (Xf g68) c)
  refine .go 2 ?_
  refine .block (.go 3 ?_)
  obtain ⟨c76, p77, h78⟩ := SlR.get s0 (X2 g68)
  obtain rfl := h78
  refine .q .ro (.idxR s0 rfl rfl (X2 g68) sl46 ty9.sz) rfl (.q .ro (.load_rp p77 mcs rfl ty9 rfl) rfl (.go 6 ?_))
  obtain ⟨u79, hu79, r80⟩ := X0 r73
  refine .cV [_] Tryz.call103 (Xbr mcs  hu79) ?_
  refine .go 2 ?_
  obtain ⟨u10, h11, r12⟩ := X0 r80
  refine .kR (fun y => y = ⟨[(27, .bool u10)], G :: Fs, [], []⟩) [(7, _), (0, _), (5, _), (6, _)] [] [] [] [] 12 ?_ ?_
  ·rintro _ rfl
   refine .gn 1 ?_
   refine .cB r12 (fun c13 r14 => ?_) (fun c13 r15 => ?_)
   ·refine .go 4 ?_
    cases r14
    refine .rS [.tmp 2] [_] Tryz.func127 Tryz.results127 ⟨rfl, rfl, rfl⟩
   ·refine .go 6 ?_
    exact (hb70 _ _ ⟨(i66 + 1), xs75, rfl, rfl, (X3 g68), r15⟩ (Nat.lt_succ_self _)).ax ⟨(congrArg (fun z => some (Value.int .i64 z)) (X7 (SlR.len s0) g68)), rfl, rfl, rfl, trivial⟩
  ·intro hb16
   refine .split_b 15 rfl (fun c17 => ?_) (fun c17 => ?_)
   ·have r18 := ifT h11 c17
    refine .go 3 ?_
    refine .gu_off rfl rfl (.gu_off rfl rfl (.gu_off rfl rfl (.gu_off rfl rfl (.gu_off rfl rfl (.gu_off rfl rfl (.gu_off rfl rfl (.go 2 ?_)))))))
    exact (hb16 _ rfl).ax ⟨sval r18, rfl, rfl, rfl, rfl, trivial⟩
   ·have r19 := ifBF h11 c17
    refine .go 6 ?_
    obtain ⟨u20, h21, r22⟩ := X0 r19
    refine .kR (fun y => y = ⟨[(26, .bool u20)], G :: Fs, [], []⟩) [(7, _), (0, _), (5, _), (6, _), (15, _), (16, _), (17, _)] [] [] [] [] 8 ?_ ?_
    ·rintro _ rfl
     refine .gn 1 ?_
     exact (hb16 _ rfl).ax ⟨sval r22, rfl, rfl, rfl, rfl, trivial⟩
    ·intro hb23
     refine .split 18 rfl (fun c24 => ?_) (fun c24 => ?_)
     ·have r25 := ifT h21 c24
      refine .go 9 ?_
      obtain ⟨u26, hu26, r27⟩ := X0 r25
      obtain ⟨c28, p29, h30⟩ := SlR.get s0 hu26
      obtain rfl := h30
      refine .q .ro (.idxR s0 rfl rfl hu26 sl46 ty9.sz) rfl (.go 1 ?_)
      refine .q .ro (.load_rp p29 mcs rfl ty9 rfl) rfl (.go 1 ?_)
      refine .q .ro (.leq_d rfl rfl) rfl (.go 2 ?_)
      exact (hb23 _ rfl).ax ⟨sval r27, rfl, rfl, rfl, rfl, rfl, rfl, rfl, trivial⟩
     ·have r31 := ifF h21 c24
      refine .go 9 ?_
      exact (hb23 _ rfl).ax ⟨sval r31, rfl, rfl, rfl, rfl, rfl, rfl, rfl, trivial⟩
end Go.Proofs.YtmfppphlhgneeaaGreat
end
