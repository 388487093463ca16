/- What the proof needs, gathered by wip/gen/shake.py. -/
import Derived.Calls
import Derived.Deep.Quiet
import Derived.Below
import Derived.Laws.AppendOwn
import Derived.WalkKit
import Derived.Laws.OwnMore
import Derived.Deep.Slices
import Derived.ChangeOld
import Derived.ArgAppend
import Derived.RangeFuncIn
import Derived.RangeFuncRecord
import Derived.RangeFuncLeaves
import Derived.Laws.MakeOwn
import Derived.IntWalk
import Derived.Laws.IdiomStrings
import Derived.Laws.Cover3
import Derived.Laws.CopyOwn
import Derived.MapKept
import Derived.RangeFuncNested
import Derived.Test.YtfcicopgdahmcaaGreatDoorRows
import Derived.LaidEql
import Derived.Stop.Asserts
import Derived.RowKitTokens
import Derived.Test.YtfcicopgdahmcaaGreatDoorCards
import Derived.LaidLaws
import Derived.Look8
import Derived.MakeChecks
import Derived.Test.YtfcicopgdahmcaaGreatDoorTie
import Derived.LaidMore
import Derived.Lay
import Derived.SevenTiedAt
import Derived.Stop.Joined
import Derived.ProofKit
import Derived.OpenShut
import Derived.ShutString
import Derived.Test.YtfcicopgdahmcaaGreatDoorTopBatchQ5

section
set_option maxHeartbeats 4000000
set_option maxRecDepth 100000
namespace Go.Proofs.YtfcicopgdahmcaaGreatDoor
open Go.RowKit
set_option linter.unusedSimpArgs false
set_option linter.unusedVariables false
set_option synthInstance.maxSize 2000
set_option synthInstance.maxHeartbeats 400000
theorem cuckoo_homes_c {Fs : List Hp} {G : Hp} {x0_0 : Int} {a0_1 : Option Addr} {k0_1 : Nat} {x0_1 : List (Int × Int)} {x1 : Int} {r : (List Int)} (hG : G ∈ Fs) (s0_1 : SlR (Rep.pair ri ri) G a0_1 k0_1 x0_1) (h : cuckoo_homes (x0_0, x0_1) x1 = some r) : RetS Tryz.prog 89 #[.agg #[.int .i64 x0_0, .slice a0_1 x0_1.length k0_1], .int .i64 x1] Fs [] [] (fun v bo so => ∃ (oa0 : Option Addr) (ok0 : Nat) (oc0 : List Value), v = .slice oa0 r.length ok0 ∧ bo = [] ∧ so = [.s (.slice oa0 r.length ok0) 3 1 r.length oc0] ∧ OL ri G oc0 r) := by
 unfold cuckoo_homes at h
 try dsimp only at h
 refine RetS.of (vs := [_, _]) Tryz.func89 rfl Tryz.ntmps89 [(0, _), (1, _)] ⟨rfl, rfl, trivial⟩ rfl hG fun w0 S0 hS0 B0 => ?_
 refine .seq (.region rfl ?_)
 refine .box [_, _] .ro rfl rfl rfl (fun b1 hb1 => ?_)
 refine .av rfl rfl (.re (.seq (.region rfl (.av rfl rfl (.re (.seq (.seq (.region rfl (.q .ro (.fieldAddr 1 rfl fl83_1 ty81.sz rfl) rfl (.q .ro (.load_own 0 rfl rfl ty81 rfl) rfl (.q .ro (.len_sl rfl rfl sl81) rfl (.mv rfl rfl (.re (.block (.own_nil 3 1 ?_)))))))))))))))
 refine .loop2 (α := Nat × (List (Int × Int)) × List Int × Option Addr × Nat × List Value) (fun y => [(5, .slice y.2.2.2.1 y.2.2.1.length y.2.2.2.2.1), (11, .int .i64 (y.1 : Int))]) [(1, _), (2, _), (9, _), (10, _)] (fun y => []) (fun y => []) [_] (fun y => [.s (.slice y.2.2.2.1 y.2.2.1.length y.2.2.2.2.1) 3 1 y.2.2.1.length y.2.2.2.2.2]) [] (fun y => OL ri G y.2.2.2.2.2 y.2.2.1 ∧ List.drop y.1 x0_1 = y.2.1 ∧ cuckoo_homes_L1 x1 x0_0 y.2.1 y.2.2.1 = some r) (fun y => y.2.1.length) (0, x0_1, ([] : List Int), none, 0, []) ⟨(OL.nil (Rp' := ri)), rfl, h⟩ ⟨rfl, rfl, rfl, rfl, rfl, rfl, trivial⟩ rfl rfl rfl (fun y hI hb66 => ?_)
 obtain ⟨i56, w57, v59, a60, k61, cs62⟩ := y
 obtain ⟨o63, g58, r65⟩ := hI
 try dsimp only at o63 g58 r65
 refine .prune [(5, .slice a60 v59.length k61), (11, .int .i64 (i56 : Int)), (1, _), (2, _), (9, _), (10, _)] ⟨rfl, rfl, rfl, rfl, rfl, rfl, trivial⟩ (.same (bl' := [_]) (sl' := [.s (.slice a60 v59.length k61) 3 1 v59.length cs62]) (Fs' := G :: Fs) rfl rfl rfl ?_)
 cases w57 with
 | nil =>
  rw [cuckoo_homes_L1] at r65; try dsimp only at r65
  refine .seq (.region rfl (.q .ro (.lss rfl rfl) rfl (.re (.seq ?_))))
  refine .cond_dec rfl (fun c => absurd c (drop_nil g58)) (fun _ => ?_)
  refine .exit rfl (.seq (.region rfl (.mv rfl rfl (.av rfl rfl (.re ?_)))))
  cases r65
  refine .drop 1 0 [] _ rfl rfl ?_
  refine .retS (.inr ⟨_, rfl⟩) [.tmp 4] [_] rfl Tryz.func89 Tryz.results89 ⟨RV.tmp rfl, trivial⟩ mcm ⟨a60, k61, cs62, rfl, rfl, rfl, o63⟩
 | cons x72 xs73 =>
  have r71 : cuckoo_homes_B1 x1 x0_0 (cuckoo_homes_L1 x1 x0_0 xs73) x72 v59 = some r := r65; clear r65; unfold cuckoo_homes_B1 at r71; try dsimp only at r71
  refine .seq (.region rfl (.q .ro (.lss rfl rfl) rfl (.re (.seq ?_))))
  refine .cond_dec rfl (fun _ => ?_) (fun c => absurd (drop_lt g58) c)
  refine .skip (.seq (.block (.seq (.region rfl ?_))))
  obtain ⟨c74, p75, h76⟩ := SlR.get s0_1 (drop_idx g58)
  obtain ⟨_, _, rfl, rfl, rfl⟩ := h76
  refine .q .ro (.idxR s0_1 rfl rfl (drop_idx g58) sl81 ty168.sz) rfl (.q .ro (.load_rp_a [_, _] p75 mcs rfl ty168 rfl) rfl ?_)
  refine .alloc .ro ty168 rfl (fun b77 hb77 => ?_)
  refine .store 0 [_, _] [_, _] .ro rfl rfl rfl ty168 rfl rfl rfl rfl (.re (.region rfl (.mv rfl rfl (.q .ro (.fieldAddr 0 rfl fl168_0 ty3.sz rfl) rfl (.q .ro (.load_own 0 rfl rfl ty3 rfl) rfl (.mv rfl rfl (.q .ro (.mulw rfl rfl) rfl (.q .ro (.fieldAddr 1 rfl fl168_1 ty3.sz rfl) rfl (.q .ro (.load_own 0 rfl rfl ty3 rfl) rfl (.q .ro (.addw rfl rfl) rfl (.q .ro (.remt rfl rfl (by decide)) rfl (.q .ro (.fieldAddr 0 rfl fl83_0 ty3.sz rfl) rfl (.q .ro (.load_own 1 rfl rfl ty3 rfl) rfl ?_)))))))))))))
  obtain ⟨u78, hu78, r79⟩ := bind_some r71
  refine .q .ro (.remt rfl rfl (nz_some hu78)) rfl ?_
  refine .lit [_] [(0, _)] .ro sl22 ty3 rfl rfl rfl rfl rfl rfl (fun b80 hb80 => ?_)
  have o81 : OL ri G [.int .i64 (Int.tmod (Int.tmod (w64 ((w64 (x72.1 * x1)) + x72.2)) 2147483647) x0_0)] ([(Int.tmod (Int.tmod (w64 ((w64 (x72.1 * x1)) + x72.2)) 2147483647) x0_0)] : List Int) := ((OL.cons rfl (Rep.intI .i64 (Int.tmod (Int.tmod (w64 ((w64 (x72.1 * x1)) + x72.2)) 2147483647) x0_0)) (OL.nil (Rp' := ri))) :)
  refine .reval 27 (n' := ([(Int.tmod (Int.tmod (w64 ((w64 (x72.1 * x1)) + x72.2)) 2147483647) x0_0)] : List Int).length) rfl rfl ?_
  obtain ⟨u87, hu87, r88⟩ := bind_some r79
  refine .appO (Q := ri) 0 .ro sl22 ty3 rfl rfl rfl rfl rfl rfl o63 o81 rfl rfl rfl B0 hu87 rfl (fun a83 k84 cs85 o86 => ?_)
  refine .av rfl rfl (.re (.prune [(5, _), (11, _), (1, _), (2, _), (9, _), (10, _)] ⟨rfl, rfl, rfl, rfl, rfl, rfl, trivial⟩ (.inBlock (.region rfl (.q .ro (.addw rfl rfl) rfl (.mv rfl rfl (.re (.drop 1 0 [_] _ rfl rfl ?_))))))))
  exact .arr (hb66 ((i56 + 1), xs73, u87, a83, k84, cs85) ⟨o86, (drop_succ g58), r88⟩ (Nat.lt_succ_self _)) ⟨rfl, (congrArg (fun z => some (Value.int .i64 z)) (idx_wrap (SlR.len s0_1) g58)), rfl, rfl, rfl, rfl, trivial⟩
theorem cuckoo_Layout_c {Fs : List Hp} {G : Hp} {x0_0 : Int} {a0_1 : Option Addr} {k0_1 : Nat} {x0_1 : List (Int × Int)} {x1 : Int} {r : ((List (List Int)) × Int)} (hG : G ∈ Fs) (s0_1 : SlR (Rep.pair ri ri) G a0_1 k0_1 x0_1) (h : cuckoo_Layout (x0_0, x0_1) x1 = some r) : RetW Tryz.prog 34 #[.agg #[.int .i64 x0_0, .slice a0_1 x0_1.length k0_1], .int .i64 x1] Fs [] [] (fun v bo so G => ∃ a0 : Option Addr, ∃ k0 : Nat, v = .tuple #[.slice a0 r.1.length k0, .int .i64 r.2] ∧ bo = [] ∧ so = [] ∧ SlR (Rep.sl ri) G a0 k0 r.1) := by
 unfold cuckoo_Layout at h
 try dsimp only at h
 refine RetW.of (vs := [_, _]) Tryz.func34 rfl Tryz.ntmps34 [(0, _), (1, _)] ⟨rfl, rfl, trivial⟩ rfl hG fun w0 S0 hS0 B0 => ?_
 refine .seq (.region rfl ?_)
 refine .box [_, _] .ro rfl rfl rfl (fun b1 hb1 => ?_)
 refine .av rfl rfl (.av rfl rfl (.re (.seq (.seq (.region rfl (.q .ro (.load_own_a 0 [_, _] rfl rfl ty83 rfl) rfl ?_))))))
 obtain ⟨u2, hu2, r3⟩ := bind_some h
 refine .callS (b1 := []) (b2 := [_]) (s1 := []) [_] [] .ro rfl rfl Tryz.call88 rfl rfl (cuckoo_Check_c (G := G) mcs s0_1 hu2) rfl (fun v5 bo so h4 => ?_)
 obtain ⟨rfl, rfl, rfl⟩ := h4
 refine .same (bl' := [_]) (sl' := []) rfl rfl rfl (.av rfl rfl (.re (.seq (.region rfl (.mv rfl rfl (.q .ro (.neq rfl rfl) rfl (.re ?_)))))))
 refine .cond_dec rfl (fun c6 => ?_) (fun c6 => ?_)
 ·have r7 := ifT r3 c6; clear r3
  refine .seq (.region rfl (.mv rfl rfl (.av rfl rfl (.av rfl rfl (.re ?_)))))
  cases r7
  refine .drop 1 0 [] _ rfl rfl ?_
  refine .retW (.inr ⟨_, rfl⟩) [.tmp 4, .tmp 5] [_, _] rfl Tryz.func34 Tryz.results34 ⟨RV.tmp rfl, RV.tmp rfl, trivial⟩ mcm mcs B0 (by subst hS0; simp [blks]) (fun G' hg => ⟨none, 0, rfl, rfl, rfl, (SlR.mono hg (SlR.nil (Rp' := (Rep.sl ri))))⟩)
 ·have r8 := ifF r3 c6; clear r3
  refine .skip (.seq (.seq (.region rfl (.mv rfl rfl (.q .ro (.lss rfl rfl) rfl (.mv rfl rfl ?_))))))
  refine .cutR 3 (β := Unit) (fun y => [(22, .bool (decide ((x1 < 0) ∨ (1024 < x1))))]) [(1, _), (2, _)] (fun y => G :: Fs) (fun y => []) [_] (fun y => []) [] (fun y => True) ⟨rfl, rfl, trivial⟩ [0] rfl [] rfl ?_ ?_
  ·rintro _ _
   refine .prune [(22, .bool (decide ((x1 < 0) ∨ (1024 < x1)))), (1, _), (2, _)] ⟨rfl, rfl, rfl, trivial⟩ (.same (bl' := [_]) (sl' := []) (Fs' := G :: Fs) rfl rfl rfl (.re ?_))
   refine .cond_dec rfl (fun c13 => ?_) (fun c13 => ?_)
   ·have r14 := ifT r8 c13; clear r8
    refine .seq (.region rfl (.av rfl rfl (.av rfl rfl (.re ?_))))
    cases r14
    refine .drop 1 0 [] _ rfl rfl ?_
    refine .retW (.inr ⟨_, rfl⟩) [.tmp 4, .tmp 5] [_, _] rfl Tryz.func34 Tryz.results34 ⟨RV.tmp rfl, RV.tmp rfl, trivial⟩ mcm mcs B0 (by subst hS0; simp [blks]) (fun G' hg => ⟨none, 0, rfl, rfl, rfl, (SlR.mono hg (SlR.nil (Rp' := (Rep.sl ri))))⟩)
   ·have r15 := ifF r8 c13; clear r8
    refine .skip (.seq (.region rfl (.q .ro (.fieldAddr 0 rfl fl83_0 ty3.sz rfl) rfl (.q .ro (.load_own 0 rfl rfl ty3 rfl) rfl ?_))))
    obtain ⟨u16, hu16, r17⟩ := bind_some r15
    refine .makeN (G := G) (Q := ri) 3 1 .ro sl51 ty22 rfl rfl hu16 rfl rfl (fun b18 es19 cs20 hb18 o21 => ?_)
    refine .av rfl rfl (.re (.seq (.seq (.region rfl (.mv rfl rfl (.mv rfl rfl (.re (.block (.pullS 1 rfl [_, _] rfl (.pullS 1 rfl [_, _] rfl ?_))))))))))
    refine .loop2 (α := Nat × Hp × Int × List (List Int) × List NE × List Value × Int) (fun y => [(27, .int .i64 y.2.2.1), (7, .slice (some ⟨b18, 0, none⟩) y.2.2.2.1.length u16.length)]) [(2, _), (26, _)] (fun y => [y.2.1]) (fun y => [(b1, .cells #[.int .i64 y.2.2.2.2.2.2, .slice a0_1 x0_1.length k0_1] 83 (0, 0))]) [] (fun y => [.s (.slice (some ⟨b18, 0, none⟩) y.2.2.2.1.length u16.length) 22 1 y.2.2.2.1.length y.2.2.2.2.2.1, .g (packG 3 1 y.2.2.2.2.1)]) [] (fun y => HpLe G y.2.1 ∧ Bd w0 S0 Fs y.2.1 ∧ NL ri y.2.1 y.2.2.2.2.1 y.2.2.2.2.2.1 y.2.2.2.1 ∧ y.2.2.2.1.length = u16.length ∧ cuckoo_Layout_L2 x1 x0_1 y.1 y.2.2.1 y.2.2.2.1 y.2.2.2.2.2.2 = some r) (fun y => y.1) (big, G, 0, u16, es19, cs20, x0_0) ⟨(HpLe.refl _), B0, o21, rfl, r17⟩ ⟨rfl, rfl, rfl, rfl, trivial⟩ rfl rfl rfl (fun y hI hb11 => ?_)
    obtain ⟨n12, G23, v24, v25, es26, cs27, v28⟩ := y
    obtain ⟨e29, B30, o31, hl32, r33⟩ := hI
    try dsimp only at e29 B30 o31 hl32 r33
    refine .prune [(27, .int .i64 v24), (7, .slice (some ⟨b18, 0, none⟩) v25.length u16.length), (2, _), (26, _)] ⟨rfl, rfl, rfl, rfl, trivial⟩ (.same (bl' := [(b1, .cells #[.int .i64 v28, .slice a0_1 x0_1.length k0_1] 83 (0, 0))]) (sl' := [.s (.slice (some ⟨b18, 0, none⟩) v25.length u16.length) 22 1 v25.length cs27, .g (packG 3 1 es26)]) (Fs' := G23 :: Fs) rfl rfl rfl ?_)
    obtain ⟨m35, rfl⟩ : ∃ m, n12 = m + 1 := by cases n12 with | zero => exact absurd (show (none : Option _) = some _ from r33) (by simp) | succ m => exact ⟨m, rfl⟩
    have r36 : cuckoo_Layout_B2 x1 x0_1 (cuckoo_Layout_L2 x1 x0_1 m35) v24 v25 v28 = some r := r33; clear r33; unfold cuckoo_Layout_B2 at r36; try dsimp only at r36
    refine .seq (.region rfl (.q .ro (.lss rfl rfl) rfl (.re (.seq ?_))))
    refine .cond_dec rfl (fun c37 => ?_) (fun c37 => ?_)
    ·have r38 := ifT r36 c37; clear r36
     refine .skip (.seq (.block (.seq (.region rfl (.mv rfl rfl (.av rfl rfl (.re (.seq (.region rfl (.q .ro (.load_own_a 0 [_, _] rfl rfl ty83 rfl) rfl (.mv rfl rfl ?_)))))))))))
     obtain ⟨u39, hu39, r40⟩ := bind_some r38
     refine .callS (b1 := []) (b2 := [_]) (s1 := []) [_, _] [] .ro rfl rfl Tryz.call89 rfl rfl (cuckoo_homes_c (G := G23) mcs (SlR.mono e29 s0_1) hu39) rfl (fun v41 bo so h42 => ?_)
     obtain ⟨a43, k44, cs45, rfl, rfl, rfl, o46⟩ := h42
     refine .same (bl' := [_]) (sl' := [_, _, _]) rfl rfl rfl (.q .ro (.len_sl rfl rfl sl22) rfl (.mv rfl rfl (.re (.block (.pullS 2 rfl [_, _, _] rfl (.pullS 2 rfl [_, _, _] rfl ?_))))))
     refine .loop2 (α := Nat × List Int × Hp × List (List Int) × List NE × List Value) (fun y => [(7, .slice (some ⟨b18, 0, none⟩) y.2.2.2.1.length u16.length), (34, .int .i64 (y.1 : Int))]) [(27, _), (2, _), (26, _), (8, _), (32, _), (33, _)] (fun y => [y.2.2.1]) (fun y => []) [_] (fun y => [.s (.slice (some ⟨b18, 0, none⟩) y.2.2.2.1.length u16.length) 22 1 y.2.2.2.1.length y.2.2.2.2.2, .g (packG 3 1 y.2.2.2.2.1)]) [_] (fun y => HpLe G23 y.2.2.1 ∧ Bd w0 S0 Fs y.2.2.1 ∧ NL ri y.2.2.1 y.2.2.2.2.1 y.2.2.2.2.2 y.2.2.2.1 ∧ y.2.2.2.1.length = u16.length ∧ List.drop y.1 u39 = y.2.1 ∧ cuckoo_Layout_L1 (cuckoo_Layout_L2 x1 x0_1 m35) v24 v28 y.2.1 y.2.2.2.1 = some r) (fun y => y.2.1.length) (0, u39, G23, v25, es26, cs27) ⟨(HpLe.refl _), B30, o31, hl32, rfl, r40⟩ ⟨rfl, rfl, rfl, rfl, rfl, rfl, rfl, rfl, trivial⟩ rfl rfl rfl (fun y hI hb47 => ?_)
     obtain ⟨i48, w49, G50, v52, es53, cs54⟩ := y
     obtain ⟨e55, B56, o57, hl58, g59, r60⟩ := hI
     try dsimp only at e55 B56 o57 hl58 g59 r60
     refine .prune [(7, .slice (some ⟨b18, 0, none⟩) v52.length u16.length), (34, .int .i64 (i48 : Int)), (27, _), (2, _), (26, _), (8, _), (32, _), (33, _)] ⟨rfl, rfl, rfl, rfl, rfl, rfl, rfl, rfl, trivial⟩ (.same (bl' := [_]) (sl' := [.s (.slice (some ⟨b18, 0, none⟩) v52.length u16.length) 22 1 v52.length cs54, .g (packG 3 1 es53), _]) (Fs' := G50 :: Fs) rfl rfl rfl ?_)
     cases w49 with
     | nil =>
      rw [cuckoo_Layout_L1] at r60; try dsimp only at r60
      refine .seq (.region rfl (.q .ro (.lss rfl rfl) rfl (.re (.seq ?_))))
      refine .cond_dec rfl (fun c => absurd c (drop_nil g59)) (fun _ => ?_)
      refine .exit rfl (.inBlock (.region rfl (.q .ro (.addw rfl rfl) rfl (.mv rfl rfl (.re (.pullS 1 rfl [_, _, _] rfl (.pullS 1 rfl [_, _, _] rfl (.pullS 2 rfl [_, _, _] rfl (.drop 0 1 _ [_, _] rfl rfl ?_)))))))))
      exact .arr (hb11 (m35, G50, (w64 (v24 + 1)), v52, es53, cs54, v28) ⟨(HpLe.trans e29 e55), B56, o57, hl58, r60⟩ (Nat.lt_succ_self _)) ⟨rfl, rfl, rfl, rfl, trivial⟩
     | cons x61 xs62 =>
      have r63 : cuckoo_Layout_B1 (cuckoo_Layout_L2 x1 x0_1 m35) v24 v28 (cuckoo_Layout_L1 (cuckoo_Layout_L2 x1 x0_1 m35) v24 v28 xs62) x61 v52 = some r := r60; clear r60; unfold cuckoo_Layout_B1 at r63; try dsimp only at r63
      refine .seq (.region rfl (.q .ro (.lss rfl rfl) rfl (.re (.seq ?_))))
      refine .cond_dec rfl (fun _ => ?_) (fun c => absurd (drop_lt g59) c)
      refine .skip (.seq (.block (.seq (.region rfl ?_))))
      obtain ⟨c65, p66, h67⟩ := OL.get (OL.mono e55 o46) (drop_idx g59)
      obtain rfl := h67
      refine .q .ro (.idxO 2 rfl rfl rfl (drop_idx g59) sl22 ty3.sz) rfl (.q .ro (.loadO 2 0 rfl (drop_idx g59) p66 rfl (.inl ⟨rfl, rfl⟩) ty3 rfl) rfl (.av rfl rfl (.re (.seq (.region rfl (.mv rfl rfl (.mv rfl rfl ?_)))))))
      obtain ⟨u68, hu68, r69⟩ := bind_some r63
      obtain ⟨e70, he71, hn72, ho73, p74⟩ := NL.get o57 hu68
      refine .q .ro (.idxO 0 rfl rfl rfl hu68 sl51 ty22.sz) rfl (.q .ro (.loadO 0 0 rfl hu68 p74 rfl (.inl ⟨rfl, rfl⟩) ty22 rfl) rfl (.av rfl rfl (.re (.seq (.region rfl (.mv rfl rfl (.q .ro (.len_sl rfl rfl sl22) rfl (.q .ro (.eql rfl rfl) rfl (.mv rfl rfl ?_)))))))))
      obtain ⟨u75, h76, r77⟩ := bind_some r69
      refine .cutR 9 (β := Unit) (fun y => [(54, .bool u75)]) [(7, _), (34, _), (27, _), (2, _), (26, _), (8, _), (32, _), (33, _), (10, _), (11, _)] (fun y => G50 :: Fs) (fun y => []) [_] (fun y => []) [_, _, _] (fun y => True) ⟨rfl, rfl, rfl, rfl, rfl, rfl, rfl, rfl, rfl, rfl, trivial⟩ [0] rfl [0, 1, 2] rfl ?_ ?_
      ·rintro _ _
       refine .prune [(54, .bool u75), (7, _), (34, _), (27, _), (2, _), (26, _), (8, _), (32, _), (33, _), (10, _), (11, _)] ⟨rfl, rfl, rfl, rfl, rfl, rfl, rfl, rfl, rfl, rfl, rfl, trivial⟩ (.same (bl' := [_]) (sl' := [_, _, _]) (Fs' := G50 :: Fs) rfl rfl rfl (.re ?_))
       refine .cond rfl (fun c78 => ?_) (fun c78 => ?_)
       ·have r79 := ifT r77 c78; clear r77
        refine .region rfl (.mv rfl rfl (.mv rfl rfl (.mv rfl rfl (.mv rfl rfl ?_))))
        refine .lit [_] [(0, _)] .ro sl22 ty3 rfl rfl rfl rfl rfl rfl (fun b80 hb80 => ?_)
        have o81 : OL ri G50 [.int .i64 v24] ([v24] : List Int) := ((OL.cons rfl (Rep.intI .i64 v24) (OL.nil (Rp' := ri))) :)
        refine .reval 59 (n' := ([v24] : List Int).length) rfl rfl ?_
        refine .freezeR 0 rfl rfl o81 [_, _, _] rfl B56 (fun G82 e84 B85 s86 => ?_)
        refine .takeN 1 rfl he71 hn72 ?_
        obtain ⟨u87, hu87, r90⟩ := bind_some r79
        refine .appR (Q := ri) 0 .ro sl22 ty3 rfl rfl rfl rfl rfl (OL.mono e84 ho73) rfl rfl s86 rfl mcs hu87 rfl (fun a91 k92 cs93 o94 => ?_)
        obtain ⟨u95, hu95, r96⟩ := bind_some r90
        obtain ⟨e97, he98, hn99, ho100, p101⟩ := NL.get (NL.mono e84 o57) hu95
        refine .q .ro (.idxO 1 rfl rfl rfl hu95 sl51 ty22.sz) rfl ?_
        obtain ⟨u102, hu102, r103⟩ := bind_some r96
        refine .storeN 0 1 (Q := ri) .ro rfl rfl rfl (NL.mono e84 o57) he71 o94 hu102 rfl (.inl ⟨rfl, rfl⟩) rfl ty22 rfl (fun es104 cs105 hlcs105 o106 => ?_)
        refine .reval 7 hlcs105 rfl (.reval 55 hlcs105 rfl (.re (.inBlock (.region rfl (.q .ro (.addw rfl rfl) rfl (.mv rfl rfl (.re ?_)))))))
        exact .arr (hb47 ((i48 + 1), xs62, G82, u102, es104, cs105) ⟨(HpLe.trans e55 e84), B85, o106, (hlcs105.trans hl58), (drop_succ g59), r103⟩ (Nat.lt_succ_self _)) ⟨rfl, (congrArg (fun z => some (Value.int .i64 z)) (idx_wrap (OL.len' o46) g59)), rfl, rfl, rfl, rfl, rfl, rfl, trivial⟩
       ·have r107 := ifBF r77 c78; clear r77
        refine .skip (.inBlock (.region rfl (.q .ro (.addw rfl rfl) rfl (.mv rfl rfl (.re ?_)))))
        exact .arr (hb47 ((i48 + 1), xs62, G50, v52, es53, cs54) ⟨e55, B56, o57, hl58, (drop_succ g59), r107⟩ (Nat.lt_succ_self _)) ⟨rfl, (congrArg (fun z => some (Value.int .i64 z)) (idx_wrap (OL.len' o46) g59)), rfl, rfl, rfl, rfl, rfl, rfl, trivial⟩
      ·intro hb108
       refine .split 45 rfl (fun c109 => ?_) (fun c109 => ?_)
       ·have r110 := ifT h76 c109
        refine .g_off rfl rfl rfl (.g_off rfl rfl rfl (.g_off rfl rfl rfl (.g_off rfl rfl rfl (.g_off rfl rfl rfl (.g_off rfl rfl rfl (.g_off rfl rfl rfl (.g_off rfl rfl rfl (.q .ro (.pick_t rfl rfl) rfl ?_))))))))
        exact .arr (hb108 () trivial) ⟨sval r110, rfl, rfl, rfl, rfl, rfl, rfl, rfl, rfl, rfl, rfl, trivial⟩
       ·have r111 := ifF h76 c109
        refine .g_on rfl (.mv rfl rfl (.g_on rfl (.mv rfl rfl (.g_on rfl (.q .ro (.len_sl rfl rfl sl22) rfl (.g_on rfl (.q .ro (.subw rfl rfl) rfl (.g_on rfl ?_))))))))
        obtain ⟨u112, hu112, r113⟩ := bind_some r111
        obtain ⟨c114, p115, h116⟩ := OL.get ho73 hu112
        obtain rfl := h116
        refine .q .ro (.inN 1 rfl he71 hn72 (.idxO (l := u68) 0 rfl rfl rfl hu112 sl22 ty3.sz)) rfl (.g_on rfl (.q .ro (.inN 1 rfl he71 hn72 (.loadO (l := u68) 0 0 rfl hu112 p115 rfl (.inl ⟨rfl, rfl⟩) ty3 rfl)) rfl (.g_on rfl (.mv rfl rfl (.g_on rfl (.q .ro (.neq rfl rfl) rfl (.q .ro (.pick_f rfl rfl) rfl ?_)))))))
        exact .arr (hb108 () trivial) ⟨sval r113, rfl, rfl, rfl, rfl, rfl, rfl, rfl, rfl, rfl, rfl, trivial⟩
    ·have r117 := ifF r36 c37; clear r36
     refine .exit rfl (.seq (.region rfl (.mv rfl rfl (.av rfl rfl (.av rfl rfl (.re (.pullS 1 rfl [_, _] rfl (.pullS 1 rfl [_, _] rfl ?_))))))))
     refine .freezeN (Q := ri) rfl o31 rfl B30 (fun G118 e119 B120 s121 => ?_)
     cases r117
     refine .drop 1 0 [] _ rfl rfl ?_
     refine .retW (.inr ⟨_, rfl⟩) [.tmp 4, .tmp 5] [_, _] rfl Tryz.func34 Tryz.results34 ⟨RV.tmp rfl, RV.tmp rfl, trivial⟩ mcm mcs B120 (by subst hS0; simp [blks]) (fun G' hg => ⟨(some ⟨b18, 0, none⟩), u16.length, rfl, rfl, rfl, (SlR.mono hg s121)⟩)
  ·intro hb10
   refine .split 19 rfl (fun c9 => ?_) (fun c9 => ?_)
   ·refine .g_off rfl rfl rfl ?_
    refine .g_off rfl rfl rfl (.q .ro (.pick_t rfl rfl) rfl ?_)
    exact .arr (hb10 () trivial) ⟨dor_t c9, rfl, rfl, trivial⟩
   ·refine .g_on rfl ?_
    refine .mv rfl rfl (.g_on rfl (.q .ro (.gtr rfl rfl) rfl (.q .ro (.pick_f rfl rfl) rfl ?_)))
    exact .arr (hb10 () trivial) ⟨dor_f c9, rfl, rfl, trivial⟩
theorem cuckoo_item_c {Fs : List Hp} {G : Hp} {x0 : Int} {r : Bool} (hG : G ∈ Fs)  (h : cuckoo_item x0 = some r) : RetS Tryz.prog 133 #[.int .i64 x0] Fs [] [] (fun v bo so => v = .bool r ∧ bo = [] ∧ so = []) := by
 unfold cuckoo_item at h
 try dsimp only at h
 refine RetS.of (vs := [_]) Tryz.func133 rfl Tryz.ntmps133 [(0, _)] ⟨rfl, trivial⟩ rfl hG fun w0 S0 hS0 B0 => ?_
 refine .seq (.region rfl (.av rfl rfl (.re (.seq (.region rfl (.mv rfl rfl (.q .ro (.geq rfl rfl) rfl (.mv rfl rfl ?_))))))))
 refine .cutR 3 (β := Unit) (fun y => [(8, .bool (decide ((0 ≤ x0) ∧ (x0 < 2147483647))))]) [(2, _)] (fun y => G :: Fs) (fun y => []) [] (fun y => []) [] (fun y => True) ⟨rfl, trivial⟩ [] rfl [] rfl ?_ ?_
 ·rintro _ _
  refine .prune [(8, .bool (decide ((0 ≤ x0) ∧ (x0 < 2147483647)))), (2, _)] ⟨rfl, rfl, trivial⟩ (.same (bl' := []) (sl' := []) (Fs' := G :: Fs) rfl rfl rfl (.av rfl rfl (.re ?_)))
  cases h
  refine .retS (.inr ⟨_, rfl⟩) [.tmp 2] [_] rfl Tryz.func133 Tryz.results133 ⟨RV.tmp rfl, trivial⟩ mcm ⟨rfl, rfl, rfl⟩
 ·intro hb2
  refine .split 5 rfl (fun c1 => ?_) (fun c1 => ?_)
  ·refine .g_on rfl ?_
   refine .mv rfl rfl (.g_on rfl (.q .ro (.lss rfl rfl) rfl (.q .ro (.pick_t rfl rfl) rfl ?_)))
   exact .arr (hb2 () trivial) ⟨dand_t c1, rfl, trivial⟩
  ·refine .g_off rfl rfl rfl ?_
   refine .g_off rfl rfl rfl (.q .ro (.pick_f rfl rfl) rfl ?_)
   exact .arr (hb2 () trivial) ⟨dand_f c1, rfl, trivial⟩
theorem cuckoo_asked_f1_c {Fs : List Hp} {G : Hp} {x0 : Int} {r : Bool} (hG : G ∈ Fs)  (h : cuckoo_asked_f1 x0 = some r) : RetS Tryz.prog 132 #[.int .i64 x0] Fs [] [] (fun v bo so => v = .bool r ∧ bo = [] ∧ so = []) := by
 unfold cuckoo_asked_f1 at h
 try dsimp only at h
 refine RetS.of (vs := [_]) Tryz.func132 rfl Tryz.ntmps132 [(0, _)] ⟨rfl, trivial⟩ rfl hG fun w0 S0 hS0 B0 => ?_
 refine .seq (.region rfl (.av rfl rfl (.re (.seq (.region rfl (.mv rfl rfl ?_))))))
 obtain ⟨u1, hu1, r2⟩ := bind_some h
 refine .callS (b1 := []) (b2 := []) (s1 := []) [_] [] .ro rfl rfl Tryz.call133 rfl rfl (cuckoo_item_c (G := G) mcs  hu1) rfl (fun v4 bo so h3 => ?_)
 obtain ⟨rfl, rfl, rfl⟩ := h3
 refine .same (bl' := []) (sl' := []) rfl rfl rfl (.q .ro (.not rfl) rfl (.av rfl rfl (.re ?_)))
 cases r2
 refine .retS (.inr ⟨_, rfl⟩) [.tmp 2] [_] rfl Tryz.func132 Tryz.results132 ⟨RV.tmp rfl, trivial⟩ mcm ⟨rfl, rfl, rfl⟩
theorem cuckoo_asked_c {Fs : List Hp} {G : Hp} {x0_0 : Int} {a0_1 : Option Addr} {k0_1 : Nat} {x0_1 : List (Int × Int)} {a1 : Option Addr} {k1 : Nat} {x1 : List Int} {r : Int} (hG : G ∈ Fs) (s0_1 : SlR (Rep.pair ri ri) G a0_1 k0_1 x0_1) (s1 : SlR ri G a1 k1 x1) (h : cuckoo_asked (x0_0, x0_1) x1 = some r) : RetS Tryz.prog 90 #[.agg #[.int .i64 x0_0, .slice a0_1 x0_1.length k0_1], .slice a1 x1.length k1] Fs [] [] (fun v bo so => v = .int .i64 r ∧ bo = [] ∧ so = []) := by
 unfold cuckoo_asked at h
 try dsimp only at h
 refine RetS.of (vs := [_, _]) Tryz.func90 rfl Tryz.ntmps90 [(0, _), (1, _)] ⟨rfl, rfl, trivial⟩ rfl hG fun w0 S0 hS0 B0 => ?_
 refine .seq (.region rfl ?_)
 refine .box [_, _] .ro rfl rfl rfl (fun b1 hb1 => ?_)
 refine .av rfl rfl (.re (.seq (.seq (.region rfl (.q .ro (.load_own_a 0 [_, _] rfl rfl ty83 rfl) rfl ?_)))))
 obtain ⟨u2, hu2, r3⟩ := bind_some h
 refine .callS (b1 := []) (b2 := [_]) (s1 := []) [_] [] .ro rfl rfl Tryz.call88 rfl rfl (cuckoo_Check_c (G := G) mcs s0_1 hu2) rfl (fun v5 bo so h4 => ?_)
 obtain ⟨rfl, rfl, rfl⟩ := h4
 refine .same (bl' := [_]) (sl' := []) rfl rfl rfl (.av rfl rfl (.re (.seq (.region rfl (.mv rfl rfl (.q .ro (.neq rfl rfl) rfl (.re ?_)))))))
 refine .cond_dec rfl (fun c6 => ?_) (fun c6 => ?_)
 ·have r7 := ifT r3 c6; clear r3
  refine .seq (.region rfl (.mv rfl rfl (.av rfl rfl (.re ?_))))
  cases r7
  refine .drop 1 0 [] _ rfl rfl ?_
  refine .retS (.inr ⟨_, rfl⟩) [.tmp 4] [_] rfl Tryz.func90 Tryz.results90 ⟨RV.tmp rfl, trivial⟩ mcm ⟨rfl, rfl, rfl⟩
 ·have r8 := ifF r3 c6; clear r3
  refine .skip (.seq (.seq (.region rfl (.mv rfl rfl ?_))))
  obtain ⟨u9, hu9, r10⟩ := bind_some r8
  refine .callS (b1 := []) (b2 := [_]) (s1 := []) [_, _] [] .ro rfl rfl Tryz.call109 rfl rfl (slices_ContainsFunc_Lintint_c (G := G) mcs s1 Tryz.call132 (fun Fs' G1 hle hm y0 r  hr => cuckoo_asked_f1_c (G := G1) hm   hr) hu9) rfl (fun v12 bo so h11 => ?_)
  obtain ⟨rfl, rfl, rfl⟩ := h11
  refine .same (bl' := [_]) (sl' := []) rfl rfl rfl (.re ?_)
  refine .cond rfl (fun c13 => ?_) (fun c13 => ?_)
  ·have r14 := ifT r10 c13; clear r10
   refine .seq (.region rfl (.av rfl rfl (.re ?_)))
   cases r14
   refine .drop 1 0 [] _ rfl rfl ?_
   refine .retS (.inr ⟨_, rfl⟩) [.tmp 4] [_] rfl Tryz.func90 Tryz.results90 ⟨RV.tmp rfl, trivial⟩ mcm ⟨rfl, rfl, rfl⟩
  ·have r15 := ifBF r10 c13; clear r10
   refine .skip (.seq (.region rfl (.av rfl rfl (.re ?_))))
   cases r15
   refine .drop 1 0 [] _ rfl rfl ?_
   refine .retS (.inr ⟨_, rfl⟩) [.tmp 4] [_] rfl Tryz.func90 Tryz.results90 ⟨RV.tmp rfl, trivial⟩ mcm ⟨rfl, rfl, rfl⟩
theorem cuckoo_start_c {Fs : List Hp} {G : Hp} {x0_0 : Int} {a0_1 : Option Addr} {k0_1 : Nat} {x0_1 : List (Int × Int)} {a1 : Option Addr} {k1 : Nat} {x1 : List Int} {r : ((List (List Int)) × (List Int) × (List Bool))} (hG : G ∈ Fs) (s0_1 : SlR (Rep.pair ri ri) G a0_1 k0_1 x0_1) (s1 : SlR ri G a1 k1 x1) (h : cuckoo_start (x0_0, x0_1) x1 = some r) : RetW Tryz.prog 91 #[.agg #[.int .i64 x0_0, .slice a0_1 x0_1.length k0_1], .slice a1 x1.length k1] Fs [] [] (fun v bo so G => ∃ a0 : Option Addr, ∃ k0 : Nat, ∃ (oa0 : Option Addr) (ok0 : Nat) (oc0 : List Value), ∃ (oa1 : Option Addr) (ok1 : Nat) (oc1 : List Value), ∃ b0 : Nat, v = .pointer (some ⟨b0, 0, none⟩) ∧ bo = [(b0, .cells #[.slice a0 r.1.length k0, .slice oa0 r.2.1.length ok0, .slice oa1 r.2.2.length ok1] 176 (0, 0))] ∧ so = [.s (.slice oa0 r.2.1.length ok0) 3 1 r.2.1.length oc0, .s (.slice oa1 r.2.2.length ok1) 4 1 r.2.2.length oc1] ∧ SlR (Rep.sl ri) G a0 k0 r.1 ∧ OL ri G oc0 r.2.1 ∧ OL Rep.bool G oc1 r.2.2) := by
 unfold cuckoo_start at h
 try dsimp only at h
 refine RetW.of (vs := [_, _]) Tryz.func91 rfl Tryz.ntmps91 [(0, _), (1, _)] ⟨rfl, rfl, trivial⟩ rfl hG fun w0 S0 hS0 B0 => ?_
 refine .seq (.region rfl ?_)
 refine .box [_, _] .ro rfl rfl rfl (fun b1 hb1 => ?_)
 refine .av rfl rfl (.re (.seq ?_))
 refine .cutG (β := Nat × List Int × Option Addr × Nat × List Value × List Bool × Option Addr × Nat × List Value) (fun y => [(5, .pointer (some ⟨y.1, 0, none⟩))]) [(1, _), (2, _)] (fun y => G :: Fs) (fun y => [(y.1, .cells #[.slice none 0 0, .slice y.2.2.1 y.2.1.length y.2.2.2.1, .slice y.2.2.2.2.2.2.1 y.2.2.2.2.2.1.length y.2.2.2.2.2.2.2.1] 176 (0, 0))]) [_] (fun y => [.s (.slice y.2.2.1 y.2.1.length y.2.2.2.1) 3 1 y.2.1.length y.2.2.2.2.1, .s (.slice y.2.2.2.2.2.2.1 y.2.2.2.2.2.1.length y.2.2.2.2.2.2.2.1) 4 1 y.2.2.2.2.2.1.length y.2.2.2.2.2.2.2.2]) [] (fun y => OL ri G y.2.2.2.2.1 y.2.1 ∧ OL Rep.bool G y.2.2.2.2.2.2.2.2 y.2.2.2.2.2.1 ∧ (cuckoo_start_J4 x1 x0_0 x0_1) y.2.1 y.2.2.2.2.2.1 = some r) ⟨rfl, rfl, trivial⟩ [0] rfl [] rfl ?_ ?_
 ·intro y hI
  obtain ⟨b10, v11, a12, k13, cs14, v15, a16, k17, cs18⟩ := y
  obtain ⟨o19, o20, r21⟩ := hI
  try dsimp only at o19 o20 r21
  refine .prune [(5, .pointer (some ⟨b10, 0, none⟩)), (1, _), (2, _)] ⟨rfl, rfl, rfl, trivial⟩ (.same (bl' := [(b10, .cells #[.slice none 0 0, .slice a12 v11.length k13, .slice a16 v15.length k17] 176 (0, 0)), _]) (sl' := [.s (.slice a12 v11.length k13) 3 1 v11.length cs14, .s (.slice a16 v15.length k17) 4 1 v15.length cs18]) (Fs' := G :: Fs) rfl rfl rfl ?_)
  unfold cuckoo_start_J4 at r21
  try dsimp only at r21
  refine .seq (.seq (.region rfl (.mv rfl rfl (.q .ro (.nilCheck rfl rfl) rfl (.q .ro (.fieldAddr 1 rfl fl176_1 ty22.sz rfl) rfl (.q .ro (.load_own 0 rfl rfl ty22 rfl) rfl (.q .ro (.len_sl rfl rfl sl22) rfl (.mv rfl rfl (.re ?_)))))))))
  refine .cutB (β := List Int × Option Addr × Nat × List Value × Int) (fun y => []) [(5, _), (1, _), (2, _)] (fun y => G :: Fs) (fun y => [(b10, .cells #[.slice none 0 0, .slice y.2.1 y.1.length y.2.2.1, .slice a16 v15.length k17] 176 (0, 0)), (b1, .cells #[.int .i64 y.2.2.2.2, .slice a0_1 x0_1.length k0_1] 83 (0, 0))]) [] (fun y => [.s (.slice y.2.1 y.1.length y.2.2.1) 3 1 y.1.length y.2.2.2.1]) [_] (fun y => OL ri G y.2.2.2.1 y.1 ∧ (cuckoo_start_J2 x1 x0_1 v15) y.1 y.2.2.2.2 = some r) ⟨rfl, rfl, rfl, trivial⟩ [] rfl [1] rfl ?_ ?_
  ·intro y hI
   obtain ⟨v23, a24, k25, cs26, v27⟩ := y
   obtain ⟨o28, r29⟩ := hI
   try dsimp only at o28 r29
   refine .prune [(5, _), (1, _), (2, _)] ⟨rfl, rfl, rfl, trivial⟩ (.same (bl' := [(b10, .cells #[.slice none 0 0, .slice a24 v23.length k25, .slice a16 v15.length k17] 176 (0, 0)), (b1, .cells #[.int .i64 v27, .slice a0_1 x0_1.length k0_1] 83 (0, 0))]) (sl' := [.s (.slice a24 v23.length k25) 3 1 v23.length cs26, _]) (Fs' := G :: Fs) rfl rfl rfl ?_)
   unfold cuckoo_start_J2 at r29
   try dsimp only at r29
   refine .seq (.seq (.region rfl (.mv rfl rfl (.q .ro (.len_sl rfl rfl sl22) rfl (.mv rfl rfl (.re (.block (.own_nil 22 1 ?_))))))))
   refine .loop2 (α := Nat × List Int × Hp × List (List Int) × Option Addr × Nat × List Value) (fun y => [(34, .int .i64 (y.1 : Int))]) [(5, _), (2, _), (32, _), (33, _)] (fun y => [y.2.2.1]) (fun y => [(b10, .cells #[.slice y.2.2.2.2.1 y.2.2.2.1.length y.2.2.2.2.2.1, .slice a24 v23.length k25, .slice a16 v15.length k17] 176 (0, 0))]) [_] (fun y => [.s (.slice y.2.2.2.2.1 y.2.2.2.1.length y.2.2.2.2.2.1) 22 1 y.2.2.2.1.length y.2.2.2.2.2.2]) [_, _] (fun y => HpLe G y.2.2.1 ∧ Bd w0 S0 Fs y.2.2.1 ∧ OL (Rep.sl ri) y.2.2.1 y.2.2.2.2.2.2 y.2.2.2.1 ∧ List.drop y.1 x1 = y.2.1 ∧ cuckoo_start_L1 v27 x0_1 v23 v15 y.2.1 y.2.2.2.1 = some r) (fun y => y.2.1.length) (0, x1, G, ([] : List (List Int)), none, 0, []) ⟨(HpLe.refl _), B0, (OL.nil (Rp' := (Rep.sl ri))), rfl, r29⟩ ⟨rfl, rfl, rfl, rfl, rfl, trivial⟩ rfl rfl rfl (fun y hI hb30 => ?_)
   obtain ⟨i31, w32, G33, v34, a35, k36, cs37⟩ := y
   obtain ⟨e38, B39, o40, g41, r42⟩ := hI
   try dsimp only at e38 B39 o40 g41 r42
   refine .prune [(34, .int .i64 (i31 : Int)), (5, _), (2, _), (32, _), (33, _)] ⟨rfl, rfl, rfl, rfl, rfl, trivial⟩ (.same (bl' := [(b10, .cells #[.slice a35 v34.length k36, .slice a24 v23.length k25, .slice a16 v15.length k17] 176 (0, 0)), _]) (sl' := [.s (.slice a35 v34.length k36) 22 1 v34.length cs37, _, _]) (Fs' := G33 :: Fs) rfl rfl rfl ?_)
   cases w32 with
   | nil =>
    rw [cuckoo_start_L1] at r42; try dsimp only at r42
    refine .seq (.region rfl (.q .ro (.lss rfl rfl) rfl (.re (.seq ?_))))
    refine .cond_dec rfl (fun c => absurd c (drop_nil g41)) (fun _ => ?_)
    refine .exit rfl (.seq (.region rfl (.mv rfl rfl (.av rfl rfl (.re ?_)))))
    refine .freezeR 0 rfl rfl o40 [_, _] rfl B39 (fun G43 e44 B45 s46 => ?_)
    cases r42
    refine .pull 1 rfl [_, _] rfl (.drop 1 0 [_] _ rfl rfl ?_)
    refine .retW (.inr ⟨_, rfl⟩) [.tmp 4] [_] rfl Tryz.func91 Tryz.results91 ⟨RV.tmp rfl, trivial⟩ mcm mcs B45 (by subst hS0; simp [blks]) (fun G' hg => ⟨a35, k36, a24, k25, cs26, a16, k17, cs18, _, rfl, rfl, rfl, (SlR.mono hg s46), (OL.mono hg (OL.mono (HpLe.trans e38 e44) o28)), (OL.mono hg (OL.mono (HpLe.trans e38 e44) o20))⟩)
   | cons x47 xs48 =>
    have r49 : cuckoo_start_B1 v27 x0_1 v23 v15 (cuckoo_start_L1 v27 x0_1 v23 v15 xs48) x47 v34 = some r := r42; clear r42; unfold cuckoo_start_B1 at r49; try dsimp only at r49
    refine .seq (.region rfl (.q .ro (.lss rfl rfl) rfl (.re (.seq ?_))))
    refine .cond_dec rfl (fun _ => ?_) (fun c => absurd (drop_lt g41) c)
    refine .skip (.seq (.block (.seq (.region rfl ?_))))
    obtain ⟨c50, p52, h53⟩ := SlR.get (SlR.mono e38 s1) (drop_idx g41)
    obtain rfl := h53
    refine .q .ro (.idxR (SlR.mono e38 s1) rfl rfl (drop_idx g41) sl22 ty3.sz) rfl (.q .ro (.load_rp p52 mcs rfl ty3 rfl) rfl (.av rfl rfl (.re (.drawL (.q 0 (.q 1 (.q 2 (.q 3 (.q 4 (.q 5 (.q 6 (.e 7 1 (.e 8 1 (.e 9 1 (.q 10 (.q 11 (.e 12 2 .nil))))))))))))) [_, _] (by kernel_rfl) (by kernel_rfl) (pick_mem [0, 1] rfl) (.dq (.move rfl) rfl (.dq (.move rfl) rfl (.dq (.nilCheck rfl rfl) rfl (.dq (.fieldAddr 0 rfl fl176_0 ty51.sz rfl) rfl (.dq (.load_own 0 rfl rfl ty51 rfl) rfl (.dq (.load_own_a 1 [_, _] rfl rfl ty83 rfl) rfl (.dq (.move rfl) rfl ?_)))))))))))
    obtain ⟨u54, hu54, r55⟩ := bind_some r49
    refine .callS (b1 := []) (b2 := [_, _]) (s1 := []) [_, _] [] .d1 rfl rfl Tryz.call89 rfl rfl (cuckoo_homes_c (G := G33) mcs (SlR.mono e38 s0_1) hu54) rfl (fun v56 bo so h57 => ?_)
    obtain ⟨a58, k59, cs60, rfl, rfl, rfl, o61⟩ := h57
    refine .same (bl' := [_, _]) (sl' := [_, _, _, _]) rfl rfl rfl (.clsL (HpLe.refl _) (pick_mem [0, 1] rfl) ?_)
    refine .freezeR 0 rfl rfl o61 [_, _, _] rfl B39 (fun G62 e63 B65 s66 => ?_)
    refine .lit [_] [(0, _)] .d1 sl51 ty22 rfl rfl rfl rfl rfl rfl (fun b67 hb67 => ?_)
    have o68 : OL (Rep.sl ri) G62 [.slice a58 u54.length k59] ([u54] : List (List Int)) := ((OL.cons rfl (Rep.slI s66) (OL.nil (Rp' := (Rep.sl ri)))) :)
    refine .reval 46 (n' := ([u54] : List (List Int)).length) rfl rfl (.clsL e63 (pick_mem [0, 1] rfl) ?_)
    obtain ⟨u69, hu69, r70⟩ := bind_some r55
    refine .appO (Q := (Rep.sl ri)) 0 .d1 sl51 ty22 rfl rfl rfl rfl rfl rfl (OL.mono e63 o40) o68 rfl rfl rfl B65 hu69 rfl (fun a71 k72 cs73 o74 => ?_)
    refine .clsL e63 (pick_mem [0, 1] rfl) (.dq (.nilCheck rfl rfl) rfl (.dq (.fieldAddr 0 rfl fl176_0 ty51.sz rfl) rfl (.store 0 [_, _, _] [_, _] .d2 rfl rfl rfl ty51 rfl rfl rfl rfl (.draw_end (.prune [(34, _), (5, _), (2, _), (32, _), (33, _)] ⟨rfl, rfl, rfl, rfl, rfl, trivial⟩ (.inBlock (.region rfl (.q .ro (.addw rfl rfl) rfl (.mv rfl rfl (.re ?_))))))))))
    exact .arr (hb30 ((i31 + 1), xs48, G62, u69, a71, k72, cs73) ⟨(HpLe.trans e38 e63), B65, o74, (drop_succ g41), r70⟩ (Nat.lt_succ_self _)) ⟨(congrArg (fun z => some (Value.int .i64 z)) (idx_wrap (SlR.len s1) g41)), rfl, rfl, rfl, rfl, trivial⟩
  ·intro hb75
   refine .block ?_
   refine .loop2 (α := Nat × List Int × List Int × Option Addr × Nat × List Value) (fun y => [(22, .int .i64 (y.1 : Int))]) [(5, _), (1, _), (2, _), (21, _)] (fun y => []) (fun y => [(b10, .cells #[.slice none 0 0, .slice y.2.2.2.1 y.2.2.1.length y.2.2.2.2.1, .slice a16 v15.length k17] 176 (0, 0))]) [_] (fun y => [.s (.slice y.2.2.2.1 y.2.2.1.length y.2.2.2.2.1) 3 1 y.2.2.1.length y.2.2.2.2.2]) [_] (fun y => OL ri G y.2.2.2.2.2 y.2.2.1 ∧ List.drop y.1 v11 = y.2.1 ∧ cuckoo_start_L3 (cuckoo_start_J2 x1 x0_1 v15) x0_0 y.2.1 y.1 y.2.2.1 = some r) (fun y => y.2.1.length) (0, v11, v11, a12, k13, cs14) ⟨o19, rfl, r21⟩ ⟨rfl, rfl, rfl, rfl, rfl, trivial⟩ rfl rfl rfl (fun y hI hb76 => ?_)
   obtain ⟨i77, w78, v79, a80, k81, cs82⟩ := y
   obtain ⟨o84, g85, r86⟩ := hI
   try dsimp only at o84 g85 r86
   refine .prune [(22, .int .i64 (i77 : Int)), (5, _), (1, _), (2, _), (21, _)] ⟨rfl, rfl, rfl, rfl, rfl, trivial⟩ (.same (bl' := [(b10, .cells #[.slice none 0 0, .slice a80 v79.length k81, .slice a16 v15.length k17] 176 (0, 0)), _]) (sl' := [.s (.slice a80 v79.length k81) 3 1 v79.length cs82, _]) (Fs' := G :: Fs) rfl rfl rfl ?_)
   cases w78 with
   | nil =>
    rw [cuckoo_start_L3] at r86; try dsimp only at r86
    refine .seq (.region rfl (.q .ro (.lss rfl rfl) rfl (.re (.seq ?_))))
    refine .cond_dec rfl (fun c => absurd c (drop_nil g85)) (fun _ => ?_)
    refine .exit rfl ?_
    exact .arr (hb75 (v79, a80, k81, cs82, x0_0) ⟨o84, r86⟩) ⟨rfl, rfl, rfl, trivial⟩
   | cons x87 xs88 =>
    have r90 : cuckoo_start_B3 (cuckoo_start_J2 x1 x0_1 v15) x0_0 (cuckoo_start_L3 (cuckoo_start_J2 x1 x0_1 v15) x0_0 xs88 (i77 + 1)) x87 i77 v79 = some r := r86; clear r86; unfold cuckoo_start_B3 at r90; try dsimp only at r90
    refine .seq (.region rfl (.q .ro (.lss rfl rfl) rfl (.re (.seq ?_))))
    refine .cond_dec rfl (fun _ => ?_) (fun c => absurd (drop_lt g85) c)
    refine .skip (.seq (.block (.seq (.region rfl (.mv rfl rfl (.av rfl rfl (.re (.region rfl (.mv rfl rfl (.q .ro (.nilCheck rfl rfl) rfl (.q .ro (.fieldAddr 1 rfl fl176_1 ty22.sz rfl) rfl (.q .ro (.load_own 0 rfl rfl ty22 rfl) rfl (.mv rfl rfl ?_)))))))))))))
    obtain ⟨u92, hu92, r93⟩ := bind_some r90
    obtain ⟨c94, p95, h96⟩ := OL.get o84 hu92
    obtain rfl := h96
    refine .q .ro (.idxO 0 rfl rfl rfl hu92 sl22 ty3.sz) rfl ?_
    obtain ⟨u97, hu97, r98⟩ := bind_some r93
    refine .storeR 0 0 (Q := ri) .ro rfl rfl o84 hu97 rfl (.inl ⟨rfl, rfl⟩) rfl ty3 p95 ((Rep.intI .i64 (-1)) :) rfl rfl (fun cs99 hlcs99 o100 => ?_)
    refine .reval 28 hlcs99 rfl (.recell 0 [_, .slice a80 u97.length k81, _] rfl (by rw [hlcs99]) [_, _] rfl (.re (.inBlock (.region rfl (.q .ro (.addw rfl rfl) rfl (.mv rfl rfl (.re ?_)))))))
    exact .arr (hb76 ((i77 + 1), xs88, u97, a80, k81, cs99) ⟨o100, (drop_succ g85), r98⟩ (Nat.lt_succ_self _)) ⟨(congrArg (fun z => some (Value.int .i64 z)) (idx_wrap (OL.len' o19) g85)), rfl, rfl, rfl, rfl, trivial⟩
 ·intro hb101
  refine .drawL (.q 0 (.q 1 (.q 3 (.q 4 (.alt (.e 2 1 (.e 5 1 (.q 6 (.e 7 1 (.q 8 .nil))))) (.e 5 1 (.e 2 1 (.q 6 (.e 7 1 (.q 8 .nil)))))))))) [_] (by kernel_rfl) (by kernel_rfl) (pick_mem [0] rfl) ?_
  obtain ⟨u102, hu102, r103⟩ := bind_some h
  obtain ⟨u104, hu104, r105⟩ := bind_some r103
  refine .dq (.fieldAddr 0 rfl fl83_0 ty3.sz rfl) rfl (.dq (.load_own 0 rfl rfl ty3 rfl) rfl (.dq (.fieldAddr 0 rfl fl83_0 ty3.sz rfl) rfl (.dq (.load_own 0 rfl rfl ty3 rfl) rfl ?_)))
  refine .alt ?_ ?_
  ·refine .makeR (G := G) (Q := ri) .d1 sl22 ty3 rfl rfl rfl ((Rep.intI .i64 0) :) rfl rfl hu102 rfl rfl (fun b106 cs107 hb106 o108 => ?_)
   refine .clsL (HpLe.refl _) (pick_mem [0] rfl) ?_
   refine .makeR (G := G) (Q := Rep.bool) .d1 sl174 ty4 rfl rfl rfl ((Rep.boolI false) :) rfl rfl hu104 rfl rfl (fun b109 cs110 hb109 o111 => ?_)
   refine .clsL (HpLe.refl _) (pick_mem [0] rfl) (.dq (.build [_, _, _] [(1, _), (2, _)] ty176 pl176 rfl rfl) rfl ?_)
   refine .box [_, _, _] .d1 rfl rfl rfl (fun b112 hb112 => ?_)
   refine .clsL (HpLe.refl _) (pick_mem [1] rfl) (.dq (.assign rfl) rfl (.draw_end (.pullS 1 rfl [_, _] rfl ?_)))
   exact .arr (hb101 (b112, u102, (some ⟨b106, 0, none⟩), u102.length, cs107, u104, (some ⟨b109, 0, none⟩), u104.length, cs110) ⟨o108, o111, r105⟩) ⟨rfl, rfl, rfl, trivial⟩
  ·refine .makeR (G := G) (Q := Rep.bool) .d1 sl174 ty4 rfl rfl rfl ((Rep.boolI false) :) rfl rfl hu104 rfl rfl (fun b113 cs114 hb113 o115 => ?_)
   refine .clsL (HpLe.refl _) (pick_mem [0] rfl) ?_
   refine .makeR (G := G) (Q := ri) .d1 sl22 ty3 rfl rfl rfl ((Rep.intI .i64 0) :) rfl rfl hu102 rfl rfl (fun b116 cs117 hb116 o118 => ?_)
   refine .clsL (HpLe.refl _) (pick_mem [0] rfl) (.dq (.build [_, _, _] [(1, _), (2, _)] ty176 pl176 rfl rfl) rfl ?_)
   refine .box [_, _, _] .d1 rfl rfl rfl (fun b119 hb119 => ?_)
   refine .clsL (HpLe.refl _) (pick_mem [1] rfl) (.dq (.assign rfl) rfl (.draw_end ?_))
   exact .arr (hb101 (b119, u102, (some ⟨b116, 0, none⟩), u102.length, cs117, u104, (some ⟨b113, 0, none⟩), u104.length, cs114) ⟨o118, o115, r105⟩) ⟨rfl, rfl, rfl, trivial⟩
theorem cuckoo_placing_place_R_c (n : Nat) : ∀ {Fs : List Hp} {G : Hp} {p0 : Nat} {a0_0 : Option Addr} {k0_0 : Nat} {x0_0 : List (List Int)} {a0_1 : Option Addr} {k0_1 : Nat} {x0_1 : List Int} {cc0_1 : List Value} {bb0_1 : Option Nat} {pre0_1 post0_1 : List Value} {a0_2 : Option Addr} {k0_2 : Nat} {x0_2 : List Bool} {cc0_2 : List Value} {bb0_2 : Option Nat} {pre0_2 post0_2 : List Value} {x1 : Int} {a2 : Option Addr} {k2 : Nat} {x2 : List Bool} {cc2 : List Value} {bb2 : Option Nat} {pre2 post2 : List Value} {r : (Bool × (List Int) × (List Bool))} (hG : G ∈ Fs) (s0_0 : SlR (Rep.sl ri) G a0_0 k0_0 x0_0) (vva0_1 : VA a0_1 bb0_1 x0_1.length k0_1 pre0_1 cc0_1) (oo0_1 : OL ri G cc0_1 x0_1) (vva0_2 : VA a0_2 bb0_2 x0_2.length k0_2 pre0_2 cc0_2) (oo0_2 : OL Rep.bool G cc0_2 x0_2) (vva2 : VA a2 bb2 x2.length k2 pre2 cc2) (oo2 : OL Rep.bool G cc2 x2) (h : cuckoo_placing_place_R n (x0_0, x0_1, x0_2) x1 x2 = some r), RetS Tryz.prog 180 #[.pointer (some ⟨p0, 0, none⟩), .int .i64 x1, .slice a2 x2.length k2] Fs [(p0, .cells #[.slice a0_0 x0_0.length k0_0, .slice a0_1 x0_1.length k0_1, .slice a0_2 x0_2.length k0_2] 176 (0, 0))] [.g (viewG bb0_1 3 pre0_1 cc0_1 post0_1), .g (viewG bb0_2 4 pre0_2 cc0_2 post0_2), .g (viewG bb2 4 pre2 cc2 post2)] (fun v bo so => ∃ lc0 : List Value, ∃ lc1 : List Value, v = .bool r.1 ∧ bo = [(p0, .cells #[.slice a0_0 x0_0.length k0_0, .slice a0_1 r.2.1.length k0_1, .slice a0_2 x0_2.length k0_2] 176 (0, 0))] ∧ so = [.g (viewG bb0_1 3 pre0_1 lc0 post0_1), .g (viewG bb0_2 4 pre0_2 cc0_2 post0_2), .g (viewG bb2 4 pre2 lc1 post2)] ∧ OL ri G lc0 r.2.1 ∧ r.2.1.length = x0_1.length ∧ OL Rep.bool G lc1 r.2.2 ∧ r.2.2.length = x2.length) := by
 induction n with
 | zero => intro Fs G p0 a0_0 k0_0 x0_0 a0_1 k0_1 x0_1 cc0_1 bb0_1 pre0_1 post0_1 a0_2 k0_2 x0_2 cc0_2 bb0_2 pre0_2 post0_2 x1 a2 k2 x2 cc2 bb2 pre2 post2 r hG s0_0 vva0_1 oo0_1 vva0_2 oo0_2 vva2 oo2 h; exact absurd h (by unfold cuckoo_placing_place_R; simp)
 | succ n ih =>
  intro Fs G p0 a0_0 k0_0 x0_0 a0_1 k0_1 x0_1 cc0_1 bb0_1 pre0_1 post0_1 a0_2 k0_2 x0_2 cc0_2 bb0_2 pre0_2 post0_2 x1 a2 k2 x2 cc2 bb2 pre2 post2 r hG s0_0 vva0_1 oo0_1 vva0_2 oo0_2 vva2 oo2 h
  unfold cuckoo_placing_place_R at h
  unfold cuckoo_placing_place_B2 at h
  try dsimp only at h
  refine RetS.of (vs := [_, _, _]) Tryz.func180 rfl Tryz.ntmps180 [(0, _), (1, _), (2, _)] ⟨rfl, rfl, rfl, trivial⟩ rfl hG fun w0 S0 hS0 B0 => ?_
  refine .seq (.region rfl (.av rfl rfl (.re (.scope (.seq (.label (.seq (.seq (.region rfl (.mv rfl rfl (.q .ro (.nilCheck rfl rfl) rfl (.q .ro (.fieldAddr 0 rfl fl176_0 ty51.sz rfl) rfl (.q .ro (.load_own 0 rfl rfl ty51 rfl) rfl (.mv rfl rfl ?_))))))))))))))
  obtain ⟨u4, hu4, r5⟩ := bind_some h
  obtain ⟨c6, p7, h8⟩ := SlR.get s0_0 hu4
  obtain ⟨a9, k10, rfl, s11⟩ := h8
  refine .q .ro (.idxR s0_0 rfl rfl hu4 sl51 ty22.sz) rfl (.q .ro (.load_rp p7 mcs rfl ty22 rfl) rfl (.q .ro (.len_sl rfl rfl sl22) rfl (.mv rfl rfl (.re (.block (.pullS 2 rfl [_, _, _] rfl ?_))))))
  refine .loop2 (α := Nat × List Int × List Bool × List Value × List Int × List Value) (fun y => [(2, .slice a2 y.2.2.1.length k2), (18, .int .i64 (y.1 : Int))]) [(0, _), (1, _), (16, _), (17, _)] (fun y => []) (fun y => [(p0, .cells #[.slice a0_0 x0_0.length k0_0, .slice a0_1 y.2.2.2.2.1.length k0_1, .slice a0_2 x0_2.length k0_2] 176 (0, 0))]) [] (fun y => [.g (viewG bb2 4 pre2 y.2.2.2.1 post2), .g (viewG bb0_1 3 pre0_1 y.2.2.2.2.2 post0_1)]) [_] (fun y => OL Rep.bool G y.2.2.2.1 y.2.2.1 ∧ VA a2 bb2 y.2.2.1.length k2 pre2 y.2.2.2.1 ∧ y.2.2.1.length = x2.length ∧ OL ri G y.2.2.2.2.2 y.2.2.2.2.1 ∧ VA a0_1 bb0_1 y.2.2.2.2.1.length k0_1 pre0_1 y.2.2.2.2.2 ∧ y.2.2.2.2.1.length = x0_1.length ∧ List.drop y.1 u4 = y.2.1 ∧ cuckoo_placing_place_L1 (cuckoo_placing_place_R n) x1 x0_0 x0_2 y.2.1 y.2.2.1 y.2.2.2.2.1 = some r) (fun y => y.2.1.length) (0, u4, x2, cc2, x0_1, cc0_1) ⟨oo2, vva2, rfl, oo0_1, vva0_1, rfl, rfl, r5⟩ ⟨rfl, rfl, rfl, rfl, rfl, rfl, trivial⟩ rfl rfl rfl (fun y hI hb12 => ?_)
  obtain ⟨i13, w14, v15, cs16, v17, cs18⟩ := y
  obtain ⟨o19, va20, hl21, o23, va24, hl25, g26, r27⟩ := hI
  try dsimp only at o19 va20 hl21 o23 va24 hl25 g26 r27
  refine .prune [(2, .slice a2 v15.length k2), (18, .int .i64 (i13 : Int)), (0, _), (1, _), (16, _), (17, _)] ⟨rfl, rfl, rfl, rfl, rfl, rfl, trivial⟩ (.same (bl' := [(p0, .cells #[.slice a0_0 x0_0.length k0_0, .slice a0_1 v17.length k0_1, .slice a0_2 x0_2.length k0_2] 176 (0, 0))]) (sl' := [.g (viewG bb2 4 pre2 cs16 post2), .g (viewG bb0_1 3 pre0_1 cs18 post0_1), _]) (Fs' := G :: Fs) rfl rfl rfl ?_)
  cases w14 with
  | nil =>
   rw [cuckoo_placing_place_L1] at r27; try dsimp only at r27
   refine .seq (.region rfl (.q .ro (.lss rfl rfl) rfl (.re (.seq ?_))))
   refine .cond_dec rfl (fun c => absurd c (drop_nil g26)) (fun _ => ?_)
   refine .exit rfl (.seq (.region rfl (.av rfl rfl (.re ?_))))
   cases r27
   refine .pullS 2 rfl [_, _, _] rfl (.pullS 2 rfl [_, _, _] rfl ?_)
   refine .retS (.inr ⟨_, rfl⟩) [.tmp 6] [_] rfl Tryz.func180 Tryz.results180 ⟨RV.tmp rfl, trivial⟩ mcm ⟨cs18, cs16, rfl, rfl, rfl, o23, hl25, o19, hl21⟩
  | cons x28 xs29 =>
   have r30 : cuckoo_placing_place_B1 (cuckoo_placing_place_R n) x1 x0_0 x0_2 (cuckoo_placing_place_L1 (cuckoo_placing_place_R n) x1 x0_0 x0_2 xs29) x28 v15 v17 = some r := r27; clear r27; unfold cuckoo_placing_place_B1 at r30; try dsimp only at r30
   refine .seq (.region rfl (.q .ro (.lss rfl rfl) rfl (.re (.seq ?_))))
   refine .cond_dec rfl (fun _ => ?_) (fun c => absurd (drop_lt g26) c)
   refine .skip (.seq (.block (.seq (.region rfl ?_))))
   obtain ⟨c31, p32, h33⟩ := SlR.get s11 (drop_idx g26)
   obtain rfl := h33
   refine .q .ro (.idxR s11 rfl rfl (drop_idx g26) sl22 ty3.sz) rfl (.q .ro (.load_rp p32 mcs rfl ty3 rfl) rfl (.av rfl rfl (.re (.seq (.block (.seq (.region rfl (.mv rfl rfl (.mv rfl rfl ?_)))))))))
   obtain ⟨u34, hu34, r35⟩ := bind_some r30
   obtain ⟨c36, p37, h38⟩ := OL.get o19 hu34
   obtain rfl := h38
   refine .q .ro (.idxV 0 rfl va20 o19 rfl rfl hu34 sl174 ty4.sz rfl rfl) rfl (.q .ro (.loadV 0 0 rfl va20 o19 rfl rfl hu34 p37 rfl (.inl ⟨rfl, rfl⟩) ty4 rfl) rfl (.mv rfl rfl ?_))
   obtain ⟨u39, h40, r41⟩ := bind_some r35
   refine .cutR 8 (β := Unit) (fun y => [(35, .bool u39)]) [(2, _), (18, _), (0, _), (1, _), (16, _), (17, _), (8, _)] (fun y => G :: Fs) (fun y => []) [_] (fun y => []) [_, _, _] (fun y => True) ⟨rfl, rfl, rfl, rfl, rfl, rfl, rfl, trivial⟩ [0] rfl [0, 1, 2] rfl ?_ ?_
   ·rintro _ _
    refine .prune [(35, .bool u39), (2, _), (18, _), (0, _), (1, _), (16, _), (17, _), (8, _)] ⟨rfl, rfl, rfl, rfl, rfl, rfl, rfl, rfl, trivial⟩ (.same (bl' := [_]) (sl' := [_, _, _]) (Fs' := G :: Fs) rfl rfl rfl (.av rfl rfl (.re ?_)))
    refine .cond rfl (fun c42 => ?_) (fun c42 => ?_)
    ·have r43 := ifT r41 c42; clear r41
     refine .exit rfl (.region rfl (.q .ro (.addw rfl rfl) rfl (.mv rfl rfl (.re ?_))))
     exact .arr (hb12 ((i13 + 1), xs29, v15, cs16, v17, cs18) ⟨o19, va20, hl21, o23, va24, hl25, (drop_succ g26), r43⟩ (Nat.lt_succ_self _)) ⟨rfl, (congrArg (fun z => some (Value.int .i64 z)) (idx_wrap (SlR.len s11) g26)), rfl, rfl, rfl, rfl, trivial⟩
    ·have r44 := ifBF r41 c42; clear r41
     refine .seq (.region rfl (.mv rfl rfl (.q .ro (.nilCheck rfl rfl) rfl (.q .ro (.fieldAddr 1 rfl fl176_1 ty22.sz rfl) rfl (.q .ro (.load_own 0 rfl rfl ty22 rfl) rfl (.mv rfl rfl ?_))))))
     obtain ⟨u45, hu45, r46⟩ := bind_some r44
     obtain ⟨c47, p48, h49⟩ := OL.get o23 hu45
     obtain rfl := h49
     refine .q .ro (.idxV 1 rfl va24 o23 rfl rfl hu45 sl22 ty3.sz rfl rfl) rfl (.q .ro (.loadV 1 0 rfl va24 o23 rfl rfl hu45 p48 rfl (.inl ⟨rfl, rfl⟩) ty3 rfl) rfl (.q .ro (.lss rfl rfl) rfl (.av rfl rfl (.re ?_))))
     refine .cond_dec rfl (fun c50 => ?_) (fun c50 => ?_)
     ·have r52 := ifT r46 c50; clear r46
      refine .seq (.region rfl (.mv rfl rfl (.q .ro (.nilCheck rfl rfl) rfl (.q .ro (.fieldAddr 1 rfl fl176_1 ty22.sz rfl) rfl (.q .ro (.load_own 0 rfl rfl ty22 rfl) rfl (.mv rfl rfl (.mv rfl rfl ?_)))))))
      obtain ⟨u53, hu53, r54⟩ := bind_some r52
      obtain ⟨c55, p56, h57⟩ := OL.get o23 hu53
      obtain rfl := h57
      refine .q .ro (.idxV 1 rfl va24 o23 rfl rfl hu53 sl22 ty3.sz rfl rfl) rfl ?_
      obtain ⟨u58, hu58, r59⟩ := bind_some r54
      refine .storeV 1 0 (Q := ri) .ro rfl va24 rfl rfl o23 hu58 rfl (.inl ⟨rfl, rfl⟩) rfl ty3 p56 ((Rep.intI .i64 x1) :) rfl rfl (fun cs60 hlcs60 o61 va62 => ?_)
      refine .reval 40 hlcs60 rfl (.reval 48 hlcs60 rfl (.recell 0 [_, .slice a0_1 u58.length k0_1, _] rfl (by rw [hlcs60]) [_] rfl (.re (.prune [] trivial (.seq (.region rfl (.av rfl rfl (.re ?_))))))))
      cases r59
      refine .pullS 2 rfl [_, _, _] rfl (.pullS 2 rfl [_, _, _] rfl ?_)
      refine .retS (.inr ⟨_, rfl⟩) [.tmp 6] [_] rfl Tryz.func180 Tryz.results180 ⟨RV.tmp rfl, trivial⟩ mcm ⟨cs60, cs16, rfl, rfl, rfl, o61, (hlcs60.trans hl25), o19, hl21⟩
     ·have r63 := ifF r46 c50; clear r46
      refine .skip (.inBlock (.seq (.region rfl (.mv rfl rfl (.mv rfl rfl ?_)))))
      obtain ⟨u65, hu65, r66⟩ := bind_some r63
      obtain ⟨c67, p68, h69⟩ := OL.get o19 hu65
      obtain rfl := h69
      refine .q .ro (.idxV 0 rfl va20 o19 rfl rfl hu65 sl174 ty4.sz rfl rfl) rfl ?_
      obtain ⟨u70, hu70, r71⟩ := bind_some r66
      refine .storeV 0 0 (Q := Rep.bool) .ro rfl va20 rfl rfl o19 hu70 rfl (.inl ⟨rfl, rfl⟩) rfl ty4 p68 ((Rep.boolI true) :) rfl rfl (fun cs72 hlcs72 o73 va74 => ?_)
      refine .reval 2 hlcs72 rfl (.reval 52 hlcs72 rfl (.re (.prune [(2, _), (18, _), (0, _), (1, _), (16, _), (17, _), (8, _)] ⟨rfl, rfl, rfl, rfl, rfl, rfl, rfl, trivial⟩ (.seq (.region rfl (.mv rfl rfl (.q .ro (.nilCheck rfl rfl) rfl (.q .ro (.fieldAddr 1 rfl fl176_1 ty22.sz rfl) rfl (.q .ro (.load_own 0 rfl rfl ty22 rfl) rfl (.mv rfl rfl ?_))))))))))
      obtain ⟨u75, hu75, r76⟩ := bind_some r71
      obtain ⟨c77, p78, h79⟩ := OL.get o23 hu75
      obtain rfl := h79
      refine .q .ro (.idxV 1 rfl va24 o23 rfl rfl hu75 sl22 ty3.sz rfl rfl) rfl (.q .ro (.loadV 1 0 rfl va24 o23 rfl rfl hu75 p78 rfl (.inl ⟨rfl, rfl⟩) ty3 rfl) rfl (.av rfl rfl (.re (.seq (.region rfl (.mv rfl rfl (.mv rfl rfl (.mv rfl rfl ?_))))))))
      obtain ⟨u80, hu80, r81⟩ := bind_some r76
      refine .pullS 2 rfl [_, _, _] rfl (.pullS 2 rfl [_, _, _] rfl ?_)
      refine .callS (b1 := [_]) (b2 := []) (s1 := [_, _, _]) [_, _, _] [] .ro rfl rfl Tryz.call180 rfl rfl (ih (G := G) mcs s0_0 va24 o23 vva0_2 oo0_2 va74 o73 hu80) rfl (fun v82 bo so h83 => ?_)
      obtain ⟨cs84, cs85, rfl, rfl, rfl, o86, hl87, o88, hl89⟩ := h83
      refine .same (bl' := [_]) (sl' := [_, _, _]) rfl rfl rfl ?_
      have va90 := VA.call va24 o23 o86 hl87
      have va91 := VA.call va74 o73 o88 hl89
      refine .reval 58 hl87 rfl (.recell 0 [_, .slice a0_1 u80.2.1.length k0_1, _] rfl (by rw [hl87]) [_] rfl (.reval 2 hl89 rfl (.reval 64 hl89 rfl (.re ?_))))
      refine .cond rfl (fun c92 => ?_) (fun c92 => ?_)
      ·have r93 := ifT r81 c92; clear r81
       refine .seq (.region rfl (.mv rfl rfl (.q .ro (.nilCheck rfl rfl) rfl (.q .ro (.fieldAddr 1 rfl fl176_1 ty22.sz rfl) rfl (.q .ro (.load_own 0 rfl rfl ty22 rfl) rfl (.mv rfl rfl (.mv rfl rfl ?_)))))))
       obtain ⟨u94, hu94, r95⟩ := bind_some r93
       obtain ⟨c96, p97, h98⟩ := OL.get o86 hu94
       obtain rfl := h98
       refine .q .ro (.idxV 0 rfl va90 o86 rfl rfl hu94 sl22 ty3.sz rfl rfl) rfl ?_
       obtain ⟨u99, hu99, r100⟩ := bind_some r95
       refine .storeV 0 0 (Q := ri) .ro rfl va90 rfl rfl o86 hu99 rfl (.inl ⟨rfl, rfl⟩) rfl ty3 p97 ((Rep.intI .i64 x1) :) rfl rfl (fun cs101 hlcs101 o102 va103 => ?_)
       refine .reval 58 hlcs101 rfl (.reval 69 hlcs101 rfl (.recell 0 [_, .slice a0_1 u99.length k0_1, _] rfl (by rw [hlcs101]) [_] rfl (.re (.prune [] trivial (.seq (.region rfl (.av rfl rfl (.re ?_))))))))
       cases r100
       refine .retS (.inr ⟨_, rfl⟩) [.tmp 6] [_] rfl Tryz.func180 Tryz.results180 ⟨RV.tmp rfl, trivial⟩ mcm ⟨cs101, cs85, rfl, rfl, rfl, o102, (hlcs101.trans (hl87.trans hl25)), o88, (hl89.trans (hlcs72.trans hl21))⟩
      ·have r104 := ifBF r81 c92; clear r81
       refine .skip (.inBlock (.region rfl (.q .ro (.addw rfl rfl) rfl (.mv rfl rfl (.re (.prune [(2, _), (18, _), (0, _), (1, _), (16, _), (17, _)] ⟨rfl, rfl, rfl, rfl, rfl, rfl, trivial⟩ (.pullS 1 rfl [_, _, _] rfl (.pullS 1 rfl [_, _, _] rfl (.pullS 2 rfl [_, _, _] rfl ?_)))))))))
       exact .arr (hb12 ((i13 + 1), xs29, u80.2.2, cs85, u80.2.1, cs84) ⟨o88, va91, (hl89.trans (hlcs72.trans hl21)), o86, va90, (hl87.trans hl25), (drop_succ g26), r104⟩ (Nat.lt_succ_self _)) ⟨rfl, (congrArg (fun z => some (Value.int .i64 z)) (idx_wrap (SlR.len s11) g26)), rfl, rfl, rfl, rfl, trivial⟩
   ·intro hb105
    refine .split_b 27 rfl (fun c106 => ?_) (fun c106 => ?_)
    ·have r107 := ifT h40 c106
     refine .g_off rfl rfl rfl (.g_off rfl rfl rfl (.g_off rfl rfl rfl (.g_off rfl rfl rfl (.g_off rfl rfl rfl (.g_off rfl rfl rfl (.g_off rfl rfl rfl (.q .ro (.pick_t rfl rfl) rfl ?_)))))))
     exact .arr (hb105 () trivial) ⟨sval r107, rfl, rfl, rfl, rfl, rfl, rfl, rfl, trivial⟩
    ·have r108 := ifBF h40 c106
     refine .g_on rfl (.mv rfl rfl (.g_on rfl (.q .ro (.nilCheck rfl rfl) rfl (.g_on rfl (.q .ro (.fieldAddr 2 rfl fl176_2 ty174.sz rfl) rfl (.g_on rfl (.q .ro (.load_own 0 rfl rfl ty174 rfl) rfl (.g_on rfl (.mv rfl rfl (.g_on rfl ?_))))))))))
     obtain ⟨u109, hu109, r110⟩ := bind_some r108
     obtain ⟨c111, p112, h113⟩ := OL.get oo0_2 hu109
     obtain rfl := h113
     refine .q .ro (.idxV 2 rfl vva0_2 oo0_2 rfl rfl hu109 sl174 ty4.sz rfl rfl) rfl (.g_on rfl (.q .ro (.loadV 2 0 rfl vva0_2 oo0_2 rfl rfl hu109 p112 rfl (.inl ⟨rfl, rfl⟩) ty4 rfl) rfl (.q .ro (.pick_f rfl rfl) rfl ?_)))
     exact .arr (hb105 () trivial) ⟨sval r110, rfl, rfl, rfl, rfl, rfl, rfl, rfl, trivial⟩
theorem cuckoo_placing_place_c {Fs : List Hp} {G : Hp} {p0 : Nat} {a0_0 : Option Addr} {k0_0 : Nat} {x0_0 : List (List Int)} {a0_1 : Option Addr} {k0_1 : Nat} {x0_1 : List Int} {cc0_1 : List Value} {bb0_1 : Option Nat} {pre0_1 post0_1 : List Value} {a0_2 : Option Addr} {k0_2 : Nat} {x0_2 : List Bool} {cc0_2 : List Value} {bb0_2 : Option Nat} {pre0_2 post0_2 : List Value} {x1 : Int} {a2 : Option Addr} {k2 : Nat} {x2 : List Bool} {cc2 : List Value} {bb2 : Option Nat} {pre2 post2 : List Value} {r : (Bool × (List Int) × (List Bool))} (hG : G ∈ Fs) (s0_0 : SlR (Rep.sl ri) G a0_0 k0_0 x0_0) (vva0_1 : VA a0_1 bb0_1 x0_1.length k0_1 pre0_1 cc0_1) (oo0_1 : OL ri G cc0_1 x0_1) (vva0_2 : VA a0_2 bb0_2 x0_2.length k0_2 pre0_2 cc0_2) (oo0_2 : OL Rep.bool G cc0_2 x0_2) (vva2 : VA a2 bb2 x2.length k2 pre2 cc2) (oo2 : OL Rep.bool G cc2 x2) (h : cuckoo_placing_place (x0_0, x0_1, x0_2) x1 x2 = some r) : RetS Tryz.prog 180 #[.pointer (some ⟨p0, 0, none⟩), .int .i64 x1, .slice a2 x2.length k2] Fs [(p0, .cells #[.slice a0_0 x0_0.length k0_0, .slice a0_1 x0_1.length k0_1, .slice a0_2 x0_2.length k0_2] 176 (0, 0))] [.g (viewG bb0_1 3 pre0_1 cc0_1 post0_1), .g (viewG bb0_2 4 pre0_2 cc0_2 post0_2), .g (viewG bb2 4 pre2 cc2 post2)] (fun v bo so => ∃ lc0 : List Value, ∃ lc1 : List Value, v = .bool r.1 ∧ bo = [(p0, .cells #[.slice a0_0 x0_0.length k0_0, .slice a0_1 r.2.1.length k0_1, .slice a0_2 x0_2.length k0_2] 176 (0, 0))] ∧ so = [.g (viewG bb0_1 3 pre0_1 lc0 post0_1), .g (viewG bb0_2 4 pre0_2 cc0_2 post0_2), .g (viewG bb2 4 pre2 lc1 post2)] ∧ OL ri G lc0 r.2.1 ∧ r.2.1.length = x0_1.length ∧ OL Rep.bool G lc1 r.2.2 ∧ r.2.2.length = x2.length) := by
 unfold cuckoo_placing_place at h
 exact cuckoo_placing_place_R_c big hG s0_0 vva0_1 oo0_1 vva0_2 oo0_2 vva2 oo2 h
theorem cuckoo_placing_all_c {Fs : List Hp} {G : Hp} {p0 : Nat} {a0_0 : Option Addr} {k0_0 : Nat} {x0_0 : List (List Int)} {a0_1 : Option Addr} {k0_1 : Nat} {x0_1 : List Int} {cc0_1 : List Value} {bb0_1 : Option Nat} {pre0_1 post0_1 : List Value} {a0_2 : Option Addr} {k0_2 : Nat} {x0_2 : List Bool} {cc0_2 : List Value} {bb0_2 : Option Nat} {pre0_2 post0_2 : List Value} {x1 : Int} {r : (Bool × (List Int))} (hG : G ∈ Fs) (s0_0 : SlR (Rep.sl ri) G a0_0 k0_0 x0_0) (vva0_1 : VA a0_1 bb0_1 x0_1.length k0_1 pre0_1 cc0_1) (oo0_1 : OL ri G cc0_1 x0_1) (vva0_2 : VA a0_2 bb0_2 x0_2.length k0_2 pre0_2 cc0_2) (oo0_2 : OL Rep.bool G cc0_2 x0_2) (h : cuckoo_placing_all (x0_0, x0_1, x0_2) x1 = some r) : RetS Tryz.prog 155 #[.pointer (some ⟨p0, 0, none⟩), .int .i64 x1] Fs [(p0, .cells #[.slice a0_0 x0_0.length k0_0, .slice a0_1 x0_1.length k0_1, .slice a0_2 x0_2.length k0_2] 176 (0, 0))] [.g (viewG bb0_1 3 pre0_1 cc0_1 post0_1), .g (viewG bb0_2 4 pre0_2 cc0_2 post0_2)] (fun v bo so => ∃ lc0 : List Value, v = .bool r.1 ∧ bo = [(p0, .cells #[.slice a0_0 x0_0.length k0_0, .slice a0_1 r.2.length k0_1, .slice a0_2 x0_2.length k0_2] 176 (0, 0))] ∧ so = [.g (viewG bb0_1 3 pre0_1 lc0 post0_1), .g (viewG bb0_2 4 pre0_2 cc0_2 post0_2)] ∧ OL ri G lc0 r.2 ∧ r.2.length = x0_1.length) := by
 unfold cuckoo_placing_all at h
 try dsimp only at h
 refine RetS.of (vs := [_, _]) Tryz.func155 rfl Tryz.ntmps155 [(0, _), (1, _)] ⟨rfl, rfl, trivial⟩ rfl hG fun w0 S0 hS0 B0 => ?_
 refine .seq (.region rfl (.av rfl rfl (.re (.seq (.seq (.region rfl (.mv rfl rfl (.av rfl rfl (.re (.block ?_))))))))))
 refine .loop2 (α := Nat × Int × List Int × List Value) (fun y => [(5, .int .i64 y.2.1)]) [(0, _)] (fun y => []) (fun y => [(p0, .cells #[.slice a0_0 x0_0.length k0_0, .slice a0_1 y.2.2.1.length k0_1, .slice a0_2 x0_2.length k0_2] 176 (0, 0))]) [] (fun y => [.g (viewG bb0_1 3 pre0_1 y.2.2.2 post0_1)]) [_] (fun y => OL ri G y.2.2.2 y.2.2.1 ∧ VA a0_1 bb0_1 y.2.2.1.length k0_1 pre0_1 y.2.2.2 ∧ y.2.2.1.length = x0_1.length ∧ cuckoo_placing_all_L1 x0_0 x0_2 y.1 y.2.1 y.2.2.1 = some r) (fun y => y.1) (big, x1, x0_1, cc0_1) ⟨oo0_1, vva0_1, rfl, h⟩ ⟨rfl, rfl, trivial⟩ rfl rfl rfl (fun y hI hb44 => ?_)
 obtain ⟨n34, v36, v37, cs38⟩ := y
 obtain ⟨o39, va40, hl41, r43⟩ := hI
 try dsimp only at o39 va40 hl41 r43
 refine .prune [(5, .int .i64 v36), (0, _)] ⟨rfl, rfl, trivial⟩ (.same (bl' := [(p0, .cells #[.slice a0_0 x0_0.length k0_0, .slice a0_1 v37.length k0_1, .slice a0_2 x0_2.length k0_2] 176 (0, 0))]) (sl' := [.g (viewG bb0_1 3 pre0_1 cs38 post0_1), _]) (Fs' := G :: Fs) rfl rfl rfl ?_)
 obtain ⟨m48, rfl⟩ : ∃ m, n34 = m + 1 := by cases n34 with | zero => exact absurd (show (none : Option _) = some _ from r43) (by simp) | succ m => exact ⟨m, rfl⟩
 have r47 : cuckoo_placing_all_B1 x0_0 x0_2 (cuckoo_placing_all_L1 x0_0 x0_2 m48) v36 v37 = some r := r43; clear r43; unfold cuckoo_placing_all_B1 at r47; try dsimp only at r47
 refine .seq (.seq (.region rfl (.mv rfl rfl (.mv rfl rfl (.q .ro (.nilCheck rfl rfl) rfl (.q .ro (.fieldAddr 0 rfl fl176_0 ty51.sz rfl) rfl (.q .ro (.load_own 0 rfl rfl ty51 rfl) rfl (.q .ro (.len_sl rfl rfl sl51) rfl (.q .ro (.lss rfl rfl) rfl (.re ?_))))))))))
 refine .cond_dec rfl (fun c49 => ?_) (fun c49 => ?_)
 ·have r50 := ifT r47 c49; clear r47
  refine .skip (.seq (.block (.seq (.region rfl (.mv rfl rfl (.mv rfl rfl (.mv rfl rfl (.q .ro (.nilCheck rfl rfl) rfl (.q .ro (.fieldAddr 1 rfl fl176_1 ty22.sz rfl) rfl (.q .ro (.load_own 0 rfl rfl ty22 rfl) rfl (.q .ro (.len_sl rfl rfl sl22) rfl ?_)))))))))))
  obtain ⟨u51, hu51, r52⟩ := bind_some r50
  refine .makeR (G := G) (Q := Rep.bool) .ro sl174 ty4 rfl rfl rfl ((Rep.boolI false) :) rfl rfl hu51 rfl rfl (fun b53 cs54 hb53 o55 => ?_)
  refine .toV 0 rfl (fun vb57 po58 va59 vb60 => ?_)
  obtain ⟨u61, hu61, r62⟩ := bind_some r52
  refine .pullS 2 rfl [_, _, _] rfl (.pullS 2 rfl [_, _, _] rfl ?_)
  refine .callS (b1 := [_]) (b2 := []) (s1 := [_, _, _]) [_, _, _] [] .ro rfl rfl Tryz.call180 rfl rfl (cuckoo_placing_place_c (G := G) mcs s0_0 va40 o39 vva0_2 oo0_2 va59 o55 hu61) rfl (fun v64 bo so h63 => ?_)
  obtain ⟨cs65, cs68, rfl, rfl, rfl, o66, hl67, o69, hl70⟩ := h63
  refine .same (bl' := [_]) (sl' := [_, _, _]) rfl rfl rfl ?_
  have va73 := VA.call va40 o39 o66 hl67
  refine .ofV 2 rfl vb60 hl70 o69 rfl (.reval 21 hl67 rfl (.recell 0 [_, .slice a0_1 u61.2.1.length k0_1, _] rfl (by rw [hl67]) [_] rfl (.reval 23 hl70 rfl (.q .ro (.not rfl) rfl (.re (.prune [(5, _), (0, _), (25, _)] ⟨rfl, rfl, rfl, trivial⟩ ?_))))))
  refine .cond rfl (fun c74 => ?_) (fun c74 => ?_)
  ·have r75 := ifT r62 c74; clear r62
   refine .seq (.region rfl (.av rfl rfl (.re ?_)))
   cases r75
   refine .pullS 1 rfl [_, _, _] rfl (.pullS 1 rfl [_, _, _] rfl (.pullS 2 rfl [_, _, _] rfl (.drop 0 1 _ [_, _] rfl rfl ?_)))
   refine .retS (.inr ⟨_, rfl⟩) [.tmp 4] [_] rfl Tryz.func155 Tryz.results155 ⟨RV.tmp rfl, trivial⟩ mcm ⟨cs65, rfl, rfl, rfl, o66, (hl67.trans hl41)⟩
  ·have r76 := ifBF r62 c74; clear r62
   refine .skip (.inBlock (.region rfl (.mv rfl rfl (.q .ro (.addw rfl rfl) rfl (.av rfl rfl (.re (.pullS 1 rfl [_, _, _] rfl (.pullS 1 rfl [_, _, _] rfl (.pullS 2 rfl [_, _, _] rfl (.drop 0 1 _ [_, _] rfl rfl ?_))))))))))
   exact .arr (hb44 (m48, (w64 (v36 + 1)), u61.2.1, cs65) ⟨o66, va73, (hl67.trans hl41), r76⟩ (Nat.lt_succ_self _)) ⟨rfl, rfl, trivial⟩
 ·have r77 := ifF r47 c49; clear r47
  refine .exit rfl (.seq (.region rfl (.av rfl rfl (.re ?_))))
  cases r77
  refine .retS (.inr ⟨_, rfl⟩) [.tmp 4] [_] rfl Tryz.func155 Tryz.results155 ⟨RV.tmp rfl, trivial⟩ mcm ⟨cs38, rfl, rfl, rfl, o39, hl41⟩
theorem cuckoo_placing_rest_c {Fs : List Hp} {G : Hp} {p0 : Nat} {a0_0 : Option Addr} {k0_0 : Nat} {x0_0 : List (List Int)} {a0_1 : Option Addr} {k0_1 : Nat} {x0_1 : List Int} {cc0_1 : List Value} {bb0_1 : Option Nat} {pre0_1 post0_1 : List Value} {a0_2 : Option Addr} {k0_2 : Nat} {x0_2 : List Bool} {cc0_2 : List Value} {bb0_2 : Option Nat} {pre0_2 post0_2 : List Value} {x1 : Int} {r : Bool} (hG : G ∈ Fs) (s0_0 : SlR (Rep.sl ri) G a0_0 k0_0 x0_0) (vva0_1 : VA a0_1 bb0_1 x0_1.length k0_1 pre0_1 cc0_1) (oo0_1 : OL ri G cc0_1 x0_1) (vva0_2 : VA a0_2 bb0_2 x0_2.length k0_2 pre0_2 cc0_2) (oo0_2 : OL Rep.bool G cc0_2 x0_2) (h : cuckoo_placing_rest (x0_0, x0_1, x0_2) x1 = some r) : RetS Tryz.prog 134 #[.pointer (some ⟨p0, 0, none⟩), .int .i64 x1] Fs [(p0, .cells #[.slice a0_0 x0_0.length k0_0, .slice a0_1 x0_1.length k0_1, .slice a0_2 x0_2.length k0_2] 176 (0, 0))] [.g (viewG bb0_1 3 pre0_1 cc0_1 post0_1), .g (viewG bb0_2 4 pre0_2 cc0_2 post0_2)] (fun v bo so => v = .bool r ∧ bo = [(p0, .cells #[.slice a0_0 x0_0.length k0_0, .slice a0_1 x0_1.length k0_1, .slice a0_2 x0_2.length k0_2] 176 (0, 0))] ∧ so = [.g (viewG bb0_1 3 pre0_1 cc0_1 post0_1), .g (viewG bb0_2 4 pre0_2 cc0_2 post0_2)]) := by
 unfold cuckoo_placing_rest at h
 try dsimp only at h
 refine RetS.of (vs := [_, _]) Tryz.func134 rfl Tryz.ntmps134 [(0, _), (1, _)] ⟨rfl, rfl, trivial⟩ rfl hG fun w0 S0 hS0 B0 => ?_
 refine .seq (.region rfl (.av rfl rfl (.re (.seq (.drawL (.q 0 (.q 1 (.q 2 (.q 3 (.q 4 (.q 5 (.q 6 (.q 7 (.q 9 (.q 10 (.q 11 (.q 12 (.e 8 1 (.q 13 (.e 14 1 (.q 15 .nil)))))))))))))))) [_] (by kernel_rfl) (by kernel_rfl) (pick_mem [0] rfl) (.dq (.move rfl) rfl (.dq (.nilCheck rfl rfl) rfl (.dq (.fieldAddr 0 rfl fl176_0 ty51.sz rfl) rfl (.dq (.load_own 0 rfl rfl ty51 rfl) rfl (.dq (.move rfl) rfl (.dq (.nilCheck rfl rfl) rfl (.dq (.fieldAddr 1 rfl fl176_1 ty22.sz rfl) rfl (.dq (.load_own 0 rfl rfl ty22 rfl) rfl (.dq (.move rfl) rfl (.dq (.nilCheck rfl rfl) rfl (.dq (.fieldAddr 2 rfl fl176_2 ty174.sz rfl) rfl (.dq (.load_own 0 rfl rfl ty174 rfl) rfl ?_)))))))))))))))))
 obtain ⟨u3, hu3, r4⟩ := bind_some h
 refine .callB (Q := fun v bo so => ∃ (oa0 : Option Addr) (ok0 : Nat) (oc0 : List Value), v = .slice oa0 u3.length ok0 ∧ bo = [] ∧ so = [.s (.slice oa0 u3.length ok0) 3 1 u3.length oc0] ∧ OL ri G oc0 u3) (b1 := []) (b2 := [_]) (s1 := []) (sB := [_]) (s2 := [_]) [_] [] .d1 rfl rfl Tryz.call100 rfl rfl (fun Fs' G' hle hB hm => RetG.mono (slices_Clone_Lintint_c (G := G') hm (SlR.rdV oo0_1 vva0_1 hle rfl (hB _ (List.mem_of_getElem? (i := 0) rfl))) hu3) (fun v _ bo so h => by obtain ⟨q0a, q0k, q0c, e1, e2, e3, f0⟩ := h; exact ⟨q0a, q0k, q0c, e1, e2, e3, OL.flat (Rep.flat_int _) f0⟩)) rfl (fun v6 bo so h5 => ?_)
 obtain ⟨a8, k9, cs10, rfl, rfl, rfl, o11⟩ := h5
 refine .same (bl' := [_]) (sl' := [_, _, _]) rfl rfl rfl (.clsL (HpLe.refl _) (pick_mem [0] rfl) (.dq (.build [_, _, _] [(0, _), (1, _), (2, _)] ty176 pl176 rfl rfl) rfl ?_))
 refine .box [_, _, _] .d1 rfl rfl rfl (fun b12 hb12 => ?_)
 refine .clsL (HpLe.refl _) (pick_mem [1] rfl) (.dq (.assign rfl) rfl (.draw_end (.prune [(1, _), (5, _)] ⟨rfl, rfl, trivial⟩ (.seq (.seq (.region rfl (.mv rfl rfl (.q .ro (.nilCheck rfl rfl) rfl (.q .ro (.fieldAddr 1 rfl fl176_1 ty22.sz rfl) rfl (.q .ro (.load_own 0 rfl rfl ty22 rfl) rfl (.q .ro (.len_sl rfl rfl sl22) rfl (.mv rfl rfl (.re ?_)))))))))))))
 refine .cutB (β := List Int × Option Addr × Nat × List Value) (fun y => []) [(1, _), (5, _)] (fun y => G :: Fs) (fun y => [(b12, .cells #[.slice a0_0 x0_0.length k0_0, .slice y.2.1 y.1.length y.2.2.1, .slice a0_2 x0_2.length k0_2] 176 (0, 0))]) [_] (fun y => [.s (.slice y.2.1 y.1.length y.2.2.1) 3 1 y.1.length y.2.2.2]) [_, _] (fun y => OL ri G y.2.2.2 y.1 ∧ (cuckoo_placing_rest_J1 x1 x0_0 x0_2) y.1 = some r) ⟨rfl, rfl, trivial⟩ [1] rfl [1, 2] rfl ?_ ?_
 ·intro y hI
  obtain ⟨v74, a75, k76, cs77⟩ := y
  obtain ⟨o78, r81⟩ := hI
  try dsimp only at o78 r81
  refine .prune [(1, _), (5, _)] ⟨rfl, rfl, trivial⟩ (.same (bl' := [(b12, .cells #[.slice a0_0 x0_0.length k0_0, .slice a75 v74.length k76, .slice a0_2 x0_2.length k0_2] 176 (0, 0)), _]) (sl' := [.s (.slice a75 v74.length k76) 3 1 v74.length cs77, _, _]) (Fs' := G :: Fs) rfl rfl rfl ?_)
  unfold cuckoo_placing_rest_J1 at r81
  try dsimp only at r81
  refine .seq (.region rfl (.mv rfl rfl (.mv rfl rfl ?_)))
  refine .toV 0 rfl (fun vb86 po87 va88 vb89 => ?_)
  obtain ⟨u90, hu90, r91⟩ := bind_some r81
  refine .pullS 2 rfl [_, _, _] rfl (.pullS 1 rfl [_, _, _] rfl ?_)
  refine .callS (b1 := [_]) (b2 := [_]) (s1 := [_, _]) [_, _] [] .ro rfl rfl Tryz.call155 rfl rfl (cuckoo_placing_all_c (G := G) mcs s0_0 va88 o78 vva0_2 oo0_2 hu90) rfl (fun v93 bo so h92 => ?_)
  obtain ⟨cs94, rfl, rfl, rfl, o95, hl96⟩ := h92
  refine .same (bl' := [_, _]) (sl' := [_, _, _]) rfl rfl rfl (.ofV 0 rfl vb89 hl96 o95 rfl (.recell 0 [_, .slice a75 u90.2.length k76, _] rfl (by rw [hl96]) [_, _] rfl (.av rfl rfl (.re ?_))))
  cases r91
  refine .drop 1 0 [_] _ rfl rfl (.pullS 1 rfl [_, _, _] rfl (.pullS 2 rfl [_, _, _] rfl (.pullS 2 rfl [_, _, _] rfl (.drop 0 1 _ [_, _] rfl rfl ?_))))
  refine .retS (.inr ⟨_, rfl⟩) [.tmp 4] [_] rfl Tryz.func134 Tryz.results134 ⟨RV.tmp rfl, trivial⟩ mcm ⟨rfl, rfl, rfl⟩
 ·intro hb98
  refine .block ?_
  refine .loop2 (α := Nat × List Int × List Int × Option Addr × Nat × List Value) (fun y => [(27, .int .i64 (y.1 : Int))]) [(1, _), (5, _), (26, _)] (fun y => []) (fun y => [(b12, .cells #[.slice a0_0 x0_0.length k0_0, .slice y.2.2.2.1 y.2.2.1.length y.2.2.2.2.1, .slice a0_2 x0_2.length k0_2] 176 (0, 0))]) [_] (fun y => [.s (.slice y.2.2.2.1 y.2.2.1.length y.2.2.2.2.1) 3 1 y.2.2.1.length y.2.2.2.2.2]) [_, _] (fun y => OL ri G y.2.2.2.2.2 y.2.2.1 ∧ List.drop y.1 u3 = y.2.1 ∧ cuckoo_placing_rest_L2 (cuckoo_placing_rest_J1 x1 x0_0 x0_2) x0_2 y.2.1 y.1 y.2.2.1 = some r) (fun y => y.2.1.length) (0, u3, u3, a8, k9, cs10) ⟨o11, rfl, r4⟩ ⟨rfl, rfl, rfl, rfl, trivial⟩ rfl rfl rfl (fun y hI hb13 => ?_)
  obtain ⟨i14, w15, v16, a17, k18, cs19⟩ := y
  obtain ⟨o20, g21, r23⟩ := hI
  try dsimp only at o20 g21 r23
  refine .prune [(27, .int .i64 (i14 : Int)), (1, _), (5, _), (26, _)] ⟨rfl, rfl, rfl, rfl, trivial⟩ (.same (bl' := [(b12, .cells #[.slice a0_0 x0_0.length k0_0, .slice a17 v16.length k18, .slice a0_2 x0_2.length k0_2] 176 (0, 0)), _]) (sl' := [.s (.slice a17 v16.length k18) 3 1 v16.length cs19, _, _]) (Fs' := G :: Fs) rfl rfl rfl ?_)
  cases w15 with
  | nil =>
   rw [cuckoo_placing_rest_L2] at r23; try dsimp only at r23
   refine .seq (.region rfl (.q .ro (.lss rfl rfl) rfl (.re (.seq ?_))))
   refine .cond_dec rfl (fun c => absurd c (drop_nil g21)) (fun _ => ?_)
   refine .exit rfl ?_
   exact .arr (hb98 (v16, a17, k18, cs19) ⟨o20, r23⟩) ⟨rfl, rfl, trivial⟩
  | cons x24 xs25 =>
   have r26 : cuckoo_placing_rest_B2 (cuckoo_placing_rest_J1 x1 x0_0 x0_2) x0_2 (cuckoo_placing_rest_L2 (cuckoo_placing_rest_J1 x1 x0_0 x0_2) x0_2 xs25 (i14 + 1)) x24 i14 v16 = some r := r23; clear r23; unfold cuckoo_placing_rest_B2 at r26; try dsimp only at r26
   refine .seq (.region rfl (.q .ro (.lss rfl rfl) rfl (.re (.seq ?_))))
   refine .cond_dec rfl (fun _ => ?_) (fun c => absurd (drop_lt g21) c)
   refine .skip (.seq (.block (.seq (.region rfl (.mv rfl rfl (.av rfl rfl (.re (.seq (.region rfl (.mv rfl rfl (.q .ro (.nilCheck rfl rfl) rfl (.q .ro (.fieldAddr 2 rfl fl176_2 ty174.sz rfl) rfl (.q .ro (.load_own 0 rfl rfl ty174 rfl) rfl (.mv rfl rfl ?_))))))))))))))
   obtain ⟨u27, hu27, r28⟩ := bind_some r26
   obtain ⟨c29, p30, h31⟩ := OL.get oo0_2 hu27
   obtain rfl := h31
   refine .q .ro (.idxV 2 rfl vva0_2 oo0_2 rfl rfl hu27 sl174 ty4.sz rfl rfl) rfl (.q .ro (.loadV 2 0 rfl vva0_2 oo0_2 rfl rfl hu27 p30 rfl (.inl ⟨rfl, rfl⟩) ty4 rfl) rfl (.q .ro (.not rfl) rfl (.re ?_)))
   refine .cond rfl (fun c32 => ?_) (fun c32 => ?_)
   ·have r33 := ifT r28 c32; clear r28
    refine .region rfl (.mv rfl rfl (.q .ro (.nilCheck rfl rfl) rfl (.q .ro (.fieldAddr 1 rfl fl176_1 ty22.sz rfl) rfl (.q .ro (.load_own 0 rfl rfl ty22 rfl) rfl (.mv rfl rfl ?_)))))
    obtain ⟨u34, hu34, r35⟩ := bind_some r33
    obtain ⟨c36, p37, h38⟩ := OL.get o20 hu34
    obtain rfl := h38
    refine .q .ro (.idxO 0 rfl rfl rfl hu34 sl22 ty3.sz) rfl ?_
    obtain ⟨u39, hu39, r40⟩ := bind_some r35
    refine .storeR 0 0 (Q := ri) .ro rfl rfl o20 hu39 rfl (.inl ⟨rfl, rfl⟩) rfl ty3 p37 ((Rep.intI .i64 (-1)) :) rfl rfl (fun cs41 hlcs41 o42 => ?_)
    refine .reval 41 hlcs41 rfl (.recell 0 [_, .slice a17 u39.length k18, _] rfl (by rw [hlcs41]) [_, _] rfl (.re (.prune [(27, _), (1, _), (5, _), (26, _)] ⟨rfl, rfl, rfl, rfl, trivial⟩ (.inBlock (.region rfl (.q .ro (.addw rfl rfl) rfl (.mv rfl rfl (.re ?_))))))))
    exact .arr (hb13 ((i14 + 1), xs25, u39, a17, k18, cs41) ⟨o42, (drop_succ g21), r40⟩ (Nat.lt_succ_self _)) ⟨(congrArg (fun z => some (Value.int .i64 z)) (idx_wrap (OL.len' o11) g21)), rfl, rfl, rfl, trivial⟩
   ·have r43 := ifBF r28 c32; clear r28
    refine .skip (.inBlock (.region rfl (.q .ro (.addw rfl rfl) rfl (.mv rfl rfl (.re ?_)))))
    exact .arr (hb13 ((i14 + 1), xs25, v16, a17, k18, cs19) ⟨o20, (drop_succ g21), r43⟩ (Nat.lt_succ_self _)) ⟨(congrArg (fun z => some (Value.int .i64 z)) (idx_wrap (OL.len' o11) g21)), rfl, rfl, rfl, trivial⟩
theorem cuckoo_placing_first_c {Fs : List Hp} {G : Hp} {p0 : Nat} {a0_0 : Option Addr} {k0_0 : Nat} {x0_0 : List (List Int)} {a0_1 : Option Addr} {k0_1 : Nat} {x0_1 : List Int} {cc0_1 : List Value} {bb0_1 : Option Nat} {pre0_1 post0_1 : List Value} {a0_2 : Option Addr} {k0_2 : Nat} {x0_2 : List Bool} {cc0_2 : List Value} {bb0_2 : Option Nat} {pre0_2 post0_2 : List Value} {r : (Bool × (List Int) × (List Bool))} (hG : G ∈ Fs) (s0_0 : SlR (Rep.sl ri) G a0_0 k0_0 x0_0) (vva0_1 : VA a0_1 bb0_1 x0_1.length k0_1 pre0_1 cc0_1) (oo0_1 : OL ri G cc0_1 x0_1) (vva0_2 : VA a0_2 bb0_2 x0_2.length k0_2 pre0_2 cc0_2) (oo0_2 : OL Rep.bool G cc0_2 x0_2) (h : cuckoo_placing_first (x0_0, x0_1, x0_2) = some r) : RetS Tryz.prog 92 #[.pointer (some ⟨p0, 0, none⟩)] Fs [(p0, .cells #[.slice a0_0 x0_0.length k0_0, .slice a0_1 x0_1.length k0_1, .slice a0_2 x0_2.length k0_2] 176 (0, 0))] [.g (viewG bb0_1 3 pre0_1 cc0_1 post0_1), .g (viewG bb0_2 4 pre0_2 cc0_2 post0_2)] (fun v bo so => ∃ lc0 : List Value, ∃ lc1 : List Value, v = .bool r.1 ∧ bo = [(p0, .cells #[.slice a0_0 x0_0.length k0_0, .slice a0_1 r.2.1.length k0_1, .slice a0_2 r.2.2.length k0_2] 176 (0, 0))] ∧ so = [.g (viewG bb0_1 3 pre0_1 lc0 post0_1), .g (viewG bb0_2 4 pre0_2 lc1 post0_2)] ∧ OL ri G lc0 r.2.1 ∧ r.2.1.length = x0_1.length ∧ OL Rep.bool G lc1 r.2.2 ∧ r.2.2.length = x0_2.length) := by
 unfold cuckoo_placing_first at h
 try dsimp only at h
 refine RetS.of (vs := [_]) Tryz.func92 rfl Tryz.ntmps92 [(0, _)] ⟨rfl, trivial⟩ rfl hG fun w0 S0 hS0 B0 => ?_
 refine .seq (.region rfl (.av rfl rfl (.re (.scope (.seq (.label (.seq (.seq (.region rfl (.mv rfl rfl (.q .ro (.nilCheck rfl rfl) rfl (.q .ro (.fieldAddr 0 rfl fl176_0 ty51.sz rfl) rfl (.q .ro (.load_own 0 rfl rfl ty51 rfl) rfl (.q .ro (.len_sl rfl rfl sl51) rfl (.mv rfl rfl (.re (.block (.pullS 1 rfl [_, _] rfl (.pullS 1 rfl [_, _] rfl ?_)))))))))))))))))))
 refine .loop2 (α := Nat × List (List Int) × List Int × List Value × List Bool × List Value) (fun y => [(12, .int .i64 (y.1 : Int))]) [(0, _), (10, _), (11, _)] (fun y => []) (fun y => [(p0, .cells #[.slice a0_0 x0_0.length k0_0, .slice a0_1 y.2.2.1.length k0_1, .slice a0_2 y.2.2.2.2.1.length k0_2] 176 (0, 0))]) [] (fun y => [.g (viewG bb0_1 3 pre0_1 y.2.2.2.1 post0_1), .g (viewG bb0_2 4 pre0_2 y.2.2.2.2.2 post0_2)]) [] (fun y => OL ri G y.2.2.2.1 y.2.2.1 ∧ VA a0_1 bb0_1 y.2.2.1.length k0_1 pre0_1 y.2.2.2.1 ∧ y.2.2.1.length = x0_1.length ∧ OL Rep.bool G y.2.2.2.2.2 y.2.2.2.2.1 ∧ VA a0_2 bb0_2 y.2.2.2.2.1.length k0_2 pre0_2 y.2.2.2.2.2 ∧ y.2.2.2.2.1.length = x0_2.length ∧ List.drop y.1 x0_0 = y.2.1 ∧ cuckoo_placing_first_L2 x0_0 y.2.1 y.1 y.2.2.1 y.2.2.2.2.1 = some r) (fun y => y.2.1.length) (0, x0_0, x0_1, cc0_1, x0_2, cc0_2) ⟨oo0_1, vva0_1, rfl, oo0_2, vva0_2, rfl, rfl, h⟩ ⟨rfl, rfl, rfl, rfl, trivial⟩ rfl rfl rfl (fun y hI hb10 => ?_)
 obtain ⟨i11, w12, v13, cs14, v15, cs16⟩ := y
 obtain ⟨o17, va18, hl19, o20, va21, hl23, g24, r25⟩ := hI
 try dsimp only at o17 va18 hl19 o20 va21 hl23 g24 r25
 refine .prune [(12, .int .i64 (i11 : Int)), (0, _), (10, _), (11, _)] ⟨rfl, rfl, rfl, rfl, trivial⟩ (.same (bl' := [(p0, .cells #[.slice a0_0 x0_0.length k0_0, .slice a0_1 v13.length k0_1, .slice a0_2 v15.length k0_2] 176 (0, 0))]) (sl' := [.g (viewG bb0_1 3 pre0_1 cs14 post0_1), .g (viewG bb0_2 4 pre0_2 cs16 post0_2)]) (Fs' := G :: Fs) rfl rfl rfl ?_)
 cases w12 with
 | nil =>
  rw [cuckoo_placing_first_L2] at r25; try dsimp only at r25
  refine .seq (.region rfl (.q .ro (.lss rfl rfl) rfl (.re (.seq ?_))))
  refine .cond_dec rfl (fun c => absurd c (drop_nil g24)) (fun _ => ?_)
  refine .exit rfl (.seq (.region rfl (.av rfl rfl (.re ?_))))
  cases r25
  refine .retS (.inr ⟨_, rfl⟩) [.tmp 2] [_] rfl Tryz.func92 Tryz.results92 ⟨RV.tmp rfl, trivial⟩ mcm ⟨cs14, cs16, rfl, rfl, rfl, o17, hl19, o20, hl23⟩
 | cons x26 xs27 =>
  have r28 : cuckoo_placing_first_B2 x0_0 (cuckoo_placing_first_L2 x0_0 xs27 (i11 + 1)) x26 i11 v13 v15 = some r := r25; clear r25; unfold cuckoo_placing_first_B2 at r28; try dsimp only at r28
  refine .seq (.region rfl (.q .ro (.lss rfl rfl) rfl (.re (.seq ?_))))
  refine .cond_dec rfl (fun _ => ?_) (fun c => absurd (drop_lt g24) c)
  refine .skip (.seq (.block (.seq (.region rfl (.mv rfl rfl ?_)))))
  obtain ⟨c29, p30, h31⟩ := SlR.get s0_0 (drop_idx g24)
  obtain ⟨a32, k33, rfl, s34⟩ := h31
  refine .q .ro (.idxR s0_0 rfl rfl (drop_idx g24) sl51 ty22.sz) rfl (.q .ro (.load_rp p30 mcs rfl ty22 rfl) rfl (.av rfl rfl (.av rfl rfl (.re (.seq (.seq (.region rfl (.mv rfl rfl (.q .ro (.len_sl rfl rfl sl22) rfl (.mv rfl rfl (.re (.block (.pullS 1 rfl [_, _] rfl (.pullS 1 rfl [_, _] rfl ?_))))))))))))))
  refine .loop2 (α := Nat × List Int × List Int × List Value × List Bool × List Value) (fun y => [(19, .int .i64 (y.1 : Int))]) [(12, _), (0, _), (10, _), (11, _), (3, _), (17, _), (18, _)] (fun y => []) (fun y => [(p0, .cells #[.slice a0_0 x0_0.length k0_0, .slice a0_1 y.2.2.1.length k0_1, .slice a0_2 y.2.2.2.2.1.length k0_2] 176 (0, 0))]) [] (fun y => [.g (viewG bb0_1 3 pre0_1 y.2.2.2.1 post0_1), .g (viewG bb0_2 4 pre0_2 y.2.2.2.2.2 post0_2)]) [] (fun y => OL ri G y.2.2.2.1 y.2.2.1 ∧ VA a0_1 bb0_1 y.2.2.1.length k0_1 pre0_1 y.2.2.2.1 ∧ y.2.2.1.length = x0_1.length ∧ OL Rep.bool G y.2.2.2.2.2 y.2.2.2.2.1 ∧ VA a0_2 bb0_2 y.2.2.2.2.1.length k0_2 pre0_2 y.2.2.2.2.2 ∧ y.2.2.2.2.1.length = x0_2.length ∧ List.drop y.1 x26 = y.2.1 ∧ cuckoo_placing_first_L1 (cuckoo_placing_first_L2 x0_0 xs27 (i11 + 1)) (i11 : Int) x0_0 y.2.1 y.2.2.1 y.2.2.2.2.1 = some r) (fun y => y.2.1.length) (0, x26, v13, cs14, v15, cs16) ⟨o17, va18, hl19, o20, va21, hl23, rfl, r28⟩ ⟨rfl, rfl, rfl, rfl, rfl, rfl, rfl, rfl, trivial⟩ rfl rfl rfl (fun y hI hb35 => ?_)
  obtain ⟨i36, w37, v38, cs39, v40, cs41⟩ := y
  obtain ⟨o42, va43, hl44, o45, va46, hl47, g48, r49⟩ := hI
  try dsimp only at o42 va43 hl44 o45 va46 hl47 g48 r49
  refine .prune [(19, .int .i64 (i36 : Int)), (12, _), (0, _), (10, _), (11, _), (3, _), (17, _), (18, _)] ⟨rfl, rfl, rfl, rfl, rfl, rfl, rfl, rfl, trivial⟩ (.same (bl' := [(p0, .cells #[.slice a0_0 x0_0.length k0_0, .slice a0_1 v38.length k0_1, .slice a0_2 v40.length k0_2] 176 (0, 0))]) (sl' := [.g (viewG bb0_1 3 pre0_1 cs39 post0_1), .g (viewG bb0_2 4 pre0_2 cs41 post0_2)]) (Fs' := G :: Fs) rfl rfl rfl ?_)
  cases w37 with
  | nil =>
   rw [cuckoo_placing_first_L1] at r49; try dsimp only at r49
   refine .seq (.region rfl (.q .ro (.lss rfl rfl) rfl (.re (.seq ?_))))
   refine .cond_dec rfl (fun c => absurd c (drop_nil g48)) (fun _ => ?_)
   refine .exit rfl (.seq (.region rfl (.av rfl rfl (.re ?_))))
   cases r49
   refine .retS (.inr ⟨_, rfl⟩) [.tmp 2] [_] rfl Tryz.func92 Tryz.results92 ⟨RV.tmp rfl, trivial⟩ mcm ⟨cs39, cs41, rfl, rfl, rfl, o42, hl44, o45, hl47⟩
  | cons x50 xs52 =>
   have r53 : cuckoo_placing_first_B1 (cuckoo_placing_first_L2 x0_0 xs27 (i11 + 1)) (i11 : Int) x0_0 (cuckoo_placing_first_L1 (cuckoo_placing_first_L2 x0_0 xs27 (i11 + 1)) (i11 : Int) x0_0 xs52) x50 v38 v40 = some r := r49; clear r49; unfold cuckoo_placing_first_B1 at r53; try dsimp only at r53
   refine .seq (.region rfl (.q .ro (.lss rfl rfl) rfl (.re (.seq ?_))))
   refine .cond_dec rfl (fun _ => ?_) (fun c => absurd (drop_lt g48) c)
   refine .skip (.seq (.block (.seq (.region rfl ?_))))
   obtain ⟨c54, p55, h56⟩ := SlR.get s34 (drop_idx g48)
   obtain rfl := h56
   refine .q .ro (.idxR s34 rfl rfl (drop_idx g48) sl22 ty3.sz) rfl (.q .ro (.load_rp p55 mcs rfl ty3 rfl) rfl (.av rfl rfl (.re (.seq (.seq (.region rfl (.mv rfl rfl (.q .ro (.nilCheck rfl rfl) rfl (.q .ro (.fieldAddr 2 rfl fl176_2 ty174.sz rfl) rfl (.q .ro (.load_own 0 rfl rfl ty174 rfl) rfl (.mv rfl rfl ?_)))))))))))
   obtain ⟨u57, hu57, r58⟩ := bind_some r53
   obtain ⟨c59, p60, h61⟩ := OL.get o45 hu57
   obtain rfl := h61
   refine .q .ro (.idxV 1 rfl va46 o45 rfl rfl hu57 sl174 ty4.sz rfl rfl) rfl (.q .ro (.loadV 1 0 rfl va46 o45 rfl rfl hu57 p60 rfl (.inl ⟨rfl, rfl⟩) ty4 rfl) rfl (.re ?_))
   refine .cond rfl (fun c62 => ?_) (fun c62 => ?_)
   ·have r63 := ifT r58 c62; clear r58
    refine .exit rfl (.region rfl (.q .ro (.addw rfl rfl) rfl (.mv rfl rfl (.re ?_))))
    exact .arr (hb35 ((i36 + 1), xs52, v38, cs39, v40, cs41) ⟨o42, va43, hl44, o45, va46, hl47, (drop_succ g48), r63⟩ (Nat.lt_succ_self _)) ⟨(congrArg (fun z => some (Value.int .i64 z)) (idx_wrap (SlR.len s34) g48)), rfl, rfl, rfl, rfl, rfl, rfl, rfl, trivial⟩
   ·have r65 := ifBF r58 c62; clear r58
    refine .skip (.seq (.drawL (.q 0 (.q 1 (.q 2 (.q 3 (.q 4 (.q 5 (.q 6 (.q 7 (.q 8 (.q 9 (.q 10 (.e 11 1 (.e 12 1 (.e 13 2 (.e 14 2 .nil))))))))))))))) [_] (by kernel_rfl) (by kernel_rfl) (pick_mem [0] rfl) (.dq (.move rfl) rfl (.dq (.nilCheck rfl rfl) rfl (.dq (.fieldAddr 2 rfl fl176_2 ty174.sz rfl) rfl (.dq (.load_own 0 rfl rfl ty174 rfl) rfl (.dq (.move rfl) rfl (.dq (.move rfl) rfl (.dq (.nilCheck rfl rfl) rfl (.dq (.fieldAddr 1 rfl fl176_1 ty22.sz rfl) rfl (.dq (.load_own 0 rfl rfl ty22 rfl) rfl (.dq (.move rfl) rfl (.dq (.move rfl) rfl ?_)))))))))))))
    obtain ⟨u66, hu66, r67⟩ := bind_some r65
    obtain ⟨c68, p69, h70⟩ := OL.get o45 hu66
    obtain rfl := h70
    refine .q .d1 (.idxV 1 rfl va46 o45 rfl rfl hu66 sl174 ty4.sz rfl rfl) rfl (.clsL (HpLe.refl _) (pick_mem [0] rfl) ?_)
    obtain ⟨u71, hu71, r72⟩ := bind_some r67
    refine .storeV 1 0 (Q := Rep.bool) .d1 rfl va46 rfl rfl o45 hu71 rfl (.inl ⟨rfl, rfl⟩) rfl ty4 p69 ((Rep.boolI true) :) rfl rfl (fun cs73 hlcs73 o74 va75 => ?_)
    refine .reval 26 hlcs73 rfl (.reval 33 hlcs73 rfl (.recell 0 [_, _, .slice a0_2 u71.length k0_2] rfl (by rw [hlcs73]) [_] rfl (.clsL (HpLe.refl _) (by simp only [hlcs73]; exact pick_mem [0] rfl) ?_)))
    obtain ⟨u76, hu76, r77⟩ := bind_some r72
    obtain ⟨c78, p79, h80⟩ := OL.get o42 hu76
    obtain rfl := h80
    refine .q .d2 (.idxV 0 rfl va43 o42 rfl rfl hu76 sl22 ty3.sz rfl rfl) rfl ?_
    obtain ⟨u81, hu81, r82⟩ := bind_some r77
    refine .storeV 0 0 (Q := ri) .d2 rfl va43 rfl rfl o42 hu81 rfl (.inl ⟨rfl, rfl⟩) rfl ty3 p79 ((Rep.intI .i64 (i11 : Int)) :) rfl rfl (fun cs83 hlcs83 o84 va85 => ?_)
    refine .reval 38 hlcs83 rfl (.recell 0 [_, .slice a0_1 u81.length k0_1, _] rfl (by rw [hlcs83]) [_] rfl (.draw_end (.prune [(19, _), (12, _), (0, _), (10, _), (11, _), (3, _), (17, _), (18, _), (6, _)] ⟨rfl, rfl, rfl, rfl, rfl, rfl, rfl, rfl, rfl, trivial⟩ (.seq (.seq (.region rfl (.mv rfl rfl (.mv rfl rfl (.q .ro (.addw rfl rfl) rfl ?_)))))))))
    obtain ⟨u86, hu86, r87⟩ := bind_some r82
    refine .pullS 1 rfl [_, _] rfl (.pullS 1 rfl [_, _] rfl ?_)
    refine .callS (b1 := [_]) (b2 := []) (s1 := [_, _]) [_, _] [] .ro rfl rfl Tryz.call134 rfl rfl (cuckoo_placing_rest_c (G := G) mcs s0_0 va85 o84 va75 o74 hu86) rfl (fun v88 bo so h89 => ?_)
    obtain ⟨rfl, rfl, rfl⟩ := h89
    refine .same (bl' := [_]) (sl' := [_, _]) rfl rfl rfl (.re ?_)
    refine .cond rfl (fun c90 => ?_) (fun c90 => ?_)
    ·have r91 := ifT r87 c90; clear r87
     refine .exit rfl (.region rfl (.q .ro (.addw rfl rfl) rfl (.mv rfl rfl (.re ?_))))
     exact .arr (hb10 ((i11 + 1), xs27, u81, cs83, u71, cs73) ⟨o84, va85, (hlcs83.trans hl44), o74, va75, (hlcs73.trans hl47), (drop_succ g24), r91⟩ (Nat.lt_succ_self _)) ⟨(congrArg (fun z => some (Value.int .i64 z)) (idx_wrap (SlR.len s0_0) g24)), rfl, rfl, rfl, trivial⟩
    ·have r93 := ifBF r87 c90; clear r87
     refine .skip (.drawL (.q 0 (.q 1 (.q 2 (.q 3 (.q 4 (.q 5 (.q 6 (.q 7 (.q 8 (.q 9 (.e 10 1 (.e 11 1 (.e 12 2 (.e 13 2 .nil)))))))))))))) [_] (by kernel_rfl) (by kernel_rfl) (pick_mem [0] rfl) (.dq (.move rfl) rfl (.dq (.nilCheck rfl rfl) rfl (.dq (.fieldAddr 2 rfl fl176_2 ty174.sz rfl) rfl (.dq (.load_own 0 rfl rfl ty174 rfl) rfl (.dq (.move rfl) rfl (.dq (.move rfl) rfl (.dq (.nilCheck rfl rfl) rfl (.dq (.fieldAddr 1 rfl fl176_1 ty22.sz rfl) rfl (.dq (.load_own 0 rfl rfl ty22 rfl) rfl (.dq (.move rfl) rfl ?_)))))))))))
     obtain ⟨u94, hu94, r95⟩ := bind_some r93
     obtain ⟨c96, p97, h98⟩ := OL.get o74 hu94
     obtain rfl := h98
     refine .q .d1 (.idxV 1 rfl va75 o74 rfl rfl hu94 sl174 ty4.sz rfl rfl) rfl (.clsL (HpLe.refl _) (pick_mem [0] rfl) ?_)
     obtain ⟨u99, hu99, r100⟩ := bind_some r95
     refine .storeV 1 0 (Q := Rep.bool) .d1 rfl va75 rfl rfl o74 hu99 rfl (.inl ⟨rfl, rfl⟩) rfl ty4 p97 ((Rep.boolI false) :) rfl rfl (fun cs101 hlcs101 o102 va103 => ?_)
     refine .reval 50 hlcs101 rfl (.recell 0 [_, _, .slice a0_2 u99.length k0_2] rfl (by rw [hlcs101]) [_] rfl (.clsL (HpLe.refl _) (by simp only [hlcs101]; exact pick_mem [0] rfl) ?_))
     obtain ⟨u104, hu104, r105⟩ := bind_some r100
     obtain ⟨c106, p107, h108⟩ := OL.get o84 hu104
     obtain rfl := h108
     refine .q .d2 (.idxV 0 rfl va85 o84 rfl rfl hu104 sl22 ty3.sz rfl rfl) rfl ?_
     obtain ⟨u109, hu109, r110⟩ := bind_some r105
     refine .storeV 0 0 (Q := ri) .d2 rfl va85 rfl rfl o84 hu109 rfl (.inl ⟨rfl, rfl⟩) rfl ty3 p107 ((Rep.intI .i64 (-1)) :) rfl rfl (fun cs111 hlcs111 o112 va113 => ?_)
     refine .reval 55 hlcs111 rfl (.recell 0 [_, .slice a0_1 u109.length k0_1, _] rfl (by rw [hlcs111]) [_] rfl (.draw_end (.prune [(19, _), (12, _), (0, _), (10, _), (11, _), (3, _), (17, _), (18, _)] ⟨rfl, rfl, rfl, rfl, rfl, rfl, rfl, rfl, trivial⟩ (.inBlock (.region rfl (.q .ro (.addw rfl rfl) rfl (.mv rfl rfl (.re ?_))))))))
     exact .arr (hb35 ((i36 + 1), xs52, u109, cs111, u99, cs101) ⟨o112, va113, (hlcs111.trans (hlcs83.trans hl44)), o102, va103, (hlcs101.trans (hlcs73.trans hl47)), (drop_succ g48), r110⟩ (Nat.lt_succ_self _)) ⟨(congrArg (fun z => some (Value.int .i64 z)) (idx_wrap (SlR.len s34) g48)), rfl, rfl, rfl, rfl, rfl, rfl, rfl, trivial⟩
theorem cuckoo_Assign_c {Fs : List Hp} {G : Hp} {x0_0 : Int} {a0_1 : Option Addr} {k0_1 : Nat} {x0_1 : List (Int × Int)} {a1 : Option Addr} {k1 : Nat} {x1 : List Int} {r : ((List Int) × Int)} (hG : G ∈ Fs) (s0_1 : SlR (Rep.pair ri ri) G a0_1 k0_1 x0_1) (s1 : SlR ri G a1 k1 x1) (h : cuckoo_Assign (x0_0, x0_1) x1 = some r) : RetW Tryz.prog 35 #[.agg #[.int .i64 x0_0, .slice a0_1 x0_1.length k0_1], .slice a1 x1.length k1] Fs [] [] (fun v bo so G => ∃ a0 : Option Addr, ∃ k0 : Nat, v = .tuple #[.agg #[.slice a0 r.1.length k0], .int .i64 r.2] ∧ bo = [] ∧ so = [] ∧ SlR ri G a0 k0 r.1) := by
 unfold cuckoo_Assign at h
 try dsimp only at h
 refine RetW.of (vs := [_, _]) Tryz.func35 rfl Tryz.ntmps35 [(0, _), (1, _)] ⟨rfl, rfl, trivial⟩ rfl hG fun w0 S0 hS0 B0 => ?_
 refine .seq (.region rfl ?_)
 refine .box [_, _] .ro rfl rfl rfl (fun b1 hb1 => ?_)
 refine .alloc .ro ty87 rfl (fun b2 hb2 => ?_)
 refine .av rfl rfl (.re (.seq (.seq (.region rfl (.q .ro (.load_own_a 1 [_, _] rfl rfl ty83 rfl) rfl (.mv rfl rfl ?_))))))
 obtain ⟨u3, hu3, r4⟩ := bind_some h
 refine .callS (b1 := []) (b2 := [_, _]) (s1 := []) [_, _] [] .ro rfl rfl Tryz.call90 rfl rfl (cuckoo_asked_c (G := G) mcs s0_1 s1 hu3) rfl (fun v6 bo so h5 => ?_)
 obtain ⟨rfl, rfl, rfl⟩ := h5
 refine .same (bl' := [_, _]) (sl' := []) rfl rfl rfl (.av rfl rfl (.re (.seq (.region rfl (.mv rfl rfl (.q .ro (.neq rfl rfl) rfl (.re ?_)))))))
 refine .cond_dec rfl (fun c7 => ?_) (fun c7 => ?_)
 ·have r8 := ifT r4 c7; clear r4
  refine .seq (.region rfl (.q .ro (.build [_] [] ty87 pl87 rfl rfl) rfl (.mv rfl rfl (.store 0 [_] [_, _] .ro rfl rfl rfl ty87 rfl rfl rfl rfl (.av rfl rfl (.re ?_))))))
  cases r8
  refine .retWD 2 (.inr ⟨_, rfl⟩) [.cell 4 87, .tmp 5] [_, _] rfl Tryz.func35 Tryz.results35 ⟨RV.cell_a 0 [_] rfl rfl ty87 rfl, RV.tmp rfl, trivial⟩ mcm mcs B0 (by subst hS0; simp [blks]) (fun G' hg => ⟨none, 0, rfl, rfl, rfl, (SlR.mono hg (SlR.nil (Rp' := ri)))⟩)
 ·have r9 := ifF r4 c7; clear r4
  refine .skip (.seq (.seq (.region rfl (.mv rfl rfl (.q .ro (.len_sl rfl rfl sl22) rfl (.q .ro (.fieldAddr 0 rfl fl83_0 ty3.sz rfl) rfl (.q .ro (.load_own 1 rfl rfl ty3 rfl) rfl (.q .ro (.gtr rfl rfl) rfl (.re ?_)))))))))
  refine .cond_dec rfl (fun c10 => ?_) (fun c10 => ?_)
  ·have r11 := ifT r9 c10; clear r9
   refine .seq (.region rfl (.q .ro (.build [_] [] ty87 pl87 rfl rfl) rfl (.store 0 [_] [_, _] .ro rfl rfl rfl ty87 rfl rfl rfl rfl (.av rfl rfl (.re (.prune [(4, _), (5, _)] ⟨rfl, rfl, trivial⟩ ?_))))))
   cases r11
   refine .retWD 2 (.inr ⟨_, rfl⟩) [.cell 4 87, .tmp 5] [_, _] rfl Tryz.func35 Tryz.results35 ⟨RV.cell_a 0 [_] rfl rfl ty87 rfl, RV.tmp rfl, trivial⟩ mcm mcs B0 (by subst hS0; simp [blks]) (fun G' hg => ⟨none, 0, rfl, rfl, rfl, (SlR.mono hg (SlR.nil (Rp' := ri)))⟩)
  ·have r12 := ifF r9 c10; clear r9
   refine .skip (.seq (.region rfl (.q .ro (.load_own_a 1 [_, _] rfl rfl ty83 rfl) rfl (.mv rfl rfl ?_))))
   obtain ⟨u13, hu13, r14⟩ := bind_some r12
   refine .callW (b1 := []) (b2 := [_, _]) (s1 := []) [_, _] [] .ro rfl rfl Tryz.call91 rfl rfl (cuckoo_start_c (G := G) mcs s0_1 s1 hu13) rfl B0 (fun v16 bo so G17 e18 B19 h15 => ?_)
   obtain ⟨a22, k23, a26, k27, cs28, a31, k32, cs33, b21, rfl, rfl, rfl, s24, o29, o34⟩ := h15
   refine .same (bl' := [_, _, _]) (sl' := [_, _]) rfl rfl rfl (.av rfl rfl (.re (.prune [(4, _), (7, _)] ⟨rfl, rfl, trivial⟩ (.seq (.seq (.region rfl (.mv rfl rfl ?_)))))))
   refine .toV 0 rfl (fun vb35 po36 va37 vb38 => ?_)
   refine .toV 1 rfl (fun vb39 po40 va41 vb42 => ?_)
   obtain ⟨u43, hu43, r44⟩ := bind_some r14
   refine .pullS 1 rfl [_, _] rfl (.pullS 1 rfl [_, _] rfl ?_)
   refine .callS (b1 := [_]) (b2 := [_, _]) (s1 := [_, _]) [_] [] .ro rfl rfl Tryz.call92 rfl rfl (cuckoo_placing_first_c (G := G17) mcs s24 va37 o29 va41 o34 hu43) rfl (fun v46 bo so h45 => ?_)
   obtain ⟨cs47, cs50, rfl, rfl, rfl, o48, hl49, o51, hl52⟩ := h45
   refine .same (bl' := [_, _, _]) (sl' := [_, _]) rfl rfl rfl (.ofV 0 rfl vb38 hl49 o48 rfl (.ofV 1 rfl vb42 hl52 o51 rfl (.recell 0 [_, .slice a26 u43.2.1.length k27, _] rfl (by rw [hl49]) [_, _, _] rfl (.recell 0 [_, _, .slice a31 u43.2.2.length k32] rfl (by rw [hl52]) [_, _, _] rfl (.q .ro (.not rfl) rfl (.re ?_))))))
   refine .cond rfl (fun c55 => ?_) (fun c55 => ?_)
   ·have r56 := ifT r44 c55; clear r44
    refine .seq (.region rfl (.q .ro (.build [_] [] ty87 pl87 rfl rfl) rfl (.store 1 [_] [_, _, _] .ro rfl rfl rfl ty87 rfl rfl rfl rfl (.av rfl rfl (.re ?_)))))
    cases r56
    refine .drop 0 2 _ [] rfl rfl ?_
    refine .retWD 3 (.inr ⟨_, rfl⟩) [.cell 4 87, .tmp 5] [_, _] rfl Tryz.func35 Tryz.results35 ⟨RV.cell_a 1 [_] rfl rfl ty87 rfl, RV.tmp rfl, trivial⟩ mcm mcs B19 (by subst hS0; simp [blks]) (fun G' hg => ⟨none, 0, rfl, rfl, rfl, (SlR.mono hg (SlR.nil (Rp' := ri)))⟩)
   ·have r57 := ifBF r44 c55; clear r44
    refine .skip (.seq (.region rfl (.mv rfl rfl (.q .ro (.nilCheck rfl rfl) rfl (.q .ro (.fieldAddr 1 rfl fl176_1 ty22.sz rfl) rfl (.q .ro (.load_own 0 rfl rfl ty22 rfl) rfl (.q .ro (.build [_] [(0, _)] ty87 pl87 rfl rfl) rfl (.store 1 [_] [_, _, _] .ro rfl rfl rfl ty87 rfl rfl rfl rfl (.av rfl rfl (.re ?_))))))))))
    refine .freezeR 0 rfl rfl o48 [_] rfl B19 (fun G58 e59 B60 s61 => ?_)
    cases r57
    refine .drop 0 1 _ [] rfl rfl ?_
    refine .retWD 3 (.inr ⟨_, rfl⟩) [.cell 4 87, .tmp 5] [_, _] rfl Tryz.func35 Tryz.results35 ⟨RV.cell_a 1 [_] rfl rfl ty87 rfl, RV.tmp rfl, trivial⟩ mcm mcs B60 (by subst hS0; simp [blks]) (fun G' hg => ⟨a26, k27, rfl, rfl, rfl, (SlR.mono hg s61)⟩)
theorem slices_Index_Lintint_c {Fs : List Hp} {G : Hp} {a0 : Option Addr} {k0 : Nat} {x0 : List Int} {x1 : Int} {r : Int} (hG : G ∈ Fs) (s0 : SlR ri G a0 k0 x0) (h : slices_Index_Lintint x0 x1 = some r) : RetS Tryz.prog 94 #[.slice a0 x0.length k0, .int .i64 x1] Fs [] [] (fun v bo so => v = .int .i64 r ∧ bo = [] ∧ so = []) := by
 unfold slices_Index_Lintint at h
 try dsimp only at h
 refine RetS.of (vs := [_, _]) Tryz.func94 rfl Tryz.ntmps94 [(0, _), (1, _)] ⟨rfl, rfl, trivial⟩ rfl hG fun w0 S0 hS0 B0 => ?_
 refine .seq (.region rfl (.av rfl rfl (.re (.seq (.seq (.region rfl (.mv rfl rfl (.q .ro (.len_sl rfl rfl sl22) rfl (.mv rfl rfl (.re (.block ?_)))))))))))
 refine .loop2 (α := Nat × List Int) (fun y => [(8, .int .i64 (y.1 : Int))]) [(0, _), (1, _), (7, _)] (fun y => []) (fun y => []) [] (fun y => []) [] (fun y => List.drop y.1 x0 = y.2 ∧ slices_Index_Lintint_L1 x1 y.2 y.1  = some r) (fun y => y.2.length) (0, x0) ⟨rfl, h⟩ ⟨rfl, rfl, rfl, rfl, trivial⟩ rfl rfl rfl (fun y hI hb19 => ?_)
 obtain ⟨i15, w16⟩ := y
 obtain ⟨g17, r18⟩ := hI
 try dsimp only at g17 r18
 refine .prune [(8, .int .i64 (i15 : Int)), (0, _), (1, _), (7, _)] ⟨rfl, rfl, rfl, rfl, trivial⟩ (.same (bl' := []) (sl' := []) (Fs' := G :: Fs) rfl rfl rfl ?_)
 cases w16 with
 | nil =>
  rw [slices_Index_Lintint_L1] at r18; try dsimp only at r18
  refine .seq (.region rfl (.q .ro (.lss rfl rfl) rfl (.re (.seq ?_))))
  refine .cond_dec rfl (fun c => absurd c (drop_nil g17)) (fun _ => ?_)
  refine .exit rfl (.seq (.region rfl (.av rfl rfl (.re ?_))))
  cases r18
  refine .retS (.inr ⟨_, rfl⟩) [.tmp 4] [_] rfl Tryz.func94 Tryz.results94 ⟨RV.tmp rfl, trivial⟩ mcm ⟨rfl, rfl, rfl⟩
 | cons x24 xs25 =>
  have r23 : slices_Index_Lintint_B1 x1 (slices_Index_Lintint_L1 x1 xs25 (i15 + 1)) x24 i15  = some r := r18; clear r18; unfold slices_Index_Lintint_B1 at r23; try dsimp only at r23
  refine .seq (.region rfl (.q .ro (.lss rfl rfl) rfl (.re (.seq ?_))))
  refine .cond_dec rfl (fun _ => ?_) (fun c => absurd (drop_lt g17) c)
  refine .skip (.seq (.block (.seq (.region rfl (.mv rfl rfl (.av rfl rfl (.re (.seq (.region rfl (.mv rfl rfl (.mv rfl rfl (.mv rfl rfl ?_))))))))))))
  obtain ⟨c26, p27, h28⟩ := SlR.get s0 (drop_idx g17)
  obtain rfl := h28
  refine .q .ro (.idxR s0 rfl rfl (drop_idx g17) sl22 ty3.sz) rfl (.q .ro (.load_rp p27 mcs rfl ty3 rfl) rfl (.q .ro (.eql rfl rfl) rfl (.re ?_)))
  refine .cond_dec rfl (fun c29 => ?_) (fun c29 => ?_)
  ·have r30 := ifT r23 c29; clear r23
   refine .seq (.region rfl (.mv rfl rfl (.av rfl rfl (.re (.prune [(4, _)] ⟨rfl, trivial⟩ ?_)))))
   cases r30
   refine .retS (.inr ⟨_, rfl⟩) [.tmp 4] [_] rfl Tryz.func94 Tryz.results94 ⟨RV.tmp rfl, trivial⟩ mcm ⟨rfl, rfl, rfl⟩
  ·have r31 := ifF r23 c29; clear r23
   refine .skip (.inBlock (.region rfl (.q .ro (.addw rfl rfl) rfl (.mv rfl rfl (.re ?_)))))
   exact .arr (hb19 ((i15 + 1), xs25) ⟨(drop_succ g17), r31⟩ (Nat.lt_succ_self _)) ⟨(congrArg (fun z => some (Value.int .i64 z)) (idx_wrap (SlR.len s0) g17)), rfl, rfl, rfl, trivial⟩
theorem slices_Contains_Lintint_c {Fs : List Hp} {G : Hp} {a0 : Option Addr} {k0 : Nat} {x0 : List Int} {x1 : Int} {r : Bool} (hG : G ∈ Fs) (s0 : SlR ri G a0 k0 x0) (h : slices_Contains_Lintint x0 x1 = some r) : RetS Tryz.prog 135 #[.slice a0 x0.length k0, .int .i64 x1] Fs [] [] (fun v bo so => v = .bool r ∧ bo = [] ∧ so = []) := by
 unfold slices_Contains_Lintint at h
 try dsimp only at h
 refine RetS.of (vs := [_, _]) Tryz.func135 rfl Tryz.ntmps135 [(0, _), (1, _)] ⟨rfl, rfl, trivial⟩ rfl hG fun w0 S0 hS0 B0 => ?_
 refine .seq (.region rfl (.av rfl rfl (.re (.seq (.region rfl (.mv rfl rfl (.mv rfl rfl ?_)))))))
 obtain ⟨u1, hu1, r2⟩ := bind_some h
 refine .callS (b1 := []) (b2 := []) (s1 := []) [_, _] [] .ro rfl rfl Tryz.call94 rfl rfl (slices_Index_Lintint_c (G := G) mcs s0 hu1) rfl (fun v4 bo so h3 => ?_)
 obtain ⟨rfl, rfl, rfl⟩ := h3
 refine .same (bl' := []) (sl' := []) rfl rfl rfl (.q .ro (.geq rfl rfl) rfl (.av rfl rfl (.re ?_)))
 cases r2
 refine .retS (.inr ⟨_, rfl⟩) [.tmp 4] [_] rfl Tryz.func135 Tryz.results135 ⟨RV.tmp rfl, trivial⟩ mcm ⟨rfl, rfl, rfl⟩
theorem slices_Index_Lboolbool_c {Fs : List Hp} {G : Hp} {a0 : Option Addr} {k0 : Nat} {x0 : List Bool} {x1 : Bool} {r : Int} (hG : G ∈ Fs) (s0 : SlR Rep.bool G a0 k0 x0) (h : slices_Index_Lboolbool x0 x1 = some r) : RetS Tryz.prog 156 #[.slice a0 x0.length k0, .bool x1] Fs [] [] (fun v bo so => v = .int .i64 r ∧ bo = [] ∧ so = []) := by
 unfold slices_Index_Lboolbool at h
 try dsimp only at h
 refine RetS.of (vs := [_, _]) Tryz.func156 rfl Tryz.ntmps156 [(0, _), (1, _)] ⟨rfl, rfl, trivial⟩ rfl hG fun w0 S0 hS0 B0 => ?_
 refine .seq (.region rfl (.av rfl rfl (.re (.seq (.seq (.region rfl (.mv rfl rfl (.q .ro (.len_sl rfl rfl sl174) rfl (.mv rfl rfl (.re (.block ?_)))))))))))
 refine .loop2 (α := Nat × List Bool) (fun y => [(8, .int .i64 (y.1 : Int))]) [(0, _), (1, _), (7, _)] (fun y => []) (fun y => []) [] (fun y => []) [] (fun y => List.drop y.1 x0 = y.2 ∧ slices_Index_Lboolbool_L1 x1 y.2 y.1  = some r) (fun y => y.2.length) (0, x0) ⟨rfl, h⟩ ⟨rfl, rfl, rfl, rfl, trivial⟩ rfl rfl rfl (fun y hI hb19 => ?_)
 obtain ⟨i15, w16⟩ := y
 obtain ⟨g17, r18⟩ := hI
 try dsimp only at g17 r18
 refine .prune [(8, .int .i64 (i15 : Int)), (0, _), (1, _), (7, _)] ⟨rfl, rfl, rfl, rfl, trivial⟩ (.same (bl' := []) (sl' := []) (Fs' := G :: Fs) rfl rfl rfl ?_)
 cases w16 with
 | nil =>
  rw [slices_Index_Lboolbool_L1] at r18; try dsimp only at r18
  refine .seq (.region rfl (.q .ro (.lss rfl rfl) rfl (.re (.seq ?_))))
  refine .cond_dec rfl (fun c => absurd c (drop_nil g17)) (fun _ => ?_)
  refine .exit rfl (.seq (.region rfl (.av rfl rfl (.re ?_))))
  cases r18
  refine .retS (.inr ⟨_, rfl⟩) [.tmp 4] [_] rfl Tryz.func156 Tryz.results156 ⟨RV.tmp rfl, trivial⟩ mcm ⟨rfl, rfl, rfl⟩
 | cons x24 xs25 =>
  have r23 : slices_Index_Lboolbool_B1 x1 (slices_Index_Lboolbool_L1 x1 xs25 (i15 + 1)) x24 i15  = some r := r18; clear r18; unfold slices_Index_Lboolbool_B1 at r23; try dsimp only at r23
  refine .seq (.region rfl (.q .ro (.lss rfl rfl) rfl (.re (.seq ?_))))
  refine .cond_dec rfl (fun _ => ?_) (fun c => absurd (drop_lt g17) c)
  refine .skip (.seq (.block (.seq (.region rfl (.mv rfl rfl (.av rfl rfl (.re (.seq (.region rfl (.mv rfl rfl (.mv rfl rfl (.mv rfl rfl ?_))))))))))))
  obtain ⟨c26, p27, h28⟩ := SlR.get s0 (drop_idx g17)
  obtain rfl := h28
  refine .q .ro (.idxR s0 rfl rfl (drop_idx g17) sl174 ty4.sz) rfl (.q .ro (.load_rp p27 mcs rfl ty4 rfl) rfl (.q .ro (.eql_b Tryz.underlying4 rfl rfl) rfl (.re ?_)))
  refine .cond_dec rfl (fun c29 => ?_) (fun c29 => ?_)
  ·have r30 := ifT r23 c29; clear r23
   refine .seq (.region rfl (.mv rfl rfl (.av rfl rfl (.re (.prune [(4, _)] ⟨rfl, trivial⟩ ?_)))))
   cases r30
   refine .retS (.inr ⟨_, rfl⟩) [.tmp 4] [_] rfl Tryz.func156 Tryz.results156 ⟨RV.tmp rfl, trivial⟩ mcm ⟨rfl, rfl, rfl⟩
  ·have r31 := ifF r23 c29; clear r23
   refine .skip (.inBlock (.region rfl (.q .ro (.addw rfl rfl) rfl (.mv rfl rfl (.re ?_)))))
   exact .arr (hb19 ((i15 + 1), xs25) ⟨(drop_succ g17), r31⟩ (Nat.lt_succ_self _)) ⟨(congrArg (fun z => some (Value.int .i64 z)) (idx_wrap (SlR.len s0) g17)), rfl, rfl, rfl, trivial⟩
theorem slices_Contains_Lboolbool_c {Fs : List Hp} {G : Hp} {a0 : Option Addr} {k0 : Nat} {x0 : List Bool} {x1 : Bool} {r : Bool} (hG : G ∈ Fs) (s0 : SlR Rep.bool G a0 k0 x0) (h : slices_Contains_Lboolbool x0 x1 = some r) : RetS Tryz.prog 136 #[.slice a0 x0.length k0, .bool x1] Fs [] [] (fun v bo so => v = .bool r ∧ bo = [] ∧ so = []) := by
 unfold slices_Contains_Lboolbool at h
 try dsimp only at h
 refine RetS.of (vs := [_, _]) Tryz.func136 rfl Tryz.ntmps136 [(0, _), (1, _)] ⟨rfl, rfl, trivial⟩ rfl hG fun w0 S0 hS0 B0 => ?_
 refine .seq (.region rfl (.av rfl rfl (.re (.seq (.region rfl (.mv rfl rfl (.mv rfl rfl ?_)))))))
 obtain ⟨u1, hu1, r2⟩ := bind_some h
 refine .callS (b1 := []) (b2 := []) (s1 := []) [_, _] [] .ro rfl rfl Tryz.call156 rfl rfl (slices_Index_Lboolbool_c (G := G) mcs s0 hu1) rfl (fun v4 bo so h3 => ?_)
 obtain ⟨rfl, rfl, rfl⟩ := h3
 refine .same (bl' := []) (sl' := []) rfl rfl rfl (.q .ro (.geq rfl rfl) rfl (.av rfl rfl (.re ?_)))
 cases r2
 refine .retS (.inr ⟨_, rfl⟩) [.tmp 4] [_] rfl Tryz.func136 Tryz.results136 ⟨RV.tmp rfl, trivial⟩ mcm ⟨rfl, rfl, rfl⟩
theorem cuckoo_Fits_c {Fs : List Hp} {G : Hp} {x0_0 : Int} {a0_1 : Option Addr} {k0_1 : Nat} {x0_1 : List (Int × Int)} {a1 : Option Addr} {k1 : Nat} {x1 : List Int} {a2_0 : Option Addr} {k2_0 : Nat} {x2_0 : List Int} {r : Bool} (hG : G ∈ Fs) (s0_1 : SlR (Rep.pair ri ri) G a0_1 k0_1 x0_1) (s1 : SlR ri G a1 k1 x1) (s2_0 : SlR ri G a2_0 k2_0 x2_0) (h : cuckoo_Fits (x0_0, x0_1) x1 x2_0 = some r) : RetS Tryz.prog 93 #[.agg #[.int .i64 x0_0, .slice a0_1 x0_1.length k0_1], .slice a1 x1.length k1, .agg #[.slice a2_0 x2_0.length k2_0]] Fs [] [] (fun v bo so => v = .bool r ∧ bo = [] ∧ so = []) := by
 unfold cuckoo_Fits at h
 try dsimp only at h
 refine RetS.of (vs := [_, _, _]) Tryz.func93 rfl Tryz.ntmps93 [(0, _), (1, _), (2, _)] ⟨rfl, rfl, rfl, trivial⟩ rfl hG fun w0 S0 hS0 B0 => ?_
 refine .seq (.region rfl ?_)
 refine .box [_, _] .ro rfl rfl rfl (fun b1 hb1 => ?_)
 refine .box [_] .ro rfl rfl rfl (fun b2 hb2 => ?_)
 refine .av rfl rfl (.re (.seq (.seq (.region rfl (.q .ro (.load_own_a 1 [_, _] rfl rfl ty83 rfl) rfl (.mv rfl rfl ?_))))))
 obtain ⟨u3, hu3, r4⟩ := bind_some h
 refine .callS (b1 := []) (b2 := [_, _]) (s1 := []) [_, _] [] .ro rfl rfl Tryz.call90 rfl rfl (cuckoo_asked_c (G := G) mcs s0_1 s1 hu3) rfl (fun v6 bo so h5 => ?_)
 obtain ⟨rfl, rfl, rfl⟩ := h5
 refine .same (bl' := [_, _]) (sl' := []) rfl rfl rfl (.q .ro (.neq rfl rfl) rfl (.mv rfl rfl ?_))
 refine .cutR 7 (β := Unit) (fun y => [(21, .bool (decide ((u3 ≠ 0) ∨ ((x2_0.length : Int) ≠ x0_0))))]) [(1, _), (3, _), (5, _)] (fun y => G :: Fs) (fun y => []) [_, _] (fun y => []) [] (fun y => True) ⟨rfl, rfl, rfl, trivial⟩ [0, 1] rfl [] rfl ?_ ?_
 ·rintro _ _
  refine .prune [(21, .bool (decide ((u3 ≠ 0) ∨ ((x2_0.length : Int) ≠ x0_0)))), (1, _), (3, _), (5, _)] ⟨rfl, rfl, rfl, rfl, trivial⟩ (.same (bl' := [_, _]) (sl' := []) (Fs' := G :: Fs) rfl rfl rfl (.re ?_))
  refine .cond_dec rfl (fun c11 => ?_) (fun c11 => ?_)
  ·have r12 := ifT r4 c11; clear r4
   refine .seq (.region rfl (.av rfl rfl (.re ?_)))
   cases r12
   refine .drop 2 0 [] _ rfl rfl ?_
   refine .retS (.inr ⟨_, rfl⟩) [.tmp 6] [_] rfl Tryz.func93 Tryz.results93 ⟨RV.tmp rfl, trivial⟩ mcm ⟨rfl, rfl, rfl⟩
  ·have r13 := ifF r4 c11; clear r4
   refine .skip (.seq (.region rfl (.mv rfl rfl (.q .ro (.len_sl rfl rfl sl22) rfl ?_))))
   obtain ⟨u14, hu14, r15⟩ := bind_some r13
   refine .makeR (G := G) (Q := Rep.bool) .ro sl174 ty4 rfl rfl rfl ((Rep.boolI false) :) rfl rfl hu14 rfl rfl (fun b16 cs17 hb16 o18 => ?_)
   refine .av rfl rfl (.re (.seq (.seq (.region rfl (.q .ro (.fieldAddr 0 rfl fl87_0 ty22.sz rfl) rfl (.q .ro (.load_own 0 rfl rfl ty22 rfl) rfl (.q .ro (.len_sl rfl rfl sl22) rfl (.mv rfl rfl (.re ?_)))))))))
   refine .cutB (β := Hp × List Bool × Option Addr × Nat × List Value × Int) (fun y => [(7, .slice y.2.2.1 y.2.1.length y.2.2.2.1)]) [] (fun y => y.1 :: Fs) (fun y => [(b1, .cells #[.int .i64 y.2.2.2.2.2, .slice a0_1 x0_1.length k0_1] 83 (0, 0))]) [_] (fun y => [.s (.slice y.2.2.1 y.2.1.length y.2.2.2.1) 4 1 y.2.1.length y.2.2.2.2.1]) [] (fun y => HpLe G y.1 ∧ Bd w0 S0 Fs y.1 ∧ OL Rep.bool y.1 y.2.2.2.2.1 y.2.1 ∧ cuckoo_Fits_J1 y.2.1 y.2.2.2.2.2 = some r) trivial [0] rfl [] rfl ?_ ?_
   ·intro y hI
    obtain ⟨G10, v19, a20, k21, cs23, v24⟩ := y
    obtain ⟨e25, B26, o27, r28⟩ := hI
    try dsimp only at e25 B26 o27 r28
    refine .prune [(7, .slice a20 v19.length k21)] ⟨rfl, trivial⟩ (.same (bl' := [(b1, .cells #[.int .i64 v24, .slice a0_1 x0_1.length k0_1] 83 (0, 0)), _]) (sl' := [.s (.slice a20 v19.length k21) 4 1 v19.length cs23]) (Fs' := G10 :: Fs) rfl rfl rfl ?_)
    unfold cuckoo_Fits_J1 at r28
    try dsimp only at r28
    refine .seq (.region rfl (.mv rfl rfl ?_))
    refine .freezeR 0 rfl rfl o27 [] rfl B26 (fun G29 e30 B31 s32 => ?_)
    obtain ⟨u33, hu33, r34⟩ := bind_some r28
    refine .callS (b1 := []) (b2 := [_, _]) (s1 := []) [_, _] [] .ro rfl rfl Tryz.call136 rfl rfl (slices_Contains_Lboolbool_c (G := G29) mcs s32 hu33) rfl (fun v35 bo so h36 => ?_)
    obtain ⟨rfl, rfl, rfl⟩ := h36
    refine .same (bl' := [_, _]) (sl' := []) rfl rfl rfl (.q .ro (.not rfl) rfl (.av rfl rfl (.re ?_)))
    cases r34
    refine .drop 2 0 [] _ rfl rfl ?_
    refine .retS (.inr ⟨_, rfl⟩) [.tmp 6] [_] rfl Tryz.func93 Tryz.results93 ⟨RV.tmp rfl, trivial⟩ mcm ⟨rfl, rfl, rfl⟩
   ·intro hb37
    refine .block ?_
    refine .loop2 (α := Nat × List Int × Hp × List Bool × Option Addr × Nat × List Value) (fun y => [(7, .slice y.2.2.2.2.1 y.2.2.2.1.length y.2.2.2.2.2.1), (28, .int .i64 (y.1 : Int))]) [(1, _), (3, _), (26, _), (27, _)] (fun y => [y.2.2.1]) (fun y => []) [_, _] (fun y => [.s (.slice y.2.2.2.2.1 y.2.2.2.1.length y.2.2.2.2.2.1) 4 1 y.2.2.2.1.length y.2.2.2.2.2.2]) [] (fun y => HpLe G y.2.2.1 ∧ Bd w0 S0 Fs y.2.2.1 ∧ OL Rep.bool y.2.2.1 y.2.2.2.2.2.2 y.2.2.2.1 ∧ List.drop y.1 x2_0 = y.2.1 ∧ cuckoo_Fits_L2 cuckoo_Fits_J1 x1 x0_0 x0_1 y.2.1 y.1 y.2.2.2.1 = some r) (fun y => y.2.1.length) (0, x2_0, G, u14, (some ⟨b16, 0, none⟩), u14.length, cs17) ⟨(HpLe.refl _), B0, o18, rfl, r15⟩ ⟨rfl, rfl, rfl, rfl, rfl, rfl, trivial⟩ rfl rfl rfl (fun y hI hb38 => ?_)
    obtain ⟨i39, w40, G41, v42, a43, k44, cs45⟩ := y
    obtain ⟨e46, B47, o48, g49, r50⟩ := hI
    try dsimp only at e46 B47 o48 g49 r50
    refine .prune [(7, .slice a43 v42.length k44), (28, .int .i64 (i39 : Int)), (1, _), (3, _), (26, _), (27, _)] ⟨rfl, rfl, rfl, rfl, rfl, rfl, trivial⟩ (.same (bl' := [_, _]) (sl' := [.s (.slice a43 v42.length k44) 4 1 v42.length cs45]) (Fs' := G41 :: Fs) rfl rfl rfl ?_)
    cases w40 with
    | nil =>
     rw [cuckoo_Fits_L2] at r50; try dsimp only at r50
     refine .seq (.region rfl (.q .ro (.lss rfl rfl) rfl (.re (.seq ?_))))
     refine .cond_dec rfl (fun c => absurd c (drop_nil g49)) (fun _ => ?_)
     refine .exit rfl (.pull 1 rfl [_, _] rfl ?_)
     exact .arr (hb37 (G41, v42, a43, k44, cs45, x0_0) ⟨e46, B47, o48, r50⟩) ⟨rfl, trivial⟩
    | cons x51 xs52 =>
     have r53 : cuckoo_Fits_B2 cuckoo_Fits_J1 x1 x0_0 x0_1 (cuckoo_Fits_L2 cuckoo_Fits_J1 x1 x0_0 x0_1 xs52 (i39 + 1)) x51 i39 v42 = some r := r50; clear r50; unfold cuckoo_Fits_B2 at r53; try dsimp only at r53
     refine .seq (.region rfl (.q .ro (.lss rfl rfl) rfl (.re (.seq ?_))))
     refine .cond_dec rfl (fun _ => ?_) (fun c => absurd (drop_lt g49) c)
     refine .skip (.seq (.block (.seq (.region rfl (.mv rfl rfl ?_)))))
     obtain ⟨c54, p55, h56⟩ := SlR.get (SlR.mono e46 s2_0) (drop_idx g49)
     obtain rfl := h56
     refine .q .ro (.idxR (SlR.mono e46 s2_0) rfl rfl (drop_idx g49) sl22 ty3.sz) rfl (.q .ro (.load_rp p55 mcs rfl ty3 rfl) rfl (.av rfl rfl (.av rfl rfl (.re (.seq (.seq (.region rfl (.mv rfl rfl (.q .ro (.eql rfl rfl) rfl (.re ?_))))))))))
     refine .cond_dec rfl (fun c57 => ?_) (fun c57 => ?_)
     ·have r58 := ifT r53 c57; clear r53
      refine .exit rfl (.region rfl (.q .ro (.addw rfl rfl) rfl (.mv rfl rfl (.re ?_))))
      exact .arr (hb38 ((i39 + 1), xs52, G41, v42, a43, k44, cs45) ⟨e46, B47, o48, (drop_succ g49), r58⟩ (Nat.lt_succ_self _)) ⟨rfl, (congrArg (fun z => some (Value.int .i64 z)) (idx_wrap (SlR.len s2_0) g49)), rfl, rfl, rfl, rfl, trivial⟩
     ·have r59 := ifF r53 c57; clear r53
      refine .skip (.seq (.seq (.drawL (.q 0 (.q 1 (.q 2 (.q 3 (.q 4 (.q 5 (.q 6 (.q 7 (.q 8 (.q 9 (.q 10 (.e 11 1 (.e 12 1 (.q 13 (.q 14 (.q 15 (.q 16 (.q 17 (.q 18 (.q 19 (.q 21 (.e 20 1 (.e 22 1 (.q 23 (.q 24 .nil))))))))))))))))))))))))) [_, _] (by kernel_rfl) (by kernel_rfl) (pick_mem [0, 1] rfl) (.dq (.move rfl) rfl (.dq (.lss rfl rfl) rfl (.dq (.move rfl) rfl ?_))))))
      refine .cutD 5 (β := Unit) (fun y => [(42, .bool (decide ((x51 < 0) ∨ ((x1.length : Int) ≤ x51))))]) [(7, _), (28, _), (1, _), (3, _), (26, _), (27, _), (8, _), (9, _)] (fun y => G41 :: Fs) (fun y => []) [_, _] (fun y => []) [_] (fun y => True) ⟨rfl, rfl, rfl, rfl, rfl, rfl, rfl, rfl, trivial⟩ [0, 1] rfl [0] rfl ?_ ?_
      ·rintro _ _
       refine .prune [(42, .bool (decide ((x51 < 0) ∨ ((x1.length : Int) ≤ x51)))), (7, _), (28, _), (1, _), (3, _), (26, _), (27, _), (8, _), (9, _)] ⟨rfl, rfl, rfl, rfl, rfl, rfl, rfl, rfl, rfl, trivial⟩ (.same (bl' := [_, _]) (sl' := [_]) (Fs' := G41 :: Fs) rfl rfl rfl (.dq (.move rfl) rfl ?_))
       obtain ⟨u60, h61, r62⟩ := bind_some r59
       refine .cutD 5 (β := Unit) (fun y => [(48, .bool u60)]) [(7, _), (28, _), (1, _), (3, _), (26, _), (27, _), (8, _), (9, _)] (fun y => G41 :: Fs) (fun y => []) [_, _] (fun y => []) [_] (fun y => True) ⟨rfl, rfl, rfl, rfl, rfl, rfl, rfl, rfl, trivial⟩ [0, 1] rfl [0] rfl ?_ ?_
       ·rintro _ _
        refine .prune [(48, .bool u60), (7, _), (28, _), (1, _), (3, _), (26, _), (27, _), (8, _), (9, _)] ⟨rfl, rfl, rfl, rfl, rfl, rfl, rfl, rfl, rfl, trivial⟩ (.same (bl' := [_, _]) (sl' := [_]) (Fs' := G41 :: Fs) rfl rfl rfl (.dq (.move rfl) rfl ?_))
        obtain ⟨u63, h65, r66⟩ := bind_some r62
        refine .cutD 10 (β := Hp) (fun y => [(59, .bool u63)]) [(7, _), (28, _), (1, _), (3, _), (26, _), (27, _), (9, _)] (fun y => y :: Fs) (fun y => []) [_, _] (fun y => []) [_] (fun y => HpLe G41 y ∧ Bd w0 S0 Fs y) ⟨rfl, rfl, rfl, rfl, rfl, rfl, rfl, trivial⟩ [0, 1] rfl [0] rfl ?_ ?_
        ·rintro G67 ⟨e68, B69⟩
         refine .prune [(59, .bool u63), (7, _), (28, _), (1, _), (3, _), (26, _), (27, _), (9, _)] ⟨rfl, rfl, rfl, rfl, rfl, rfl, rfl, rfl, trivial⟩ (.same (bl' := [_, _]) (sl' := [_]) (Fs' := G67 :: Fs) rfl rfl rfl (.draw_end ?_))
         refine .cond rfl (fun c70 => ?_) (fun c70 => ?_)
         ·have r71 := ifT r66 c70; clear r66
          refine .seq (.region rfl (.av rfl rfl (.re ?_)))
          cases r71
          refine .drop 2 0 [] _ rfl rfl (.drop 0 1 _ [] rfl rfl ?_)
          refine .retS (.inr ⟨_, rfl⟩) [.tmp 6] [_] rfl Tryz.func93 Tryz.results93 ⟨RV.tmp rfl, trivial⟩ mcm ⟨rfl, rfl, rfl⟩
         ·have r72 := ifBF r66 c70; clear r66
          refine .skip (.region rfl (.mv rfl rfl (.mv rfl rfl ?_)))
          obtain ⟨u73, hu73, r74⟩ := bind_some r72
          obtain ⟨c75, p76, h77⟩ := OL.get (OL.mono e68 o48) hu73
          obtain rfl := h77
          refine .q .ro (.idxO 0 rfl rfl rfl hu73 sl174 ty4.sz) rfl ?_
          obtain ⟨u78, hu78, r79⟩ := bind_some r74
          refine .storeR 0 0 (Q := Rep.bool) .ro rfl rfl (OL.mono e68 o48) hu78 rfl (.inl ⟨rfl, rfl⟩) rfl ty4 p76 ((Rep.boolI true) :) rfl rfl (fun cs80 hlcs80 o81 => ?_)
          refine .reval 7 hlcs80 rfl (.reval 60 hlcs80 rfl (.re (.inBlock (.region rfl (.q .ro (.addw rfl rfl) rfl (.mv rfl rfl (.re ?_)))))))
          exact .arr (hb38 ((i39 + 1), xs52, G67, u78, a43, k44, cs80) ⟨(HpLe.trans e46 e68), B69, o81, (drop_succ g49), r79⟩ (Nat.lt_succ_self _)) ⟨rfl, (congrArg (fun z => some (Value.int .i64 z)) (idx_wrap (SlR.len s2_0) g49)), rfl, rfl, rfl, rfl, trivial⟩
        ·intro hb82
         refine .split_b 49 rfl (fun c84 => ?_) (fun c84 => ?_)
         ·have r85 := ifT h65 c84
          refine .dgq_off rfl rfl rfl (.dgq_off rfl rfl rfl (.dgq_off rfl rfl rfl (.dgq_off rfl rfl rfl (.dgq_off rfl rfl rfl (.dgq_off rfl rfl rfl (.dge_offL rfl rfl rfl (HpLe.refl _) (pick_mem [0, 1] rfl) (.dge_offL rfl rfl rfl (HpLe.refl _) (pick_mem [0, 1] rfl) (.dgq_off rfl rfl rfl (.dq (.pick_t rfl rfl) rfl ?_)))))))))
          exact .arr (hb82 G41 ⟨(HpLe.refl _), B47⟩) ⟨sval r85, rfl, rfl, rfl, rfl, rfl, rfl, rfl, trivial⟩
         ·have r86 := ifBF h65 c84
          refine .dgq_on rfl (.dq (.load_own_a 1 [_, _] rfl rfl ty83 rfl) rfl (.dgq_on rfl (.dq (.move rfl) rfl (.dgq_on rfl (.dq (.move rfl) rfl (.dgq_on rfl ?_))))))
          obtain ⟨u88, hu88, r91⟩ := bind_some r86
          obtain ⟨c92, p94, h95⟩ := SlR.get (SlR.mono e46 s1) hu88
          obtain rfl := h95
          refine .dq (.idxR (SlR.mono e46 s1) rfl rfl hu88 sl22 ty3.sz) rfl (.dgq_on rfl (.dq (.load_rp p94 mcs rfl ty3 rfl) rfl (.dgq_on rfl (.dq (.move rfl) rfl (.dge_on rfl ?_)))))
          obtain ⟨u96, hu96, r97⟩ := bind_some r91
          refine .callS (b1 := []) (b2 := [_, _]) (s1 := []) [_, _] [] .d1 rfl rfl Tryz.call89 rfl rfl (cuckoo_homes_c (G := G41) mcs (SlR.mono e46 s0_1) hu96) rfl (fun v98 bo so h99 => ?_)
          obtain ⟨a100, k101, cs102, rfl, rfl, rfl, o103⟩ := h99
          refine .same (bl' := [_, _]) (sl' := [_, _]) rfl rfl rfl (.clsL (HpLe.refl _) (pick_mem [0, 1] rfl) (.dge_on rfl ?_))
          refine .freezeR 0 rfl rfl o103 [_] rfl B47 (fun G104 e105 B106 s107 => ?_)
          obtain ⟨u108, hu108, r109⟩ := bind_some r97
          refine .callS (b1 := []) (b2 := [_, _]) (s1 := []) [_, _] [] .d1 rfl rfl Tryz.call135 rfl rfl (slices_Contains_Lintint_c (G := G104) mcs s107 hu108) rfl (fun v110 bo so h111 => ?_)
          obtain ⟨rfl, rfl, rfl⟩ := h111
          refine .same (bl' := [_, _]) (sl' := [_]) rfl rfl rfl (.clsL e105 (pick_mem [0, 1] rfl) (.dgq_on rfl (.dq (.not rfl) rfl (.dq (.pick_f rfl rfl) rfl ?_))))
          exact .arr (hb82 G104 ⟨e105, B106⟩) ⟨sval r109, rfl, rfl, rfl, rfl, rfl, rfl, rfl, trivial⟩
       ·intro hb112
        refine .split 43 rfl (fun c113 => ?_) (fun c113 => ?_)
        ·have r114 := ifT h61 c113
         refine .dgq_off rfl rfl rfl (.dgq_off rfl rfl rfl (.dge_offL rfl rfl rfl (HpLe.refl _) (pick_mem [0, 1] rfl) (.dge_offL rfl rfl rfl (HpLe.refl _) (pick_mem [0, 1] rfl) (.dq (.pick_t rfl rfl) rfl ?_))))
         exact .arr (hb112 () trivial) ⟨sval r114, rfl, rfl, rfl, rfl, rfl, rfl, rfl, rfl, trivial⟩
        ·have r115 := ifF h61 c113
         refine .dgq_on rfl (.dq (.move rfl) rfl (.dgq_on rfl (.dq (.move rfl) rfl (.dge_on rfl ?_))))
         obtain ⟨u116, hu116, r117⟩ := bind_some r115
         obtain ⟨c118, p119, h120⟩ := OL.get o48 hu116
         obtain rfl := h120
         refine .q .d1 (.idxO 0 rfl rfl rfl hu116 sl174 ty4.sz) rfl (.clsL (HpLe.refl _) (pick_mem [0, 1] rfl) (.dge_on rfl (.q .d1 (.loadO 0 0 rfl hu116 p119 rfl (.inl ⟨rfl, rfl⟩) ty4 rfl) rfl (.clsL (HpLe.refl _) (pick_mem [0, 1] rfl) (.dq (.pick_f rfl rfl) rfl ?_)))))
         exact .arr (hb112 () trivial) ⟨sval r117, rfl, rfl, rfl, rfl, rfl, rfl, rfl, rfl, trivial⟩
      ·intro hb121
       refine .split 37 rfl (fun c122 => ?_) (fun c122 => ?_)
       ·refine .dgq_off rfl rfl rfl ?_
        refine .dgq_off rfl rfl rfl (.dgq_off rfl rfl rfl (.dgq_off rfl rfl rfl (.dq (.pick_t rfl rfl) rfl ?_)))
        exact .arr (hb121 () trivial) ⟨dor_t c122, rfl, rfl, rfl, rfl, rfl, rfl, rfl, rfl, trivial⟩
       ·refine .dgq_on rfl ?_
        refine .dq (.move rfl) rfl (.dgq_on rfl (.dq (.move rfl) rfl (.dgq_on rfl (.dq (.len_sl rfl rfl sl22) rfl (.dgq_on rfl (.dq (.geq rfl rfl) rfl (.dq (.pick_f rfl rfl) rfl ?_)))))))
        exact .arr (hb121 () trivial) ⟨dor_f c122, rfl, rfl, rfl, rfl, rfl, rfl, rfl, rfl, trivial⟩
 ·intro hb8
  refine .split 14 rfl (fun c7 => ?_) (fun c7 => ?_)
  ·refine .g_off rfl rfl rfl ?_
   refine .g_off rfl rfl rfl (.g_off rfl rfl rfl (.g_off rfl rfl rfl (.g_off rfl rfl rfl (.g_off rfl rfl rfl (.q .ro (.pick_t rfl rfl) rfl ?_)))))
   exact .arr (hb8 () trivial) ⟨dor_t c7, rfl, rfl, rfl, trivial⟩
  ·refine .g_on rfl ?_
   refine .q .ro (.fieldAddr 0 rfl fl87_0 ty22.sz rfl) rfl (.g_on rfl (.q .ro (.load_own 0 rfl rfl ty22 rfl) rfl (.g_on rfl (.q .ro (.len_sl rfl rfl sl22) rfl (.g_on rfl (.q .ro (.fieldAddr 0 rfl fl83_0 ty3.sz rfl) rfl (.g_on rfl (.q .ro (.load_own 1 rfl rfl ty3 rfl) rfl (.g_on rfl (.q .ro (.neq rfl rfl) rfl (.q .ro (.pick_f rfl rfl) rfl ?_)))))))))))
   exact .arr (hb8 () trivial) ⟨dor_f c7, rfl, rfl, rfl, trivial⟩
theorem cuckoo_Spots_c {Fs : List Hp} {G : Hp} {x0_0 : Int} {a0_1 : Option Addr} {k0_1 : Nat} {x0_1 : List (Int × Int)} {a1 : Option Addr} {k1 : Nat} {x1 : List Int} {a2_0 : Option Addr} {k2_0 : Nat} {x2_0 : List Int} {r : ((List Int) × Int)} (hG : G ∈ Fs) (s0_1 : SlR (Rep.pair ri ri) G a0_1 k0_1 x0_1) (s1 : SlR ri G a1 k1 x1) (s2_0 : SlR ri G a2_0 k2_0 x2_0) (h : cuckoo_Spots (x0_0, x0_1) x1 x2_0 = some r) : RetS Tryz.prog 36 #[.agg #[.int .i64 x0_0, .slice a0_1 x0_1.length k0_1], .slice a1 x1.length k1, .agg #[.slice a2_0 x2_0.length k2_0]] Fs [] [] (fun v bo so => ∃ (oa0 : Option Addr) (ok0 : Nat) (oc0 : List Value), v = .tuple #[.slice oa0 r.1.length ok0, .int .i64 r.2] ∧ bo = [] ∧ so = [.s (.slice oa0 r.1.length ok0) 3 1 r.1.length oc0] ∧ OL ri G oc0 r.1) := by
 unfold cuckoo_Spots at h
 try dsimp only at h
 refine RetS.of (vs := [_, _, _]) Tryz.func36 rfl Tryz.ntmps36 [(0, _), (1, _), (2, _)] ⟨rfl, rfl, rfl, trivial⟩ rfl hG fun w0 S0 hS0 B0 => ?_
 refine .seq (.region rfl ?_)
 refine .box [_, _] .ro rfl rfl rfl (fun b1 hb1 => ?_)
 refine .box [_] .ro rfl rfl rfl (fun b2 hb2 => ?_)
 refine .av rfl rfl (.av rfl rfl (.re (.seq (.seq (.region rfl (.q .ro (.load_own_a 1 [_, _] rfl rfl ty83 rfl) rfl ?_))))))
 obtain ⟨u3, hu3, r4⟩ := bind_some h
 refine .callS (b1 := []) (b2 := [_, _]) (s1 := []) [_] [] .ro rfl rfl Tryz.call88 rfl rfl (cuckoo_Check_c (G := G) mcs s0_1 hu3) rfl (fun v6 bo so h5 => ?_)
 obtain ⟨rfl, rfl, rfl⟩ := h5
 refine .same (bl' := [_, _]) (sl' := []) rfl rfl rfl (.av rfl rfl (.re (.seq (.region rfl (.mv rfl rfl (.q .ro (.neq rfl rfl) rfl (.re ?_)))))))
 refine .cond_dec rfl (fun c7 => ?_) (fun c7 => ?_)
 ·have r8 := ifT r4 c7; clear r4
  refine .seq (.region rfl (.mv rfl rfl (.av rfl rfl (.av rfl rfl (.re (.own_nil 3 1 ?_))))))
  cases r8
  refine .drop 2 0 [] _ rfl rfl ?_
  refine .retS (.inr ⟨_, rfl⟩) [.tmp 6, .tmp 7] [_, _] rfl Tryz.func36 Tryz.results36 ⟨RV.tmp rfl, RV.tmp rfl, trivial⟩ mcm ⟨none, 0, [], rfl, rfl, rfl, (OL.nil (Rp' := ri))⟩
 ·have r10 := ifF r4 c7; clear r4
  refine .skip (.seq (.region rfl (.av rfl rfl (.re (.seq (.seq (.region rfl (.mv rfl rfl (.q .ro (.len_sl rfl rfl sl22) rfl (.mv rfl rfl (.re ?_)))))))))))
  refine .cutB (β := Int × Int) (fun y => [(9, .int .i64 y.1)]) [(1, _), (3, _), (5, _)] (fun y => G :: Fs) (fun y => [(b1, .cells #[.int .i64 y.2, .slice a0_1 x0_1.length k0_1] 83 (0, 0))]) [_] (fun y => []) [] (fun y => (cuckoo_Spots_J2 x1 x0_1 x2_0) y.1 y.2 = some r) ⟨rfl, rfl, rfl, trivial⟩ [0] rfl [] rfl ?_ ?_
  ·intro y hI
   obtain ⟨v57, v58⟩ := y
   have r60 := hI; clear hI
   try dsimp only at r60
   refine .prune [(9, .int .i64 v57), (1, _), (3, _), (5, _)] ⟨rfl, rfl, rfl, rfl, trivial⟩ (.same (bl' := [(b1, .cells #[.int .i64 v58, .slice a0_1 x0_1.length k0_1] 83 (0, 0)), _]) (sl' := []) (Fs' := G :: Fs) rfl rfl rfl ?_)
   unfold cuckoo_Spots_J2 at r60
   try dsimp only at r60
   refine .seq (.seq (.region rfl (.q .ro (.load_own_a 0 [_, _] rfl rfl ty83 rfl) rfl (.mv rfl rfl (.q .ro (.load_own_a 1 [_] rfl rfl ty87 rfl) rfl ?_)))))
   obtain ⟨u64, hu64, r65⟩ := bind_some r60
   refine .callS (b1 := []) (b2 := [_, _]) (s1 := []) [_, _, _] [] .ro rfl rfl Tryz.call93 rfl rfl (cuckoo_Fits_c (G := G) mcs s0_1 s1 s2_0 hu64) rfl (fun v67 bo so h66 => ?_)
   obtain ⟨rfl, rfl, rfl⟩ := h66
   refine .same (bl' := [_, _]) (sl' := []) rfl rfl rfl (.q .ro (.not rfl) rfl (.re ?_))
   refine .cond rfl (fun c68 => ?_) (fun c68 => ?_)
   ·have r69 := ifT r65 c68; clear r65
    refine .seq (.region rfl (.av rfl rfl (.av rfl rfl (.re (.own_nil 3 1 ?_)))))
    cases r69
    refine .drop 2 0 [] _ rfl rfl ?_
    refine .retS (.inr ⟨_, rfl⟩) [.tmp 6, .tmp 7] [_, _] rfl Tryz.func36 Tryz.results36 ⟨RV.tmp rfl, RV.tmp rfl, trivial⟩ mcm ⟨none, 0, [], rfl, rfl, rfl, (OL.nil (Rp' := ri))⟩
   ·have r71 := ifBF r65 c68; clear r65
    refine .skip (.seq (.region rfl (.q .ro (.load_own_a 0 [_, _] rfl rfl ty83 rfl) rfl (.mv rfl rfl (.q .ro (.addw rfl rfl) rfl ?_)))))
    obtain ⟨u72, hu72, r73⟩ := bind_some r71
    refine .callW (b1 := []) (b2 := [_, _]) (s1 := []) [_, _] [] .ro rfl rfl Tryz.call34 rfl rfl (cuckoo_Layout_c (G := G) mcs s0_1 hu72) rfl B0 (fun v75 bo so G76 e77 B78 h74 => ?_)
    obtain ⟨a80, k81, rfl, rfl, rfl, s82⟩ := h74
    refine .same (bl' := [_, _]) (sl' := []) rfl rfl rfl (.mv rfl rfl (.q .ro (.extract rfl rfl) rfl (.q .ro (.extract rfl rfl) rfl (.av rfl rfl (.av rfl rfl (.re (.prune [(1, _), (5, _), (12, _)] ⟨rfl, rfl, rfl, trivial⟩ (.seq (.region rfl (.av rfl rfl (.re (.seq (.seq (.region rfl (.mv rfl rfl (.q .ro (.len_sl rfl rfl sl22) rfl (.mv rfl rfl (.re (.block (.own_nil 3 1 ?_))))))))))))))))))))
    refine .loop2 (α := Nat × List Int × List Int × Option Addr × Nat × List Value) (fun y => [(14, .slice y.2.2.2.1 y.2.2.1.length y.2.2.2.2.1), (52, .int .i64 (y.1 : Int))]) [(5, _), (12, _), (50, _), (51, _)] (fun y => []) (fun y => []) [_, _] (fun y => [.s (.slice y.2.2.2.1 y.2.2.1.length y.2.2.2.2.1) 3 1 y.2.2.1.length y.2.2.2.2.2]) [] (fun y => OL ri G76 y.2.2.2.2.2 y.2.2.1 ∧ List.drop y.1 x1 = y.2.1 ∧ cuckoo_Spots_L1 u72.1 x2_0 y.2.1 y.1 y.2.2.1 = some r) (fun y => y.2.1.length) (0, x1, ([] : List Int), none, 0, []) ⟨(OL.nil (Rp' := ri)), rfl, r73⟩ ⟨rfl, rfl, rfl, rfl, rfl, rfl, trivial⟩ rfl rfl rfl (fun y hI hb11 => ?_)
    obtain ⟨i12, w13, v14, a15, k16, cs17⟩ := y
    obtain ⟨o18, g19, r20⟩ := hI
    try dsimp only at o18 g19 r20
    refine .prune [(14, .slice a15 v14.length k16), (52, .int .i64 (i12 : Int)), (5, _), (12, _), (50, _), (51, _)] ⟨rfl, rfl, rfl, rfl, rfl, rfl, trivial⟩ (.same (bl' := [_, _]) (sl' := [.s (.slice a15 v14.length k16) 3 1 v14.length cs17]) (Fs' := G76 :: Fs) rfl rfl rfl ?_)
    cases w13 with
    | nil =>
     rw [cuckoo_Spots_L1] at r20; try dsimp only at r20
     refine .seq (.region rfl (.q .ro (.lss rfl rfl) rfl (.re (.seq ?_))))
     refine .cond_dec rfl (fun c => absurd c (drop_nil g19)) (fun _ => ?_)
     refine .exit rfl (.seq (.region rfl (.mv rfl rfl (.av rfl rfl (.av rfl rfl (.re ?_))))))
     cases r20
     refine .drop 2 0 [] _ rfl rfl ?_
     refine .retS (.inr ⟨_, rfl⟩) [.tmp 6, .tmp 7] [_, _] rfl Tryz.func36 Tryz.results36 ⟨RV.tmp rfl, RV.tmp rfl, trivial⟩ mcm ⟨a15, k16, cs17, rfl, rfl, rfl, (OL.flat (Rep.flat_int _) o18)⟩
    | cons x21 xs23 =>
     have r24 : cuckoo_Spots_B1 u72.1 x2_0 (cuckoo_Spots_L1 u72.1 x2_0 xs23 (i12 + 1)) x21 i12 v14 = some r := r20; clear r20; unfold cuckoo_Spots_B1 at r24; try dsimp only at r24
     refine .seq (.region rfl (.q .ro (.lss rfl rfl) rfl (.re (.seq ?_))))
     refine .cond_dec rfl (fun _ => ?_) (fun c => absurd (drop_lt g19) c)
     refine .skip (.seq (.block (.seq (.region rfl (.mv rfl rfl ?_)))))
     obtain ⟨c25, p26, h27⟩ := SlR.get (SlR.mono e77 s1) (drop_idx g19)
     obtain rfl := h27
     refine .q .ro (.idxR (SlR.mono e77 s1) rfl rfl (drop_idx g19) sl22 ty3.sz) rfl (.q .ro (.load_rp p26 mcs rfl ty3 rfl) rfl (.av rfl rfl (.av rfl rfl (.re (.region rfl (.mv rfl rfl (.mv rfl rfl (.q .ro (.fieldAddr 0 rfl fl87_0 ty22.sz rfl) rfl (.q .ro (.load_own 1 rfl rfl ty22 rfl) rfl (.mv rfl rfl ?_))))))))))
     obtain ⟨u28, hu28, r29⟩ := bind_some r24
     refine .callS (b1 := []) (b2 := [_, _]) (s1 := []) [_, _] [] .ro rfl rfl Tryz.call94 rfl rfl (slices_Index_Lintint_c (G := G76) mcs (SlR.mono e77 s2_0) hu28) rfl (fun v30 bo so h31 => ?_)
     obtain ⟨rfl, rfl, rfl⟩ := h31
     refine .same (bl' := [_, _]) (sl' := [_]) rfl rfl rfl ?_
     obtain ⟨u32, hu32, r33⟩ := bind_some r29
     obtain ⟨c35, p37, h38⟩ := SlR.get s82 hu32
     obtain ⟨a39, k40, rfl, s41⟩ := h38
     refine .q .ro (.idxR s82 rfl rfl hu32 sl51 ty22.sz) rfl (.q .ro (.load_rp p37 mcs rfl ty22 rfl) rfl (.mv rfl rfl ?_))
     obtain ⟨u42, hu42, r43⟩ := bind_some r33
     refine .callS (b1 := []) (b2 := [_, _]) (s1 := []) [_, _] [] .ro rfl rfl Tryz.call94 rfl rfl (slices_Index_Lintint_c (G := G76) mcs s41 hu42) rfl (fun v44 bo so h45 => ?_)
     obtain ⟨rfl, rfl, rfl⟩ := h45
     refine .same (bl' := [_, _]) (sl' := [_]) rfl rfl rfl ?_
     refine .lit [_] [(0, _)] .ro sl22 ty3 rfl rfl rfl rfl rfl rfl (fun b46 hb46 => ?_)
     have o47 : OL ri G76 [.int .i64 u42] ([u42] : List Int) := ((OL.cons rfl (Rep.intI .i64 u42) (OL.nil (Rp' := ri))) :)
     refine .reval 67 (n' := ([u42] : List Int).length) rfl rfl ?_
     obtain ⟨u48, hu48, r49⟩ := bind_some r43
     refine .appO (Q := ri) 0 .ro sl22 ty3 rfl rfl rfl rfl rfl rfl o18 o47 rfl rfl rfl B78 hu48 rfl (fun a50 k52 cs53 o54 => ?_)
     refine .av rfl rfl (.re (.prune [(14, _), (52, _), (5, _), (12, _), (50, _), (51, _)] ⟨rfl, rfl, rfl, rfl, rfl, rfl, trivial⟩ (.inBlock (.region rfl (.q .ro (.addw rfl rfl) rfl (.mv rfl rfl (.re ?_)))))))
     exact .arr (hb11 ((i12 + 1), xs23, u48, a50, k52, cs53) ⟨o54, (drop_succ g19), r49⟩ (Nat.lt_succ_self _)) ⟨rfl, (congrArg (fun z => some (Value.int .i64 z)) (idx_wrap (SlR.len (SlR.mono e77 s1)) g19)), rfl, rfl, rfl, rfl, trivial⟩
  ·intro hb55
   refine .block ?_
   refine .loop2 (α := Nat × List Int × Int) (fun y => [(9, .int .i64 y.2.2), (24, .int .i64 (y.1 : Int))]) [(1, _), (3, _), (5, _), (22, _), (23, _)] (fun y => []) (fun y => []) [_, _] (fun y => []) [] (fun y => List.drop y.1 x1 = y.2.1 ∧ cuckoo_Spots_L3 (cuckoo_Spots_J2 x1 x0_1 x2_0) x0_0 y.2.1 y.2.2 = some r) (fun y => y.2.1.length) (0, x1, (-1)) ⟨rfl, r10⟩ ⟨rfl, rfl, rfl, rfl, rfl, rfl, rfl, trivial⟩ rfl rfl rfl (fun y hI hb56 => ?_)
   obtain ⟨i59, w61, v62⟩ := y
   obtain ⟨g63, r70⟩ := hI
   try dsimp only at g63 r70
   refine .prune [(9, .int .i64 v62), (24, .int .i64 (i59 : Int)), (1, _), (3, _), (5, _), (22, _), (23, _)] ⟨rfl, rfl, rfl, rfl, rfl, rfl, rfl, trivial⟩ (.same (bl' := [_, _]) (sl' := []) (Fs' := G :: Fs) rfl rfl rfl ?_)
   cases w61 with
   | nil =>
    rw [cuckoo_Spots_L3] at r70; try dsimp only at r70
    refine .seq (.region rfl (.q .ro (.lss rfl rfl) rfl (.re (.seq ?_))))
    refine .cond_dec rfl (fun c => absurd c (drop_nil g63)) (fun _ => ?_)
    refine .exit rfl (.pull 1 rfl [_, _] rfl ?_)
    exact .arr (hb55 (v62, x0_0) r70) ⟨rfl, rfl, rfl, rfl, trivial⟩
   | cons x79 xs84 =>
    have r85 : cuckoo_Spots_B3 (cuckoo_Spots_J2 x1 x0_1 x2_0) x0_0 (cuckoo_Spots_L3 (cuckoo_Spots_J2 x1 x0_1 x2_0) x0_0 xs84) x79 v62 = some r := r70; clear r70; unfold cuckoo_Spots_B3 at r85; try dsimp only at r85
    refine .seq (.region rfl (.q .ro (.lss rfl rfl) rfl (.re (.seq ?_))))
    refine .cond_dec rfl (fun _ => ?_) (fun c => absurd (drop_lt g63) c)
    refine .skip (.seq (.block (.seq (.region rfl ?_))))
    obtain ⟨c86, p89, h90⟩ := SlR.get s1 (drop_idx g63)
    obtain rfl := h90
    refine .q .ro (.idxR s1 rfl rfl (drop_idx g63) sl22 ty3.sz) rfl (.q .ro (.load_rp p89 mcs rfl ty3 rfl) rfl (.av rfl rfl (.re (.seq (.seq (.region rfl (.mv rfl rfl (.q .ro (.lss rfl rfl) rfl (.mv rfl rfl ?_)))))))))
    refine .cutR 3 (β := Unit) (fun y => [(33, .bool (decide ((x79 < 0) ∨ (1024 ≤ x79))))]) [(9, _), (24, _), (1, _), (3, _), (5, _), (22, _), (23, _), (11, _)] (fun y => G :: Fs) (fun y => []) [_, _] (fun y => []) [] (fun y => True) ⟨rfl, rfl, rfl, rfl, rfl, rfl, rfl, rfl, trivial⟩ [0, 1] rfl [] rfl ?_ ?_
    ·rintro _ _
     refine .prune [(33, .bool (decide ((x79 < 0) ∨ (1024 ≤ x79)))), (9, _), (24, _), (1, _), (3, _), (5, _), (22, _), (23, _), (11, _)] ⟨rfl, rfl, rfl, rfl, rfl, rfl, rfl, rfl, rfl, trivial⟩ (.same (bl' := [_, _]) (sl' := []) (Fs' := G :: Fs) rfl rfl rfl (.re ?_))
     refine .cond_dec rfl (fun c91 => ?_) (fun c91 => ?_)
     ·have r92 := ifT r85 c91; clear r85
      refine .seq (.region rfl (.av rfl rfl (.av rfl rfl (.re (.own_nil 3 1 ?_)))))
      cases r92
      refine .drop 2 0 [] _ rfl rfl ?_
      refine .retS (.inr ⟨_, rfl⟩) [.tmp 6, .tmp 7] [_, _] rfl Tryz.func36 Tryz.results36 ⟨RV.tmp rfl, RV.tmp rfl, trivial⟩ mcm ⟨none, 0, [], rfl, rfl, rfl, (OL.nil (Rp' := ri))⟩
     ·have r95 := ifF r85 c91; clear r85
      refine .skip (.region rfl (.mv rfl rfl (.mv rfl rfl (.q .ro (.max2 rfl rfl) rfl (.av rfl rfl (.re (.inBlock (.region rfl (.q .ro (.addw rfl rfl) rfl (.mv rfl rfl (.re ?_)))))))))))
      exact .arr (hb56 ((i59 + 1), xs84, (max v62 x79)) ⟨(drop_succ g63), r95⟩ (Nat.lt_succ_self _)) ⟨rfl, (congrArg (fun z => some (Value.int .i64 z)) (idx_wrap (SlR.len s1) g63)), rfl, rfl, rfl, rfl, rfl, trivial⟩
    ·intro hb96
     refine .split 30 rfl (fun c97 => ?_) (fun c97 => ?_)
     ·refine .g_off rfl rfl rfl ?_
      refine .g_off rfl rfl rfl (.q .ro (.pick_t rfl rfl) rfl ?_)
      exact .arr (hb96 () trivial) ⟨dor_t c97, rfl, rfl, rfl, rfl, rfl, rfl, rfl, rfl, trivial⟩
     ·refine .g_on rfl ?_
      refine .mv rfl rfl (.g_on rfl (.q .ro (.geq rfl rfl) rfl (.q .ro (.pick_f rfl rfl) rfl ?_)))
      exact .arr (hb96 () trivial) ⟨dor_f c97, rfl, rfl, rfl, rfl, rfl, rfl, rfl, rfl, trivial⟩
end Go.Proofs.YtfcicopgdahmcaaGreatDoor
end

section
set_option maxHeartbeats 4000000
set_option maxRecDepth 100000
namespace Go.Proofs.YtfcicopgdahmcaaGreatDoor
open Go.RowKit
set_option linter.unusedSimpArgs false
set_option linter.unusedVariables false
set_option synthInstance.maxSize 2000
set_option synthInstance.maxHeartbeats 400000
theorem top_TopBatch_c {Fs : List Hp} {G : Hp} {a0 : Option Addr} {k0 : Nat} {x0 : List Int} {r : Bool} (hG : G ∈ Fs) (hg0 : Rp G (.pointer (some ⟨0, 0, none⟩)) [ifc233 (some 12)]) (s0 : SlR ri G a0 k0 x0) (h : top_TopBatch x0 = some r) : RetS Tryz.prog 5 #[.slice a0 x0.length k0] Fs [] [] (fun v bo so => v = .bool r ∧ bo = [] ∧ so = []) := by
 unfold top_TopBatch at h
 try dsimp only at h
 refine RetS.of (vs := [_]) Tryz.func5 rfl Tryz.ntmps5 [(0, _)] ⟨rfl, trivial⟩ rfl hG fun w0 S0 hS0 B0 => ?_
 refine .seq (.region rfl (.av rfl rfl (.re (.seq (.seq (.region rfl ?_))))))
 obtain ⟨u1, hu1, r2⟩ := bind_some h
 refine .callS (b1 := []) (b2 := []) (s1 := []) [] [] .ro rfl rfl Tryz.call7 rfl rfl (top_awake_c (G := G) mcs hg0 hu1) rfl (fun v4 bo so h3 => ?_)
 obtain ⟨rfl, rfl, rfl⟩ := h3
 refine .same (bl' := []) (sl' := []) rfl rfl rfl (.q .ro (.not rfl) rfl (.re ?_))
 refine .cond rfl (fun c5 => ?_) (fun c5 => ?_)
 ·have r6 := ifT r2 c5; clear r2
  refine .seq (.region rfl (.av rfl rfl (.re ?_)))
  cases r6
  refine .retS (.inr ⟨_, rfl⟩) [.tmp 2] [_] rfl Tryz.func5 Tryz.results5 ⟨RV.tmp rfl, trivial⟩ mcm ⟨rfl, rfl, rfl⟩
 ·have r7 := ifBF r2 c5; clear r2
  refine .skip (.seq (.seq (.region rfl (.mv rfl rfl ?_))))
  obtain ⟨u8, hu8, r9⟩ := bind_some r7
  refine .callS (b1 := []) (b2 := []) (s1 := []) [_] [] .ro rfl rfl Tryz.call8 rfl rfl (make_Few_c (G := G) mcs s0 hu8) rfl (fun v11 bo so h10 => ?_)
  obtain ⟨rfl, rfl, rfl⟩ := h10
  refine .same (bl' := []) (sl' := []) rfl rfl rfl (.q .ro (.not rfl) rfl (.re ?_))
  refine .cond rfl (fun c12 => ?_) (fun c12 => ?_)
  ·have r13 := ifT r9 c12; clear r9
   refine .seq (.region rfl (.av rfl rfl (.re ?_)))
   cases r13
   refine .retS (.inr ⟨_, rfl⟩) [.tmp 2] [_] rfl Tryz.func5 Tryz.results5 ⟨RV.tmp rfl, trivial⟩ mcm ⟨rfl, rfl, rfl⟩
  ·have r14 := ifBF r9 c12; clear r9
   refine .skip (.seq (.region rfl (.mv rfl rfl ?_)))
   obtain ⟨u15, hu15, r16⟩ := bind_some r14
   refine .callS (b1 := []) (b2 := []) (s1 := []) [_] [] .ro rfl rfl Tryz.call9 rfl rfl (make_New_c (G := G) mcs s0 hu15) rfl (fun v18 bo so h17 => ?_)
   obtain ⟨a20, k21, b19, rfl, rfl, rfl, s22⟩ := h17
   refine .same (bl' := [_]) (sl' := []) rfl rfl rfl (.av rfl rfl (.re (.seq (.region rfl (.mv rfl rfl ?_)))))
   obtain ⟨u23, hu23, r24⟩ := bind_some r16
   refine .callS (b1 := [_]) (b2 := []) (s1 := []) [_] [] .ro rfl rfl Tryz.call32 rfl rfl (make_Field_c (G := G) mcs s22 hu23) rfl (fun v26 bo so h25 => ?_)
   obtain ⟨a27, k28, rfl, rfl, rfl, s29⟩ := h25
   refine .same (bl' := [_]) (sl' := []) rfl rfl rfl ?_
   refine .alloc .ro ty45 rfl (fun b30 hb30 => ?_)
   refine .store 0 [_] [_, _] .ro rfl rfl rfl ty45 rfl rfl rfl rfl (.re (.seq (.region rfl (.mv rfl rfl ?_))))
   obtain ⟨u31, hu31, r32⟩ := bind_some r24
   refine .pull 1 rfl [_, _] rfl ?_
   refine .callW (b1 := [_]) (b2 := [_]) (s1 := []) [_] [] .ro rfl rfl Tryz.call33 rfl rfl (make_Hashing_c (G := G) mcs s29 hu31) rfl B0 (fun v34 bo so G35 e36 B37 h33 => ?_)
   obtain ⟨a39, k40, a42, k43, rfl, rfl, rfl, s41, s44⟩ := h33
   refine .same (bl' := [_, _]) (sl' := []) rfl rfl rfl ?_
   refine .alloc .ro ty83 rfl (fun b45 hb45 => ?_)
   refine .store 0 [_, _] [_, _, _] .ro rfl rfl rfl ty83 rfl rfl rfl rfl (.re (.prune [(3, _), (4, _), (5, _)] ⟨rfl, rfl, rfl, trivial⟩ (.seq (.region rfl (.mv rfl rfl ?_)))))
   obtain ⟨u46, hu46, r47⟩ := bind_some r32
   refine .pull 1 rfl [_, _, _] rfl ?_
   refine .callS (b1 := [_]) (b2 := [_, _]) (s1 := []) [_, _] [] .ro rfl rfl Tryz.call18 rfl rfl (make_Deck_Next_c (G := G35) mcs s44 hu46) rfl (fun v49 bo so h48 => ?_)
   obtain ⟨a50, k51, rfl, rfl, rfl, s52⟩ := h48
   refine .same (bl' := [_, _, _]) (sl' := []) rfl rfl rfl (.q .ro (.addw rfl rfl) rfl (.mv rfl rfl ?_))
   obtain ⟨u53, hu53, r54⟩ := bind_some r47
   refine .callS (b1 := [_]) (b2 := [_, _]) (s1 := []) [_, _] [] .ro rfl rfl Tryz.call18 rfl rfl (make_Deck_Next_c (G := G35) mcs s52 hu53) rfl (fun v56 bo so h55 => ?_)
   obtain ⟨a57, k58, rfl, rfl, rfl, s59⟩ := h55
   refine .same (bl' := [_, _, _]) (sl' := []) rfl rfl rfl (.q .ro (.addw rfl rfl) rfl (.av rfl rfl (.av rfl rfl (.re (.seq (.region rfl (.mv rfl rfl (.q .ro (.load_own_a 2 [_] rfl rfl ty45 rfl) rfl (.mv rfl rfl (.mv rfl rfl ?_))))))))))
   obtain ⟨u60, hu60, r61⟩ := bind_some r54
   refine .callW (b1 := [_]) (b2 := [_, _]) (s1 := []) [_, _, _, _] [] .ro rfl rfl Tryz.call19 rfl rfl (make_Rows_c (G := G35) mcs s59 hu60) rfl B37 (fun v63 bo so G64 e65 B66 h62 => ?_)
   obtain ⟨a73, k74, a69, k70, cs71, rfl, rfl, rfl, s75, o72⟩ := h62
   refine .same (bl' := [_, _, _]) (sl' := [_]) rfl rfl rfl (.av rfl rfl (.re (.seq (.region rfl (.av rfl rfl (.re (.seq (.seq (.region rfl (.mv rfl rfl (.q .ro (.fieldAddr 0 rfl fl83_0 ty3.sz rfl) rfl (.q .ro (.load_own 1 rfl rfl ty3 rfl) rfl (.q .ro (.addw rfl rfl) rfl ?_)))))))))))))
   obtain ⟨u76, hu76, r77⟩ := bind_some r61
   refine .callS (b1 := [_]) (b2 := [_, _]) (s1 := []) [_, _] [] .ro rfl rfl Tryz.call18 rfl rfl (make_Deck_Next_c (G := G64) mcs s75 hu76) rfl (fun v79 bo so h78 => ?_)
   obtain ⟨a80, k81, rfl, rfl, rfl, s82⟩ := h78
   refine .same (bl' := [_, _, _]) (sl' := [_]) rfl rfl rfl (.av rfl rfl (.re (.prune [(3, _), (4, _), (5, _), (6, _), (7, _), (8, _), (9, _), (10, _)] ⟨rfl, rfl, rfl, rfl, rfl, rfl, rfl, rfl, trivial⟩ ?_)))
   refine .cutB (β := List Int × Option Addr × Nat × List Value × List Int × Option Addr × Nat × Int) (fun y => [(9, .slice y.2.1 y.1.length y.2.2.1)]) [(3, _), (4, _), (5, _), (6, _), (7, _), (8, _)] (fun y => G64 :: Fs) (fun y => [(b19, .cells #[.slice y.2.2.2.2.2.1 y.2.2.2.2.1.length y.2.2.2.2.2.2.1, .int .i64 y.2.2.2.2.2.2.2] 121 (0, 0))]) [_, _] (fun y => [.s (.slice y.2.1 y.1.length y.2.2.1) 3 1 y.1.length y.2.2.2.1]) [_] (fun y => OL ri G64 y.2.2.2.1 y.1 ∧ SlR ri G64 y.2.2.2.2.2.1 y.2.2.2.2.2.2.1 y.2.2.2.2.1 ∧ (top_TopBatch_J12 (w64 (4 + u46.1)) (w64 (1 + u53.1)) u31.1.1 u31.1.2 u23.1 u60.1) y.1 y.2.2.2.2.1 y.2.2.2.2.2.2.2 = some r) ⟨rfl, rfl, rfl, rfl, rfl, rfl, trivial⟩ [1, 2] rfl [0] rfl ?_ ?_
   ·intro y hI
    obtain ⟨v38, a67, k68, cs84, v85, a86, k88, v89⟩ := y
    obtain ⟨o90, s91, r92⟩ := hI
    try dsimp only at o90 s91 r92
    refine .prune [(9, .slice a67 v38.length k68), (3, _), (4, _), (5, _), (6, _), (7, _), (8, _)] ⟨rfl, rfl, rfl, rfl, rfl, rfl, rfl, trivial⟩ (.same (bl' := [(b19, .cells #[.slice a86 v85.length k88, .int .i64 v89] 121 (0, 0)), _, _]) (sl' := [.s (.slice a67 v38.length k68) 3 1 v38.length cs84, _]) (Fs' := G64 :: Fs) rfl rfl rfl ?_)
    unfold top_TopBatch_J12 at r92
    try dsimp only at r92
    refine .seq (.region rfl (.q .ro (.load_own_a 1 [_, _] rfl rfl ty83 rfl) rfl (.mv rfl rfl ?_)))
    obtain ⟨u93, hu93, r94⟩ := bind_some r92
    refine .callW (b1 := []) (b2 := [_, _, _]) (s1 := []) [_, _] [] .ro rfl rfl Tryz.call34 rfl rfl (cuckoo_Layout_c (G := G64) mcs (SlR.mono e65 s41) hu93) rfl B66 (fun v95 bo so G96 e97 B98 h99 => ?_)
    obtain ⟨a100, k101, rfl, rfl, rfl, s102⟩ := h99
    refine .same (bl' := [_, _, _]) (sl' := [_, _]) rfl rfl rfl (.mv rfl rfl (.q .ro (.extract rfl rfl) rfl (.q .ro (.extract rfl rfl) rfl (.av rfl rfl (.av rfl rfl (.re (.seq (.region rfl (.q .ro (.load_own_a 1 [_, _] rfl rfl ty83 rfl) rfl (.mv rfl rfl ?_))))))))))
    refine .freezeR 0 rfl rfl (OL.mono e97 o90) [_] rfl B98 (fun G103 e104 B105 s106 => ?_)
    obtain ⟨u107, hu107, r108⟩ := bind_some r94
    refine .callW (b1 := []) (b2 := [_, _, _]) (s1 := []) [_, _] [] .ro rfl rfl Tryz.call35 rfl rfl (cuckoo_Assign_c (G := G103) mcs (SlR.mono (HpLe.trans (HpLe.trans e65 e97) e104) s41) s106 hu107) rfl B105 (fun v109 bo so G110 e111 B112 h113 => ?_)
    obtain ⟨a114, k115, rfl, rfl, rfl, s116⟩ := h113
    refine .same (bl' := [_, _, _]) (sl' := [_]) rfl rfl rfl (.mv rfl rfl (.q .ro (.extract rfl rfl) rfl (.q .ro (.extract rfl rfl) rfl ?_)))
    refine .alloc .ro ty87 rfl (fun b117 hb117 => ?_)
    refine .store 0 [_] [_, _, _, _] .ro rfl rfl rfl ty87 rfl rfl rfl rfl (.av rfl rfl (.re (.prune [(9, _), (3, _), (4, _), (5, _), (7, _), (8, _), (11, _), (12, _), (13, _), (14, _)] ⟨rfl, rfl, rfl, rfl, rfl, rfl, rfl, rfl, rfl, rfl, trivial⟩ (.seq (.seq (.region rfl (.mv rfl rfl (.q .ro (.neq rfl rfl) rfl (.mv rfl rfl ?_)))))))))
    refine .cutR 3 (β := Unit) (fun y => [(96, .bool (decide ((u93.2 ≠ 0) ∨ (u107.2 ≠ 0))))]) [(9, _), (3, _), (4, _), (5, _), (7, _), (8, _), (11, _), (12, _), (13, _), (14, _)] (fun y => G110 :: Fs) (fun y => []) [_, _, _, _] (fun y => []) [_] (fun y => True) ⟨rfl, rfl, rfl, rfl, rfl, rfl, rfl, rfl, rfl, rfl, trivial⟩ [0, 1, 2, 3] rfl [0] rfl ?_ ?_
    ·rintro _ _
     refine .prune [(96, .bool (decide ((u93.2 ≠ 0) ∨ (u107.2 ≠ 0)))), (9, _), (3, _), (4, _), (5, _), (7, _), (8, _), (11, _), (12, _), (13, _), (14, _)] ⟨rfl, rfl, rfl, rfl, rfl, rfl, rfl, rfl, rfl, rfl, rfl, trivial⟩ (.same (bl' := [_, _, _, _]) (sl' := [_]) (Fs' := G110 :: Fs) rfl rfl rfl (.re ?_))
     refine .cond_dec rfl (fun c118 => ?_) (fun c118 => ?_)
     ·have r119 := ifT r108 c118; clear r108
      refine .seq (.region rfl (.mv rfl rfl (.q .ro (.eql rfl rfl) rfl (.mv rfl rfl ?_))))
      refine .cutR 3 (β := Unit) (fun y => [(102, .bool (decide ((u93.2 = 0) ∧ (u107.2 = 15))))]) [] (fun y => G110 :: Fs) (fun y => []) [_, _, _, _] (fun y => []) [_] (fun y => True) trivial [0, 1, 2, 3] rfl [0] rfl ?_ ?_
      ·rintro _ _
       refine .prune [(102, .bool (decide ((u93.2 = 0) ∧ (u107.2 = 15))))] ⟨rfl, trivial⟩ (.same (bl' := [_, _, _, _]) (sl' := [_]) (Fs' := G110 :: Fs) rfl rfl rfl (.av rfl rfl (.re ?_)))
       cases r119
       refine .drop 4 0 [] _ rfl rfl (.drop 0 1 _ [] rfl rfl ?_)
       refine .retS (.inr ⟨_, rfl⟩) [.tmp 2] [_] rfl Tryz.func5 Tryz.results5 ⟨RV.tmp rfl, trivial⟩ mcm ⟨rfl, rfl, rfl⟩
      ·intro hb120
       refine .split 99 rfl (fun c121 => ?_) (fun c121 => ?_)
       ·refine .g_on rfl ?_
        refine .mv rfl rfl (.g_on rfl (.q .ro (.eql rfl rfl) rfl (.q .ro (.pick_t rfl rfl) rfl ?_)))
        exact .arr (hb120 () trivial) ⟨dand_t c121, trivial⟩
       ·refine .g_off rfl rfl rfl ?_
        refine .g_off rfl rfl rfl (.q .ro (.pick_f rfl rfl) rfl ?_)
        exact .arr (hb120 () trivial) ⟨dand_f c121, trivial⟩
     ·have r122 := ifF r108 c118; clear r108
      refine .skip (.seq (.region rfl (.q .ro (.load_own_a 2 [_, _] rfl rfl ty83 rfl) rfl (.mv rfl rfl (.q .ro (.load_own_a 0 [_] rfl rfl ty87 rfl) rfl ?_)))))
      obtain ⟨u123, hu123, r124⟩ := bind_some r122
      refine .callS (b1 := []) (b2 := [_, _, _, _]) (s1 := []) [_, _, _] [] .ro rfl rfl Tryz.call36 rfl rfl (cuckoo_Spots_c (G := G110) mcs (SlR.mono (HpLe.trans (HpLe.trans (HpLe.trans e65 e97) e104) e111) s41) (SlR.mono e111 s106) s116 hu123) rfl (fun v125 bo so h126 => ?_)
      obtain ⟨a127, k128, cs129, rfl, rfl, rfl, o130⟩ := h126
      refine .same (bl' := [_, _, _, _]) (sl' := [_, _]) rfl rfl rfl (.mv rfl rfl (.q .ro (.extract rfl rfl) rfl (.q .ro (.extract rfl rfl) rfl (.av rfl rfl (.av rfl rfl (.re (.seq (.seq (.region rfl (.mv rfl rfl (.q .ro (.neq rfl rfl) rfl (.mv rfl rfl ?_))))))))))))
      refine .cutR 6 (β := Unit) (fun y => [(118, .bool (decide ((u123.2 ≠ 0) ∨ ((u123.1.length : Int) ≠ (v38.length : Int)))))]) [(9, _), (3, _), (4, _), (7, _), (8, _), (11, _), (13, _), (15, _)] (fun y => G110 :: Fs) (fun y => []) [_, _, _, _] (fun y => []) [_, _] (fun y => True) ⟨rfl, rfl, rfl, rfl, rfl, rfl, rfl, rfl, trivial⟩ [0, 1, 2, 3] rfl [0, 1] rfl ?_ ?_
      ·rintro _ _
       refine .prune [(118, .bool (decide ((u123.2 ≠ 0) ∨ ((u123.1.length : Int) ≠ (v38.length : Int))))), (9, _), (3, _), (4, _), (7, _), (8, _), (11, _), (13, _), (15, _)] ⟨rfl, rfl, rfl, rfl, rfl, rfl, rfl, rfl, rfl, trivial⟩ (.same (bl' := [_, _, _, _]) (sl' := [_, _]) (Fs' := G110 :: Fs) rfl rfl rfl (.mv rfl rfl ?_))
       refine .cutR 7 (β := Unit) (fun y => [(126, .bool (decide (((u123.2 ≠ 0) ∨ ((u123.1.length : Int) ≠ (v38.length : Int))) ∨ ((u107.1.length : Int) ≠ (u93.1.length : Int)))))]) [(9, _), (3, _), (4, _), (7, _), (8, _), (11, _), (13, _), (15, _)] (fun y => G110 :: Fs) (fun y => []) [_, _, _, _] (fun y => []) [_, _] (fun y => True) ⟨rfl, rfl, rfl, rfl, rfl, rfl, rfl, rfl, trivial⟩ [0, 1, 2, 3] rfl [0, 1] rfl ?_ ?_
       ·rintro _ _
        refine .prune [(126, .bool (decide (((u123.2 ≠ 0) ∨ ((u123.1.length : Int) ≠ (v38.length : Int))) ∨ ((u107.1.length : Int) ≠ (u93.1.length : Int))))), (9, _), (3, _), (4, _), (7, _), (8, _), (11, _), (13, _), (15, _)] ⟨rfl, rfl, rfl, rfl, rfl, rfl, rfl, rfl, rfl, trivial⟩ (.same (bl' := [_, _, _, _]) (sl' := [_, _]) (Fs' := G110 :: Fs) rfl rfl rfl (.re ?_))
        refine .cond_dec rfl (fun c131 => ?_) (fun c131 => ?_)
        ·have r132 := ifT r124 c131; clear r124
         refine .seq (.region rfl (.av rfl rfl (.re ?_)))
         cases r132
         refine .drop 4 0 [] _ rfl rfl (.drop 0 2 _ [] rfl rfl ?_)
         refine .retS (.inr ⟨_, rfl⟩) [.tmp 2] [_] rfl Tryz.func5 Tryz.results5 ⟨RV.tmp rfl, trivial⟩ mcm ⟨rfl, rfl, rfl⟩
        ·have r133 := ifF r124 c131; clear r124
         refine .skip (.seq (.region rfl (.av rfl rfl (.re (.seq (.region rfl (.mv rfl rfl (.q .ro (.len_sl rfl rfl sl22) rfl ?_))))))))
         obtain ⟨u134, hu134, r135⟩ := bind_some r133
         refine .makeR (G := G110) (Q := (Rep.sl ri)) .ro sl51 ty22 rfl rfl rfl ((Rep.slI (SlR.nil (Rp' := ri))) :) rfl rfl hu134 rfl rfl (fun b136 cs137 hb136 o138 => ?_)
         refine .av rfl rfl (.re (.seq (.seq (.region rfl (.mv rfl rfl (.q .ro (.len_sl rfl rfl sl51) rfl (.mv rfl rfl (.re ?_))))))))
         refine .cutB (β := Hp × Int × List (List Int) × Option Addr × Nat × List Value × List Int × Option Addr × Nat × Int) (fun y => [(17, .int .i64 y.2.1), (18, .slice y.2.2.2.1 y.2.2.1.length y.2.2.2.2.1)]) [(9, _), (8, _), (11, _)] (fun y => y.1 :: Fs) (fun y => [(b19, .cells #[.slice y.2.2.2.2.2.2.2.1 y.2.2.2.2.2.2.1.length y.2.2.2.2.2.2.2.2.1, .int .i64 y.2.2.2.2.2.2.2.2.2] 121 (0, 0))]) [_, _, _] (fun y => [.s (.slice y.2.2.2.1 y.2.2.1.length y.2.2.2.2.1) 22 1 y.2.2.1.length y.2.2.2.2.2.1]) [_, _] (fun y => HpLe G110 y.1 ∧ Bd w0 S0 Fs y.1 ∧ OL (Rep.sl ri) y.1 y.2.2.2.2.2.1 y.2.2.1 ∧ SlR ri y.1 y.2.2.2.2.2.2.2.1 y.2.2.2.2.2.2.2.2.1 y.2.2.2.2.2.2.1 ∧ (top_TopBatch_J4 v38 u93.1 u60.1) y.2.1 y.2.2.1 y.2.2.2.2.2.2.1 y.2.2.2.2.2.2.2.2.2 = some r) ⟨rfl, rfl, rfl, trivial⟩ [0, 2, 3] rfl [1, 2] rfl ?_ ?_
         ·intro y hI
          obtain ⟨G139, v140, v141, a142, k143, cs144, v145, a146, k147, v148⟩ := y
          obtain ⟨e149, B150, o151, s152, r153⟩ := hI
          try dsimp only at e149 B150 o151 s152 r153
          refine .prune [(17, .int .i64 v140), (18, .slice a142 v141.length k143), (9, _), (8, _), (11, _)] ⟨rfl, rfl, rfl, rfl, rfl, trivial⟩ (.same (bl' := [(b19, .cells #[.slice a146 v145.length k147, .int .i64 v148] 121 (0, 0)), _, _, _]) (sl' := [.s (.slice a142 v141.length k143) 22 1 v141.length cs144, _, _]) (Fs' := G139 :: Fs) rfl rfl rfl ?_)
          unfold top_TopBatch_J4 at r153
          try dsimp only at r153
          refine .seq (.seq (.region rfl (.mv rfl rfl (.q .ro (.len_sl rfl rfl sl22) rfl (.mv rfl rfl (.re ?_))))))
          refine .cutB (β := Hp) (fun y => []) [(17, _), (11, _)] (fun y => y :: Fs) (fun y => []) [_, _, _, _] (fun y => []) [_] (fun y => HpLe G139 y ∧ Bd w0 S0 Fs y ∧ (top_TopBatch_J2 v140 u93.1)  = some r) ⟨rfl, rfl, trivial⟩ [0, 1, 2, 3] rfl [1] rfl ?_ ?_
          ·intro G154 hI
           obtain ⟨e155, B156, r157⟩ := hI
           refine .prune [(17, _), (11, _)] ⟨rfl, rfl, trivial⟩ (.same (bl' := [_, _, _, _]) (sl' := [_]) (Fs' := G154 :: Fs) rfl rfl rfl ?_)
           unfold top_TopBatch_J2 at r157
           try dsimp only at r157
           refine .seq (.region rfl (.av rfl rfl (.re (.seq (.seq (.region rfl (.mv rfl rfl (.q .ro (.len_sl rfl rfl sl51) rfl (.mv rfl rfl (.re (.block ?_)))))))))))
           refine .loop2 (α := Nat × List (List Int) × Int) (fun y => [(39, .int .i64 y.2.2), (268, .int .i64 (y.1 : Int))]) [(17, _), (266, _), (267, _)] (fun y => []) (fun y => []) [_, _, _, _] (fun y => []) [_] (fun y => List.drop y.1 u93.1 = y.2.1 ∧ top_TopBatch_L1 v140 y.2.1 y.2.2 = some r) (fun y => y.2.1.length) (0, u93.1, 0) ⟨rfl, r157⟩ ⟨rfl, rfl, rfl, rfl, rfl, trivial⟩ rfl rfl rfl (fun y hI hb158 => ?_)
           obtain ⟨i159, w160, v161⟩ := y
           obtain ⟨g162, r163⟩ := hI
           try dsimp only at g162 r163
           refine .prune [(39, .int .i64 v161), (268, .int .i64 (i159 : Int)), (17, _), (266, _), (267, _)] ⟨rfl, rfl, rfl, rfl, rfl, trivial⟩ (.same (bl' := [_, _, _, _]) (sl' := [_]) (Fs' := G154 :: Fs) rfl rfl rfl ?_)
           cases w160 with
           | nil =>
            rw [top_TopBatch_L1] at r163; try dsimp only at r163
            refine .seq (.region rfl (.q .ro (.lss rfl rfl) rfl (.re (.seq ?_))))
            refine .cond_dec rfl (fun c => absurd c (drop_nil g162)) (fun _ => ?_)
            refine .exit rfl (.seq (.region rfl (.mv rfl rfl (.mv rfl rfl (.q .ro (.eql rfl rfl) rfl (.av rfl rfl (.re ?_)))))))
            cases r163
            refine .drop 4 0 [] _ rfl rfl (.drop 0 1 _ [] rfl rfl ?_)
            refine .retS (.inr ⟨_, rfl⟩) [.tmp 2] [_] rfl Tryz.func5 Tryz.results5 ⟨RV.tmp rfl, trivial⟩ mcm ⟨rfl, rfl, rfl⟩
           | cons x164 xs165 =>
            have r166 : top_TopBatch_B1 v140 (top_TopBatch_L1 v140 xs165) x164 v161 = some r := r163; clear r163; unfold top_TopBatch_B1 at r166; try dsimp only at r166
            refine .seq (.region rfl (.q .ro (.lss rfl rfl) rfl (.re (.seq ?_))))
            refine .cond_dec rfl (fun _ => ?_) (fun c => absurd (drop_lt g162) c)
            refine .skip (.seq (.block (.seq (.region rfl ?_))))
            obtain ⟨c167, p168, h169⟩ := SlR.get (SlR.mono (HpLe.trans (HpLe.trans (HpLe.trans e104 e111) e149) e155) s102) (drop_idx g162)
            obtain ⟨a170, k171, rfl, s172⟩ := h169
            refine .q .ro (.idxR (SlR.mono (HpLe.trans (HpLe.trans (HpLe.trans e104 e111) e149) e155) s102) rfl rfl (drop_idx g162) sl51 ty22.sz) rfl (.q .ro (.load_rp p168 mcs rfl ty22 rfl) rfl (.av rfl rfl (.re (.seq (.region rfl (.mv rfl rfl (.q .ro (.len_sl rfl rfl sl22) rfl (.q .ro (.gtr rfl rfl) rfl (.re ?_)))))))))
            refine .cond_dec rfl (fun c173 => ?_) (fun c173 => ?_)
            ·have r174 := ifT r166 c173; clear r166
             refine .region rfl (.mv rfl rfl (.q .ro (.addw rfl rfl) rfl (.av rfl rfl (.re (.inBlock (.region rfl (.q .ro (.addw rfl rfl) rfl (.mv rfl rfl (.re ?_)))))))))
             exact .arr (hb158 ((i159 + 1), xs165, (w64 (v161 + 1))) ⟨(drop_succ g162), r174⟩ (Nat.lt_succ_self _)) ⟨rfl, (congrArg (fun z => some (Value.int .i64 z)) (idx_wrap (SlR.len (SlR.mono (HpLe.trans (HpLe.trans (HpLe.trans e104 e111) e149) e155) s102)) g162)), rfl, rfl, rfl, trivial⟩
            ·have r175 := ifF r166 c173; clear r166
             refine .skip (.inBlock (.region rfl (.q .ro (.addw rfl rfl) rfl (.mv rfl rfl (.re ?_)))))
             exact .arr (hb158 ((i159 + 1), xs165, v161) ⟨(drop_succ g162), r175⟩ (Nat.lt_succ_self _)) ⟨rfl, (congrArg (fun z => some (Value.int .i64 z)) (idx_wrap (SlR.len (SlR.mono (HpLe.trans (HpLe.trans (HpLe.trans e104 e111) e149) e155) s102)) g162)), rfl, rfl, rfl, trivial⟩
          ·intro hb176
           refine .block ?_
           refine .freezeR 0 rfl rfl o151 [_, _] rfl B150 (fun G177 e178 B179 s180 => ?_)
           refine .freezeR 1 rfl rfl (OL.mono (HpLe.trans (HpLe.trans (HpLe.trans (HpLe.trans e97 e104) e111) e149) e178) o72) [_] rfl B179 (fun G181 e182 B183 s184 => ?_)
           refine .loop2 (α := Nat × List Int) (fun y => [(250, .int .i64 (y.1 : Int))]) [(17, _), (18, _), (8, _), (11, _), (248, _), (249, _)] (fun y => []) (fun y => []) [_, _, _, _] (fun y => []) [_] (fun y => List.drop y.1 v38 = y.2 ∧ top_TopBatch_L3 (top_TopBatch_J2 v140 u93.1) v141 u60.1 y.2 y.1  = some r) (fun y => y.2.length) (0, v38) ⟨rfl, r153⟩ ⟨rfl, rfl, rfl, rfl, rfl, rfl, rfl, trivial⟩ rfl rfl rfl (fun y hI hb185 => ?_)
           obtain ⟨i186, w187⟩ := y
           obtain ⟨g188, r189⟩ := hI
           try dsimp only at g188 r189
           refine .prune [(250, .int .i64 (i186 : Int)), (17, _), (18, _), (8, _), (11, _), (248, _), (249, _)] ⟨rfl, rfl, rfl, rfl, rfl, rfl, rfl, trivial⟩ (.same (bl' := [_, _, _, _]) (sl' := [_]) (Fs' := G181 :: Fs) rfl rfl rfl ?_)
           cases w187 with
           | nil =>
            rw [top_TopBatch_L3] at r189; try dsimp only at r189
            refine .seq (.region rfl (.q .ro (.lss rfl rfl) rfl (.re (.seq ?_))))
            refine .cond_dec rfl (fun c => absurd c (drop_nil g188)) (fun _ => ?_)
            refine .exit rfl ?_
            exact .arr (hb176 (G181) ⟨(HpLe.trans e178 e182), B183, r189⟩) ⟨rfl, rfl, trivial⟩
           | cons x190 xs191 =>
            have r192 : top_TopBatch_B3 (top_TopBatch_J2 v140 u93.1) v141 u60.1 (top_TopBatch_L3 (top_TopBatch_J2 v140 u93.1) v141 u60.1 xs191 (i186 + 1)) x190 i186  = some r := r189; clear r189; unfold top_TopBatch_B3 at r192; try dsimp only at r192
            refine .seq (.region rfl (.q .ro (.lss rfl rfl) rfl (.re (.seq ?_))))
            refine .cond_dec rfl (fun _ => ?_) (fun c => absurd (drop_lt g188) c)
            refine .skip (.seq (.block (.seq (.region rfl (.mv rfl rfl ?_)))))
            obtain ⟨c193, p194, h195⟩ := SlR.get (SlR.mono (HpLe.trans (HpLe.trans (HpLe.trans e111 e149) e178) e182) s106) (drop_idx g188)
            obtain rfl := h195
            refine .q .ro (.idxR (SlR.mono (HpLe.trans (HpLe.trans (HpLe.trans e111 e149) e178) e182) s106) rfl rfl (drop_idx g188) sl22 ty3.sz) rfl (.q .ro (.load_rp p194 mcs rfl ty3 rfl) rfl (.av rfl rfl (.av rfl rfl (.re (.seq (.drawL (.q 0 (.q 1 (.q 2 (.q 3 (.q 4 (.q 5 (.q 6 (.q 7 (.e 8 1 (.q 9 .nil)))))))))) [_, _, _, _] (by kernel_rfl) (by kernel_rfl) (pick_mem [0, 1, 2, 3] rfl) (.dq (.move rfl) rfl (.dq (.move rfl) rfl ?_))))))))
            obtain ⟨u196, hu196, r197⟩ := bind_some r192
            obtain ⟨c198, p199, h200⟩ := SlR.get (SlR.mono e182 s180) hu196
            obtain ⟨a201, k202, rfl, s203⟩ := h200
            refine .dq (.idxR (SlR.mono e182 s180) rfl rfl hu196 sl51 ty22.sz) rfl (.dq (.load_rp p199 mcs rfl ty22 rfl) rfl (.dq (.move rfl) rfl (.dq (.move rfl) rfl ?_)))
            obtain ⟨u204, hu204, r205⟩ := bind_some r197
            obtain ⟨c206, p207, h208⟩ := SlR.get s184 hu204
            obtain ⟨a209, k210, rfl, s211⟩ := h208
            refine .dq (.idxR s184 rfl rfl hu204 sl51 ty22.sz) rfl (.dq (.load_rp p207 mcs rfl ty22 rfl) rfl ?_)
            obtain ⟨u212, hu212, r213⟩ := bind_some r205
            refine .callS (b1 := []) (b2 := [_, _, _, _]) (s1 := []) [_, _] [] .d1 rfl rfl Tryz.call31 rfl rfl (ref04_Same_c (G := G181) mcs s203 s211 hu212) rfl (fun v214 bo so h215 => ?_)
            obtain ⟨rfl, rfl, rfl⟩ := h215
            refine .same (bl' := [_, _, _, _]) (sl' := [_]) rfl rfl rfl (.clsL (HpLe.refl _) (pick_mem [0, 1, 2, 3] rfl) (.dq (.not rfl) rfl (.draw_end (.prune [(250, _), (17, _), (18, _), (8, _), (11, _), (248, _), (249, _), (264, _)] ⟨rfl, rfl, rfl, rfl, rfl, rfl, rfl, rfl, trivial⟩ ?_))))
            refine .cond rfl (fun c216 => ?_) (fun c216 => ?_)
            ·have r217 := ifT r213 c216; clear r213
             refine .seq (.region rfl (.av rfl rfl (.re ?_)))
             cases r217
             refine .drop 4 0 [] _ rfl rfl (.drop 0 1 _ [] rfl rfl ?_)
             refine .retS (.inr ⟨_, rfl⟩) [.tmp 2] [_] rfl Tryz.func5 Tryz.results5 ⟨RV.tmp rfl, trivial⟩ mcm ⟨rfl, rfl, rfl⟩
            ·have r218 := ifBF r213 c216; clear r213
             refine .skip (.inBlock (.region rfl (.q .ro (.addw rfl rfl) rfl (.mv rfl rfl (.re ?_)))))
             exact .arr (hb185 ((i186 + 1), xs191) ⟨(drop_succ g188), r218⟩ (Nat.lt_succ_self _)) ⟨(congrArg (fun z => some (Value.int .i64 z)) (idx_wrap (SlR.len (SlR.mono (HpLe.trans e111 e149) s106)) g188)), rfl, rfl, rfl, rfl, rfl, rfl, trivial⟩
         ·intro hb219
          refine .block (.pull 1 rfl [_, _, _, _] rfl ?_)
          refine .loop2 (α := Nat × List (List Int) × Hp × Int × List (List Int) × Option Addr × Nat × List Value × List Int × Option Addr × Nat × Int) (fun y => [(17, .int .i64 y.2.2.2.1), (18, .slice y.2.2.2.2.2.1 y.2.2.2.2.1.length y.2.2.2.2.2.2.1), (132, .int .i64 (y.1 : Int))]) [(9, _), (3, _), (4, _), (7, _), (8, _), (11, _), (13, _), (15, _), (130, _), (131, _)] (fun y => [y.2.2.1]) (fun y => [(b19, .cells #[.slice y.2.2.2.2.2.2.2.2.2.1 y.2.2.2.2.2.2.2.2.1.length y.2.2.2.2.2.2.2.2.2.2.1, .int .i64 y.2.2.2.2.2.2.2.2.2.2.2] 121 (0, 0))]) [_, _, _] (fun y => [.s (.slice y.2.2.2.2.2.1 y.2.2.2.2.1.length y.2.2.2.2.2.2.1) 22 1 y.2.2.2.2.1.length y.2.2.2.2.2.2.2.1]) [_, _] (fun y => HpLe G110 y.2.2.1 ∧ Bd w0 S0 Fs y.2.2.1 ∧ OL (Rep.sl ri) y.2.2.1 y.2.2.2.2.2.2.2.1 y.2.2.2.2.1 ∧ SlR ri y.2.2.1 y.2.2.2.2.2.2.2.2.2.1 y.2.2.2.2.2.2.2.2.2.2.1 y.2.2.2.2.2.2.2.2.1 ∧ List.drop y.1 u93.1 = y.2.1 ∧ top_TopBatch_L11 (top_TopBatch_J4 v38 u93.1 u60.1) (w64 (1 + u53.1)) u107.1 u23.1 u123.1 u60.1 y.2.1 y.1 y.2.2.2.1 y.2.2.2.2.1 y.2.2.2.2.2.2.2.2.1 y.2.2.2.2.2.2.2.2.2.2.2 = some r) (fun y => y.2.1.length) (0, u93.1, G110, 0, u134, (some ⟨b136, 0, none⟩), u134.length, cs137, v85, a86, k88, v89) ⟨(HpLe.refl _), B112, o138, (SlR.mono (HpLe.trans (HpLe.trans e97 e104) e111) s91), rfl, r135⟩ ⟨rfl, rfl, rfl, rfl, rfl, rfl, rfl, rfl, rfl, rfl, rfl, rfl, rfl, trivial⟩ rfl rfl rfl (fun y hI hb220 => ?_)
          obtain ⟨i221, w222, G223, v224, v225, a226, k227, cs228, v229, a230, k231, v232⟩ := y
          obtain ⟨e233, B234, o235, s236, g237, r238⟩ := hI
          try dsimp only at e233 B234 o235 s236 g237 r238
          refine .prune [(17, .int .i64 v224), (18, .slice a226 v225.length k227), (132, .int .i64 (i221 : Int)), (9, _), (3, _), (4, _), (7, _), (8, _), (11, _), (13, _), (15, _), (130, _), (131, _)] ⟨rfl, rfl, rfl, rfl, rfl, rfl, rfl, rfl, rfl, rfl, rfl, rfl, rfl, trivial⟩ (.same (bl' := [(b19, .cells #[.slice a230 v229.length k231, .int .i64 v232] 121 (0, 0)), _, _, _]) (sl' := [.s (.slice a226 v225.length k227) 22 1 v225.length cs228, _, _]) (Fs' := G223 :: Fs) rfl rfl rfl ?_)
          cases w222 with
          | nil =>
           rw [top_TopBatch_L11] at r238; try dsimp only at r238
           refine .seq (.region rfl (.q .ro (.lss rfl rfl) rfl (.re (.seq ?_))))
           refine .cond_dec rfl (fun c => absurd c (drop_nil g237)) (fun _ => ?_)
           refine .exit rfl ?_
           exact .arr (hb219 (G223, v224, v225, a226, k227, cs228, v229, a230, k231, v232) ⟨e233, B234, o235, s236, r238⟩) ⟨rfl, rfl, rfl, rfl, rfl, trivial⟩
          | cons x239 xs240 =>
           have r241 : top_TopBatch_B11 (top_TopBatch_J4 v38 u93.1 u60.1) (w64 (1 + u53.1)) u107.1 u23.1 u123.1 u60.1 (top_TopBatch_L11 (top_TopBatch_J4 v38 u93.1 u60.1) (w64 (1 + u53.1)) u107.1 u23.1 u123.1 u60.1 xs240 (i221 + 1)) x239 i221 v224 v225 v229 v232 = some r := r238; clear r238; unfold top_TopBatch_B11 at r241; try dsimp only at r241
           refine .seq (.region rfl (.q .ro (.lss rfl rfl) rfl (.re (.seq ?_))))
           refine .cond_dec rfl (fun _ => ?_) (fun c => absurd (drop_lt g237) c)
           refine .skip (.seq (.block (.seq (.region rfl (.mv rfl rfl ?_)))))
           obtain ⟨c242, p243, h244⟩ := SlR.get (SlR.mono (HpLe.trans (HpLe.trans e104 e111) e233) s102) (drop_idx g237)
           obtain ⟨a245, k246, rfl, s247⟩ := h244
           refine .q .ro (.idxR (SlR.mono (HpLe.trans (HpLe.trans e104 e111) e233) s102) rfl rfl (drop_idx g237) sl51 ty22.sz) rfl (.q .ro (.load_rp p243 mcs rfl ty22 rfl) rfl (.av rfl rfl (.av rfl rfl (.re (.seq (.seq (.region rfl (.mv rfl rfl (.q .ro (.len_sl rfl rfl sl22) rfl (.q .ro (.eql rfl rfl) rfl (.re ?_)))))))))))
           refine .cond_dec rfl (fun c248 => ?_) (fun c248 => ?_)
           ·have r249 := ifT r241 c248; clear r241
            refine .seq (.seq (.region rfl (.q .ro (.fieldAddr 0 rfl fl87_0 ty22.sz rfl) rfl (.q .ro (.load_own 1 rfl rfl ty22 rfl) rfl (.mv rfl rfl ?_)))))
            obtain ⟨u250, hu250, r251⟩ := bind_some r249
            obtain ⟨c252, p253, h254⟩ := SlR.get (SlR.mono e233 s116) hu250
            obtain rfl := h254
            refine .q .ro (.idxR (SlR.mono e233 s116) rfl rfl hu250 sl22 ty3.sz) rfl (.q .ro (.load_rp p253 mcs rfl ty3 rfl) rfl (.q .ro (.neq rfl rfl) rfl (.re (.prune [(17, _), (18, _), (132, _), (9, _), (3, _), (4, _), (7, _), (8, _), (11, _), (13, _), (15, _), (130, _), (131, _), (145, _)] ⟨rfl, rfl, rfl, rfl, rfl, rfl, rfl, rfl, rfl, rfl, rfl, rfl, rfl, rfl, trivial⟩ ?_))))
            refine .cond_dec rfl (fun c255 => ?_) (fun c255 => ?_)
            ·have r256 := ifT r251 c255; clear r251
             refine .seq (.region rfl (.av rfl rfl (.re (.prune [(2, _)] ⟨rfl, trivial⟩ ?_))))
             cases r256
             refine .drop 4 0 [] _ rfl rfl (.drop 0 3 _ [] rfl rfl ?_)
             refine .retS (.inr ⟨_, rfl⟩) [.tmp 2] [_] rfl Tryz.func5 Tryz.results5 ⟨RV.tmp rfl, trivial⟩ mcm ⟨rfl, rfl, rfl⟩
            ·have r257 := ifF r251 c255; clear r251
             refine .skip (.exit rfl (.region rfl (.q .ro (.addw rfl rfl) rfl (.mv rfl rfl (.re ?_)))))
             exact .arr (hb220 ((i221 + 1), xs240, G223, v224, v225, a226, k227, cs228, v229, a230, k231, v232) ⟨e233, B234, o235, s236, (drop_succ g237), r257⟩ (Nat.lt_succ_self _)) ⟨rfl, rfl, (congrArg (fun z => some (Value.int .i64 z)) (idx_wrap (SlR.len (SlR.mono (HpLe.trans e104 e111) s102)) g237)), rfl, rfl, rfl, rfl, rfl, rfl, rfl, rfl, rfl, rfl, trivial⟩
           ·have r258 := ifF r241 c248; clear r241
            refine .skip (.seq (.region rfl (.av rfl rfl (.re (.seq (.seq (.region rfl (.mv rfl rfl (.q .ro (.len_sl rfl rfl sl22) rfl (.mv rfl rfl (.re ?_)))))))))))
            refine .cutB (β := List (List Int) × Option Addr × Nat × List Value) (fun y => [(21, .slice y.2.1 y.1.length y.2.2.1)]) [(17, _), (18, _), (132, _), (9, _), (3, _), (4, _), (7, _), (8, _), (11, _), (13, _), (15, _), (130, _), (131, _), (19, _)] (fun y => G223 :: Fs) (fun y => []) [_, _, _, _] (fun y => [.s (.slice y.2.1 y.1.length y.2.2.1) 22 1 y.1.length y.2.2.2]) [_, _, _] (fun y => OL (Rep.sl ri) G223 y.2.2.2 y.1 ∧ (top_TopBatch_J9 (top_TopBatch_L11 (top_TopBatch_J4 v38 u93.1 u60.1) (w64 (1 + u53.1)) u107.1 u23.1 u123.1 u60.1 xs240 (i221 + 1)) v224 (i221 : Int) (w64 (1 + u53.1)) v229 v232 u107.1 u23.1 v225 u123.1) y.1 = some r) ⟨rfl, rfl, rfl, rfl, rfl, rfl, rfl, rfl, rfl, rfl, rfl, rfl, rfl, rfl, trivial⟩ [0, 1, 2, 3] rfl [0, 1, 2] rfl ?_ ?_
            ·intro y hI
             obtain ⟨v259, a260, k261, cs262⟩ := y
             obtain ⟨o263, r264⟩ := hI
             try dsimp only at o263 r264
             refine .prune [(21, .slice a260 v259.length k261), (17, _), (18, _), (132, _), (9, _), (3, _), (4, _), (7, _), (8, _), (11, _), (13, _), (15, _), (130, _), (131, _), (19, _)] ⟨rfl, rfl, rfl, rfl, rfl, rfl, rfl, rfl, rfl, rfl, rfl, rfl, rfl, rfl, rfl, trivial⟩ (.same (bl' := [_, _, _, _]) (sl' := [.s (.slice a260 v259.length k261) 22 1 v259.length cs262, _, _, _]) (Fs' := G223 :: Fs) rfl rfl rfl ?_)
             unfold top_TopBatch_J9 at r264
             try dsimp only at r264
             refine .seq (.region rfl (.av rfl rfl (.re (.seq (.seq (.region rfl (.q .ro (.fieldAddr 0 rfl fl87_0 ty22.sz rfl) rfl (.q .ro (.load_own 1 rfl rfl ty22 rfl) rfl (.mv rfl rfl ?_)))))))))
             obtain ⟨u265, hu265, r266⟩ := bind_some r264
             obtain ⟨c267, p268, h269⟩ := SlR.get (SlR.mono e233 s116) hu265
             obtain rfl := h269
             refine .q .ro (.idxR (SlR.mono e233 s116) rfl rfl hu265 sl22 ty3.sz) rfl (.q .ro (.load_rp p268 mcs rfl ty3 rfl) rfl (.q .ro (.geq rfl rfl) rfl (.re ?_)))
             refine .cutI (β := Int) (fun y => [(24, .int .i64 y)]) [(21, _), (17, _), (18, _), (132, _), (9, _), (3, _), (4, _), (7, _), (8, _), (11, _), (13, _), (15, _), (130, _), (131, _), (19, _)] (fun y => G223 :: Fs) (fun y => []) [_, _, _, _] (fun y => []) [_, _, _, _] (fun y => (top_TopBatch_J8 (top_TopBatch_L11 (top_TopBatch_J4 v38 u93.1 u60.1) (w64 (1 + u53.1)) u107.1 u23.1 u123.1 u60.1 xs240 (i221 + 1)) v224 (i221 : Int) (w64 (1 + u53.1)) v229 v232 u107.1 u23.1 v259 v225) y = some r) ⟨rfl, rfl, rfl, rfl, rfl, rfl, rfl, rfl, rfl, rfl, rfl, rfl, rfl, rfl, rfl, trivial⟩ [0, 1, 2, 3] rfl [0, 1, 2, 3] rfl ?_ ?_
             ·intro v270 hI
              have r271 := hI; clear hI
              refine .prune [(24, .int .i64 v270), (21, _), (17, _), (18, _), (132, _), (9, _), (3, _), (4, _), (7, _), (8, _), (11, _), (13, _), (15, _), (130, _), (131, _), (19, _)] ⟨rfl, rfl, rfl, rfl, rfl, rfl, rfl, rfl, rfl, rfl, rfl, rfl, rfl, rfl, rfl, rfl, trivial⟩ (.same (bl' := [_, _, _, _]) (sl' := [_, _, _, _]) (Fs' := G223 :: Fs) rfl rfl rfl ?_)
              unfold top_TopBatch_J8 at r271
              try dsimp only at r271
              refine .seq (.region rfl (.q .ro (.load_own_a 3 [_] rfl rfl ty45 rfl) rfl (.mv rfl rfl (.q .ro (.len_sl rfl rfl sl51) rfl ?_))))
              obtain ⟨u272, hu272, r273⟩ := bind_some r271
              refine .callS (b1 := []) (b2 := [_, _, _, _]) (s1 := []) [_, _, _] [] .ro rfl rfl Tryz.call20 rfl rfl (parity_Limits_c (G := G223) mcs  hu272) rfl (fun v274 bo so h275 => ?_)
              obtain ⟨a276, k277, cs278, rfl, rfl, rfl, o279⟩ := h275
              refine .same (bl' := [_, _, _, _]) (sl' := [_, _, _, _, _]) rfl rfl rfl (.mv rfl rfl (.q .ro (.extract rfl rfl) rfl (.q .ro (.extract rfl rfl) rfl (.av rfl rfl (.av rfl rfl (.re (.seq ?_)))))))
              refine .cutG (β := Hp × List (List Int) × Option Addr × Nat × List (List Int) × Option Addr × Nat × List Value × Int × List Int × Option Addr × Nat × Int) (fun y => [(21, .slice y.2.2.1 y.2.1.length y.2.2.2.1), (27, .slice y.2.2.2.2.2.1 y.2.2.2.2.1.length y.2.2.2.2.2.2.1), (29, .int .i64 y.2.2.2.2.2.2.2.2.1)]) [(17, _), (18, _), (132, _), (9, _), (3, _), (4, _), (7, _), (8, _), (11, _), (13, _), (15, _), (130, _), (131, _), (19, _), (26, _)] (fun y => y.1 :: Fs) (fun y => [(b19, .cells #[.slice y.2.2.2.2.2.2.2.2.2.2.1 y.2.2.2.2.2.2.2.2.2.1.length y.2.2.2.2.2.2.2.2.2.2.2.1, .int .i64 y.2.2.2.2.2.2.2.2.2.2.2.2] 121 (0, 0))]) [_, _, _] (fun y => [.s (.slice y.2.2.2.2.2.1 y.2.2.2.2.1.length y.2.2.2.2.2.2.1) 22 1 y.2.2.2.2.1.length y.2.2.2.2.2.2.2.1]) [_, _, _] (fun y => HpLe G223 y.1 ∧ Bd w0 S0 Fs y.1 ∧ SlR (Rep.sl ri) y.1 y.2.2.1 y.2.2.2.1 y.2.1 ∧ OL (Rep.sl ri) y.1 y.2.2.2.2.2.2.2.1 y.2.2.2.2.1 ∧ SlR ri y.1 y.2.2.2.2.2.2.2.2.2.2.1 y.2.2.2.2.2.2.2.2.2.2.2.1 y.2.2.2.2.2.2.2.2.2.1 ∧ (top_TopBatch_J7 (top_TopBatch_L11 (top_TopBatch_J4 v38 u93.1 u60.1) (w64 (1 + u53.1)) u107.1 u23.1 u123.1 u60.1 xs240 (i221 + 1)) v224 (i221 : Int) (w64 (1 + u53.1)) u272.2 u107.1 u23.1 v225) y.2.1 y.2.2.2.2.1 y.2.2.2.2.2.2.2.2.1 y.2.2.2.2.2.2.2.2.2.1 y.2.2.2.2.2.2.2.2.2.2.2.2 = some r) ⟨rfl, rfl, rfl, rfl, rfl, rfl, rfl, rfl, rfl, rfl, rfl, rfl, rfl, rfl, rfl, trivial⟩ [1, 2, 3] rfl [2, 3, 4] rfl ?_ ?_
              ·intro y hI
               obtain ⟨G280, v281, a282, k283, v284, a285, k286, cs287, v288, v289, a290, k291, v292⟩ := y
               obtain ⟨e293, B294, s295, o296, s297, r298⟩ := hI
               try dsimp only at e293 B294 s295 o296 s297 r298
               refine .prune [(21, .slice a282 v281.length k283), (27, .slice a285 v284.length k286), (29, .int .i64 v288), (17, _), (18, _), (132, _), (9, _), (3, _), (4, _), (7, _), (8, _), (11, _), (13, _), (15, _), (130, _), (131, _), (19, _), (26, _)] ⟨rfl, rfl, rfl, rfl, rfl, rfl, rfl, rfl, rfl, rfl, rfl, rfl, rfl, rfl, rfl, rfl, rfl, rfl, trivial⟩ (.same (bl' := [(b19, .cells #[.slice a290 v289.length k291, .int .i64 v292] 121 (0, 0)), _, _, _]) (sl' := [.s (.slice a285 v284.length k286) 22 1 v284.length cs287, _, _, _]) (Fs' := G280 :: Fs) rfl rfl rfl ?_)
               unfold top_TopBatch_J7 at r298
               try dsimp only at r298
               refine .seq (.seq (.region rfl (.mv rfl rfl (.q .ro (.neq rfl rfl) rfl (.mv rfl rfl ?_)))))
               refine .cutR 3 (β := Unit) (fun y => [(198, .bool (decide ((u272.2 ≠ 0) ∨ (v288 ≠ 0))))]) [(21, _), (27, _), (17, _), (18, _), (132, _), (9, _), (3, _), (4, _), (7, _), (8, _), (11, _), (13, _), (15, _), (130, _), (131, _), (19, _)] (fun y => G280 :: Fs) (fun y => []) [_, _, _, _] (fun y => []) [_, _, _, _] (fun y => True) ⟨rfl, rfl, rfl, rfl, rfl, rfl, rfl, rfl, rfl, rfl, rfl, rfl, rfl, rfl, rfl, rfl, trivial⟩ [0, 1, 2, 3] rfl [0, 1, 2, 3] rfl ?_ ?_
               ·rintro _ _
                refine .prune [(198, .bool (decide ((u272.2 ≠ 0) ∨ (v288 ≠ 0)))), (21, _), (27, _), (17, _), (18, _), (132, _), (9, _), (3, _), (4, _), (7, _), (8, _), (11, _), (13, _), (15, _), (130, _), (131, _), (19, _)] ⟨rfl, rfl, rfl, rfl, rfl, rfl, rfl, rfl, rfl, rfl, rfl, rfl, rfl, rfl, rfl, rfl, rfl, trivial⟩ (.same (bl' := [_, _, _, _]) (sl' := [_, _, _, _]) (Fs' := G280 :: Fs) rfl rfl rfl (.re ?_))
                refine .cond_dec rfl (fun c299 => ?_) (fun c299 => ?_)
                ·have r300 := ifT r298 c299; clear r298
                 refine .seq (.region rfl (.av rfl rfl (.re (.prune [(2, _)] ⟨rfl, trivial⟩ ?_))))
                 cases r300
                 refine .drop 4 0 [] _ rfl rfl (.drop 0 4 _ [] rfl rfl ?_)
                 refine .retS (.inr ⟨_, rfl⟩) [.tmp 2] [_] rfl Tryz.func5 Tryz.results5 ⟨RV.tmp rfl, trivial⟩ mcm ⟨rfl, rfl, rfl⟩
                ·have r301 := ifF r298 c299; clear r298
                 refine .skip (.seq (.region rfl (.mv rfl rfl (.q .ro (.addw rfl rfl) rfl (.av rfl rfl (.re (.seq (.region rfl (.av rfl rfl (.re (.seq (.seq (.region rfl (.mv rfl rfl (.q .ro (.len_sl rfl rfl sl51) rfl (.mv rfl rfl (.re ?_)))))))))))))))))
                 refine .cutB (β := Hp × (List (Bool × (List Int))) × Option Addr × Nat × List Value) (fun y => [(30, .slice y.2.2.1 y.2.1.length y.2.2.2.1)]) [(17, _), (18, _), (132, _), (9, _), (3, _), (4, _), (7, _), (8, _), (11, _), (13, _), (15, _), (130, _), (131, _), (19, _)] (fun y => y.1 :: Fs) (fun y => []) [_, _, _, _] (fun y => [.s (.slice y.2.2.1 y.2.1.length y.2.2.2.1) 63 2 y.2.1.length y.2.2.2.2]) [_, _, _, _] (fun y => HpLe G280 y.1 ∧ Bd w0 S0 Fs y.1 ∧ OL (Rep.pair Rep.bool (Rep.sl ri)) y.1 y.2.2.2.2 y.2.1 ∧ (top_TopBatch_J5 (top_TopBatch_L11 (top_TopBatch_J4 v38 u93.1 u60.1) (w64 (1 + u53.1)) u107.1 u23.1 u123.1 u60.1 xs240 (i221 + 1)) (w64 (v224 + 1)) (i221 : Int) (w64 (1 + u53.1)) v289 v292 u107.1 u23.1 v225) y.2.1 = some r) ⟨rfl, rfl, rfl, rfl, rfl, rfl, rfl, rfl, rfl, rfl, rfl, rfl, rfl, rfl, trivial⟩ [0, 1, 2, 3] rfl [0, 1, 2, 3] rfl ?_ ?_
                 ·intro y hI
                  obtain ⟨G302, v303, a304, k305, cs306⟩ := y
                  obtain ⟨e307, B308, o309, r310⟩ := hI
                  try dsimp only at e307 B308 o309 r310
                  refine .prune [(30, .slice a304 v303.length k305), (17, _), (18, _), (132, _), (9, _), (3, _), (4, _), (7, _), (8, _), (11, _), (13, _), (15, _), (130, _), (131, _), (19, _)] ⟨rfl, rfl, rfl, rfl, rfl, rfl, rfl, rfl, rfl, rfl, rfl, rfl, rfl, rfl, rfl, trivial⟩ (.same (bl' := [_, _, _, _]) (sl' := [.s (.slice a304 v303.length k305) 63 2 v303.length cs306, _, _, _, _]) (Fs' := G302 :: Fs) rfl rfl rfl ?_)
                  unfold top_TopBatch_J5 at r310
                  try dsimp only at r310
                  refine .seq (.region rfl (.q .ro (.load_own_a 3 [_] rfl rfl ty45 rfl) rfl (.mv rfl rfl (.mv rfl rfl ?_))))
                  refine .freezeR 0 rfl rfl o309 [_, _, _, _] rfl B308 (fun G311 e312 B313 s314 => ?_)
                  obtain ⟨u315, hu315, r316⟩ := bind_some r310
                  refine .callW (b1 := []) (b2 := [_, _, _, _]) (s1 := []) [_, _, _] [] .ro rfl rfl Tryz.call24 rfl rfl (parity_Decode_c (G := G311) mcs s314 hu315) rfl B313 (fun v317 bo so G318 e319 B320 h321 => ?_)
                  obtain ⟨a322, k323, a324, k325, rfl, rfl, rfl, s326, s327⟩ := h321
                  refine .same (bl' := [_, _, _, _]) (sl' := [_, _, _, _]) rfl rfl rfl (.mv rfl rfl (.q .ro (.extract rfl rfl) rfl (.q .ro (.extract rfl rfl) rfl ?_)))
                  refine .alloc .ro ty65 rfl (fun b328 hb328 => ?_)
                  refine .store 0 [_, _] [_, _, _, _, _] .ro rfl rfl rfl ty65 rfl rfl rfl rfl (.av rfl rfl (.re (.seq (.seq (.region rfl (.mv rfl rfl (.q .ro (.neq rfl rfl) rfl (.re ?_))))))))
                  refine .cond_dec rfl (fun c329 => ?_) (fun c329 => ?_)
                  ·have r330 := ifT r316 c329; clear r316
                   refine .seq (.region rfl (.av rfl rfl (.re (.prune [(2, _)] ⟨rfl, trivial⟩ ?_))))
                   cases r330
                   refine .drop 5 0 [] _ rfl rfl (.drop 0 4 _ [] rfl rfl ?_)
                   refine .retS (.inr ⟨_, rfl⟩) [.tmp 2] [_] rfl Tryz.func5 Tryz.results5 ⟨RV.tmp rfl, trivial⟩ mcm ⟨rfl, rfl, rfl⟩
                  ·have r331 := ifF r316 c329; clear r316
                   refine .skip (.seq (.region rfl (.q .ro (.fieldAddr 0 rfl fl87_0 ty22.sz rfl) rfl (.q .ro (.load_own 2 rfl rfl ty22 rfl) rfl (.mv rfl rfl ?_)))))
                   obtain ⟨u332, hu332, r333⟩ := bind_some r331
                   obtain ⟨c334, p335, h336⟩ := SlR.get (SlR.mono (HpLe.trans (HpLe.trans (HpLe.trans (HpLe.trans e233 e293) e307) e312) e319) s116) hu332
                   obtain rfl := h336
                   refine .q .ro (.idxR (SlR.mono (HpLe.trans (HpLe.trans (HpLe.trans (HpLe.trans e233 e293) e307) e312) e319) s116) rfl rfl hu332 sl22 ty3.sz) rfl (.q .ro (.load_rp p335 mcs rfl ty3 rfl) rfl (.q .ro (.geq rfl rfl) rfl (.re (.prune [(17, _), (18, _), (132, _), (9, _), (3, _), (4, _), (7, _), (8, _), (11, _), (13, _), (15, _), (130, _), (131, _), (19, _), (35, _), (237, _)] ⟨rfl, rfl, rfl, rfl, rfl, rfl, rfl, rfl, rfl, rfl, rfl, rfl, rfl, rfl, rfl, rfl, trivial⟩ ?_))))
                   refine .cond_dec rfl (fun c337 => ?_) (fun c337 => ?_)
                   ·have r338 := ifT r333 c337; clear r333
                    refine .drawL (.q 0 (.q 1 (.q 2 (.q 3 (.q 4 (.q 5 (.q 6 (.q 7 (.e 8 2 (.e 9 2 .nil)))))))))) [_, _, _, _, _] (by kernel_rfl) (by kernel_rfl) (pick_mem [0, 1, 2, 3, 4] rfl) (.dq (.move rfl) rfl (.dq (.fieldAddr 0 rfl fl87_0 ty22.sz rfl) rfl (.dq (.load_own 2 rfl rfl ty22 rfl) rfl (.dq (.move rfl) rfl ?_))))
                    obtain ⟨u339, hu339, r340⟩ := bind_some r338
                    obtain ⟨c341, p342, h343⟩ := SlR.get (SlR.mono (HpLe.trans (HpLe.trans (HpLe.trans (HpLe.trans e233 e293) e307) e312) e319) s116) hu339
                    obtain rfl := h343
                    refine .dq (.idxR (SlR.mono (HpLe.trans (HpLe.trans (HpLe.trans (HpLe.trans e233 e293) e307) e312) e319) s116) rfl rfl hu339 sl22 ty3.sz) rfl (.dq (.load_rp p342 mcs rfl ty3 rfl) rfl (.dq (.fieldAddr 0 rfl fl65_0 ty22.sz rfl) rfl (.dq (.load_own 0 rfl rfl ty22 rfl) rfl ?_)))
                    obtain ⟨u344, hu344, r345⟩ := bind_some r340
                    obtain ⟨c346, p347, h348⟩ := OL.get (OL.mono (HpLe.trans (HpLe.trans (HpLe.trans e293 e307) e312) e319) o235) hu344
                    obtain ⟨a349, k350, rfl, s351⟩ := h348
                    refine .q .d2 (.idxO 1 rfl rfl rfl hu344 sl51 ty22.sz) rfl ?_
                    obtain ⟨u352, hu352, r353⟩ := bind_some r345
                    refine .storeR 1 0 (Q := (Rep.sl ri)) .d2 rfl rfl (OL.mono (HpLe.trans (HpLe.trans (HpLe.trans e293 e307) e312) e319) o235) hu352 rfl (.inl ⟨rfl, rfl⟩) rfl ty22 p347 ((Rep.slI s326) :) rfl rfl (fun cs354 hlcs354 o355 => ?_)
                    refine .reval 18 hlcs354 rfl (.reval 238 hlcs354 rfl (.draw_end (.inBlock (.region rfl (.q .ro (.addw rfl rfl) rfl (.mv rfl rfl (.re (.prune [(17, _), (18, _), (132, _), (9, _), (3, _), (4, _), (7, _), (8, _), (11, _), (13, _), (15, _), (130, _), (131, _)] ⟨rfl, rfl, rfl, rfl, rfl, rfl, rfl, rfl, rfl, rfl, rfl, rfl, rfl, trivial⟩ (.drop 1 0 [_, _, _, _] _ rfl rfl (.drop 0 1 _ [_, _, _] rfl rfl ?_))))))))))
                    exact .arr (hb220 ((i221 + 1), xs240, G318, (w64 (v224 + 1)), u352, a226, k227, cs354, v289, a290, k291, v292) ⟨(HpLe.trans (HpLe.trans (HpLe.trans (HpLe.trans e233 e293) e307) e312) e319), B320, o355, (SlR.mono (HpLe.trans (HpLe.trans e307 e312) e319) s297), (drop_succ g237), r353⟩ (Nat.lt_succ_self _)) ⟨rfl, rfl, (congrArg (fun z => some (Value.int .i64 z)) (idx_wrap (SlR.len (SlR.mono (HpLe.trans e104 e111) s102)) g237)), rfl, rfl, rfl, rfl, rfl, rfl, rfl, rfl, rfl, rfl, trivial⟩
                   ·have r356 := ifF r333 c337; clear r333
                    refine .skip (.inBlock (.region rfl (.q .ro (.addw rfl rfl) rfl (.mv rfl rfl (.re (.drop 1 0 [_, _, _, _] _ rfl rfl (.drop 0 1 _ [_, _, _] rfl rfl ?_)))))))
                    exact .arr (hb220 ((i221 + 1), xs240, G318, (w64 (v224 + 1)), v225, a226, k227, cs228, v289, a290, k291, v292) ⟨(HpLe.trans (HpLe.trans (HpLe.trans (HpLe.trans e233 e293) e307) e312) e319), B320, (OL.mono (HpLe.trans (HpLe.trans (HpLe.trans e293 e307) e312) e319) o235), (SlR.mono (HpLe.trans (HpLe.trans e307 e312) e319) s297), (drop_succ g237), r356⟩ (Nat.lt_succ_self _)) ⟨rfl, rfl, (congrArg (fun z => some (Value.int .i64 z)) (idx_wrap (SlR.len (SlR.mono (HpLe.trans e104 e111) s102)) g237)), rfl, rfl, rfl, rfl, rfl, rfl, rfl, rfl, rfl, rfl, trivial⟩
                 ·intro hb357
                  refine .block (.own_nil 63 2 ?_)
                  refine .loop2 (α := Nat × List (List Int) × Hp × (List (Bool × (List Int))) × Option Addr × Nat × List Value) (fun y => [(30, .slice y.2.2.2.2.1 y.2.2.2.1.length y.2.2.2.2.2.1), (203, .int .i64 (y.1 : Int))]) [(21, _), (17, _), (18, _), (132, _), (9, _), (3, _), (4, _), (7, _), (8, _), (11, _), (13, _), (15, _), (130, _), (131, _), (19, _), (201, _), (202, _)] (fun y => [y.2.2.1]) (fun y => []) [_, _, _, _] (fun y => [.s (.slice y.2.2.2.2.1 y.2.2.2.1.length y.2.2.2.2.2.1) 63 2 y.2.2.2.1.length y.2.2.2.2.2.2]) [_, _, _, _] (fun y => HpLe G280 y.2.2.1 ∧ Bd w0 S0 Fs y.2.2.1 ∧ OL (Rep.pair Rep.bool (Rep.sl ri)) y.2.2.1 y.2.2.2.2.2.2 y.2.2.2.1 ∧ List.drop y.1 v284 = y.2.1 ∧ top_TopBatch_L6 (top_TopBatch_J5 (top_TopBatch_L11 (top_TopBatch_J4 v38 u93.1 u60.1) (w64 (1 + u53.1)) u107.1 u23.1 u123.1 u60.1 xs240 (i221 + 1)) (w64 (v224 + 1)) (i221 : Int) (w64 (1 + u53.1)) v289 v292 u107.1 u23.1 v225) v281 (w64 (1 + u53.1)) u23.1 y.2.1 y.2.2.2.1 = some r) (fun y => y.2.1.length) (0, v284, G280, ([] : List (Bool × (List Int))), none, 0, []) ⟨(HpLe.refl _), B294, (OL.nil (Rp' := (Rep.pair Rep.bool (Rep.sl ri)))), rfl, r301⟩ ⟨rfl, rfl, rfl, rfl, rfl, rfl, rfl, rfl, rfl, rfl, rfl, rfl, rfl, rfl, rfl, rfl, rfl, rfl, rfl, trivial⟩ rfl rfl rfl (fun y hI hb358 => ?_)
                  obtain ⟨i359, w360, G361, v362, a363, k364, cs365⟩ := y
                  obtain ⟨e366, B367, o368, g369, r370⟩ := hI
                  try dsimp only at e366 B367 o368 g369 r370
                  refine .prune [(30, .slice a363 v362.length k364), (203, .int .i64 (i359 : Int)), (21, _), (17, _), (18, _), (132, _), (9, _), (3, _), (4, _), (7, _), (8, _), (11, _), (13, _), (15, _), (130, _), (131, _), (19, _), (201, _), (202, _)] ⟨rfl, rfl, rfl, rfl, rfl, rfl, rfl, rfl, rfl, rfl, rfl, rfl, rfl, rfl, rfl, rfl, rfl, rfl, rfl, trivial⟩ (.same (bl' := [_, _, _, _]) (sl' := [.s (.slice a363 v362.length k364) 63 2 v362.length cs365, _, _, _, _]) (Fs' := G361 :: Fs) rfl rfl rfl ?_)
                  cases w360 with
                  | nil =>
                   rw [top_TopBatch_L6] at r370; try dsimp only at r370
                   refine .seq (.region rfl (.q .ro (.lss rfl rfl) rfl (.re (.seq ?_))))
                   refine .cond_dec rfl (fun c => absurd c (drop_nil g369)) (fun _ => ?_)
                   refine .exit rfl ?_
                   exact .arr (hb357 (G361, v362, a363, k364, cs365) ⟨e366, B367, o368, r370⟩) ⟨rfl, rfl, rfl, rfl, rfl, rfl, rfl, rfl, rfl, rfl, rfl, rfl, rfl, rfl, rfl, trivial⟩
                  | cons x371 xs372 =>
                   have r373 : top_TopBatch_B6 (top_TopBatch_J5 (top_TopBatch_L11 (top_TopBatch_J4 v38 u93.1 u60.1) (w64 (1 + u53.1)) u107.1 u23.1 u123.1 u60.1 xs240 (i221 + 1)) (w64 (v224 + 1)) (i221 : Int) (w64 (1 + u53.1)) v289 v292 u107.1 u23.1 v225) v281 (w64 (1 + u53.1)) u23.1 (top_TopBatch_L6 (top_TopBatch_J5 (top_TopBatch_L11 (top_TopBatch_J4 v38 u93.1 u60.1) (w64 (1 + u53.1)) u107.1 u23.1 u123.1 u60.1 xs240 (i221 + 1)) (w64 (v224 + 1)) (i221 : Int) (w64 (1 + u53.1)) v289 v292 u107.1 u23.1 v225) v281 (w64 (1 + u53.1)) u23.1 xs372) x371 v362 = some r := r370; clear r370; unfold top_TopBatch_B6 at r373; try dsimp only at r373
                   refine .seq (.region rfl (.q .ro (.lss rfl rfl) rfl (.re (.seq ?_))))
                   refine .cond_dec rfl (fun _ => ?_) (fun c => absurd (drop_lt g369) c)
                   refine .skip (.seq (.block (.seq (.region rfl ?_))))
                   obtain ⟨c374, p375, h376⟩ := OL.get (OL.mono e366 o296) (drop_idx g369)
                   obtain ⟨a377, k378, rfl, s379⟩ := h376
                   refine .q .ro (.idxO 1 rfl rfl rfl (drop_idx g369) sl51 ty22.sz) rfl (.q .ro (.loadO 1 0 rfl (drop_idx g369) p375 rfl (.inl ⟨rfl, rfl⟩) ty22 rfl) rfl (.av rfl rfl (.re (.seq (.region rfl (.q .ro (.load_own_a 3 [_] rfl rfl ty45 rfl) rfl (.mv rfl rfl (.mv rfl rfl (.mv rfl rfl ?_)))))))))
                   obtain ⟨u380, hu380, r381⟩ := bind_some r373
                   refine .callS (b1 := []) (b2 := [_, _, _, _]) (s1 := []) [_, _, _, _] [] .ro rfl rfl Tryz.call23 rfl rfl (parity_Answer_c (G := G361) mcs (SlR.mono e366 s295) s379 hu380) rfl (fun v382 bo so h383 => ?_)
                   obtain ⟨a384, k385, cs386, rfl, rfl, rfl, o387⟩ := h383
                   refine .same (bl' := [_, _, _, _]) (sl' := [_, _, _, _, _, _]) rfl rfl rfl (.mv rfl rfl (.q .ro (.extract rfl rfl) rfl (.q .ro (.extract rfl rfl) rfl (.av rfl rfl (.av rfl rfl (.re (.seq (.seq (.region rfl (.mv rfl rfl (.q .ro (.neq rfl rfl) rfl (.re (.prune [(30, _), (203, _), (21, _), (17, _), (18, _), (132, _), (9, _), (3, _), (4, _), (7, _), (8, _), (11, _), (13, _), (15, _), (130, _), (131, _), (19, _), (201, _), (202, _), (33, _), (216, _)] ⟨rfl, rfl, rfl, rfl, rfl, rfl, rfl, rfl, rfl, rfl, rfl, rfl, rfl, rfl, rfl, rfl, rfl, rfl, rfl, rfl, rfl, trivial⟩ ?_)))))))))))))
                   refine .cond_dec rfl (fun c388 => ?_) (fun c388 => ?_)
                   ·have r389 := ifT r381 c388; clear r381
                    refine .seq (.region rfl (.av rfl rfl (.re (.prune [(2, _)] ⟨rfl, trivial⟩ ?_))))
                    cases r389
                    refine .drop 4 0 [] _ rfl rfl (.drop 0 6 _ [] rfl rfl ?_)
                    refine .retS (.inr ⟨_, rfl⟩) [.tmp 2] [_] rfl Tryz.func5 Tryz.results5 ⟨RV.tmp rfl, trivial⟩ mcm ⟨rfl, rfl, rfl⟩
                   ·have r390 := ifF r381 c388; clear r381
                    refine .skip (.region rfl (.mv rfl rfl (.mv rfl rfl (.q .ro (.build [_, _] [(0, _), (1, _)] ty63 pl63 rfl rfl) rfl ?_))))
                    refine .freezeR 0 rfl rfl o387 [_, _, _, _, _] rfl B367 (fun G391 e392 B393 s394 => ?_)
                    refine .lit [_, _] [(0, _)] .ro sl60 ty63 rfl rfl rfl rfl rfl rfl (fun b395 hb395 => ?_)
                    have o396 : OL (Rep.pair Rep.bool (Rep.sl ri)) G391 [.bool true, .slice a384 u380.1.length k385] ([(true, u380.1)] : List (Bool × (List Int))) := ((OL.cons rfl (Rep.pairI (Rep.boolI true) (Rep.slI s394)) (OL.nil (Rp' := (Rep.pair Rep.bool (Rep.sl ri))))) :)
                    refine .reval 220 (n' := ([(true, u380.1)] : List (Bool × (List Int))).length) rfl rfl ?_
                    obtain ⟨u397, hu397, r398⟩ := bind_some r390
                    refine .appO (Q := (Rep.pair Rep.bool (Rep.sl ri))) 0 .ro sl60 ty63 rfl rfl rfl rfl rfl rfl (OL.mono e392 o368) o396 rfl rfl rfl B393 hu397 rfl (fun a399 k400 cs401 o402 => ?_)
                    refine .av rfl rfl (.re (.inBlock (.region rfl (.q .ro (.addw rfl rfl) rfl (.mv rfl rfl (.re ?_))))))
                    exact .arr (hb358 ((i359 + 1), xs372, G391, u397, a399, k400, cs401) ⟨(HpLe.trans e366 e392), B393, o402, (drop_succ g369), r398⟩ (Nat.lt_succ_self _)) ⟨rfl, (congrArg (fun z => some (Value.int .i64 z)) (idx_wrap (OL.len' o296) g369)), rfl, rfl, rfl, rfl, rfl, rfl, rfl, rfl, rfl, rfl, rfl, rfl, rfl, rfl, rfl, rfl, rfl, trivial⟩
               ·intro hb403
                refine .split 195 rfl (fun c404 => ?_) (fun c404 => ?_)
                ·refine .g_off rfl rfl rfl ?_
                 refine .g_off rfl rfl rfl (.q .ro (.pick_t rfl rfl) rfl ?_)
                 exact .arr (hb403 () trivial) ⟨dor_t c404, rfl, rfl, rfl, rfl, rfl, rfl, rfl, rfl, rfl, rfl, rfl, rfl, rfl, rfl, rfl, rfl, trivial⟩
                ·refine .g_on rfl ?_
                 refine .mv rfl rfl (.g_on rfl (.q .ro (.neq rfl rfl) rfl (.q .ro (.pick_f rfl rfl) rfl ?_)))
                 exact .arr (hb403 () trivial) ⟨dor_f c404, rfl, rfl, rfl, rfl, rfl, rfl, rfl, rfl, rfl, rfl, rfl, rfl, rfl, rfl, rfl, rfl, trivial⟩
              ·intro hb405
               refine .freezeR 1 rfl rfl o263 [_, _, _, _] rfl B234 (fun G406 e407 B408 s409 => ?_)
               refine .freezeR 0 rfl rfl (OL.mono e407 o279) [_, _, _] rfl B408 (fun G410 e411 B412 s413 => ?_)
               refine .drawL (.q 0 (.q 1 (.q 2 (.q 3 (.q 4 (.q 5 (.alt (.e 6 1 (.alt (.e 7 1 (.q 8 (.q 9 (.q 10 (.q 11 (.e 12 1 (.q 13 (.e 14 1 (.q 15 .nil))))))))) (.e 12 1 (.e 7 1 (.q 8 (.q 9 (.q 10 (.q 11 (.q 13 (.e 14 1 (.q 15 .nil))))))))))) (.e 12 1 (.e 6 1 (.e 7 1 (.q 8 (.q 9 (.q 10 (.q 11 (.q 13 (.e 14 1 (.q 15 .nil))))))))))))))))) [_, _, _] (by kernel_rfl) (by kernel_rfl) (pick_mem [1, 2, 3] rfl) ?_
               obtain ⟨u414, hu414, r415⟩ := bind_some r273
               obtain ⟨u416, hu416, r417⟩ := bind_some r415
               refine .dq (.load_own_a 2 [_] rfl rfl ty45 rfl) rfl (.dq (.move rfl) rfl (.dq (.len_sl rfl rfl sl51) rfl (.dq (.move rfl) rfl (.dq (.move rfl) rfl (.dq (.move rfl) rfl ?_)))))
               refine .alt ?_ ?_
               ·refine .callW (b1 := [_]) (b2 := [_, _, _]) (s1 := []) [_, _] [] .d1 rfl rfl Tryz.call22 rfl rfl (make_Seed_c (G := G410) mcs (SlR.mono (HpLe.trans e407 e411) s236) s413 hu414) rfl B412 (fun v418 bo so G419 e420 B421 h422 => ?_)
                obtain ⟨a423, k424, a425, k426, rfl, rfl, rfl, s427, s428⟩ := h422
                refine .same (bl' := [_, _, _, _]) (sl' := [_, _, _]) rfl rfl rfl (.clsL e420 (pick_mem [1, 2, 3] rfl) ?_)
                refine .alt ?_ ?_
                ·refine .callW (b1 := []) (b2 := [_, _, _, _]) (s1 := []) [_, _, _, _, _] [] .d1 rfl rfl Tryz.call21 rfl rfl (parity_Queries_c (G := G419) mcs s427 hu416) rfl B421 (fun v429 bo so G430 e431 B432 h433 => ?_)
                 obtain ⟨a434, k435, a436, k437, cs438, rfl, rfl, rfl, s439, o440⟩ := h433
                 refine .same (bl' := [_, _, _, _]) (sl' := [_, _, _, _]) rfl rfl rfl (.clsL (HpLe.trans e420 e431) (pick_mem [1, 2, 3] rfl) (.dq (.move rfl) rfl (.dq (.extract rfl rfl) rfl (.dq (.extract rfl rfl) rfl (.dq (.extract rfl rfl) rfl ?_)))))
                 refine .alloc .d1 ty56 rfl (fun b441 hb441 => ?_)
                 refine .clsL (HpLe.trans e420 e431) (pick_mem [2, 3, 4] rfl) (.dq (.assign rfl) rfl (.store 0 [_, _] [_, _, _, _, _] .d1 rfl rfl rfl ty56 rfl rfl rfl rfl (.clsL (HpLe.trans e420 e431) (pick_mem [2, 3, 4] rfl) (.dq (.assign rfl) rfl (.draw_end (.prune [(21, _), (17, _), (18, _), (132, _), (9, _), (3, _), (4, _), (7, _), (8, _), (11, _), (13, _), (15, _), (130, _), (131, _), (19, _), (26, _), (27, _), (29, _)] ⟨rfl, rfl, rfl, rfl, rfl, rfl, rfl, rfl, rfl, rfl, rfl, rfl, rfl, rfl, rfl, rfl, rfl, rfl, trivial⟩ (.drop 1 0 [_, _, _, _] _ rfl rfl ?_)))))))
                 exact .arr (hb405 (G430, v259, a260, k261, u416.1, a436, k437, cs438, u416.2.2, u414.2.1, a425, k426, u414.2.2) ⟨(HpLe.trans (HpLe.trans (HpLe.trans e407 e411) e420) e431), B432, (SlR.mono (HpLe.trans (HpLe.trans e411 e420) e431) s409), o440, (SlR.mono e431 s428), r417⟩) ⟨rfl, rfl, rfl, rfl, rfl, rfl, rfl, rfl, rfl, rfl, rfl, rfl, rfl, rfl, rfl, rfl, rfl, rfl, trivial⟩
                ·refine .alloc .d1 ty56 rfl (fun b442 hb442 => ?_)
                 refine .clsL e420 (pick_mem [2, 3, 4] rfl) ?_
                 refine .callW (b1 := []) (b2 := [_, _, _, _, _]) (s1 := []) [_, _, _, _, _] [] .d1 rfl rfl Tryz.call21 rfl rfl (parity_Queries_c (G := G419) mcs s427 hu416) rfl B421 (fun v443 bo so G444 e445 B446 h447 => ?_)
                 obtain ⟨a448, k449, a450, k451, cs452, rfl, rfl, rfl, s453, o454⟩ := h447
                 refine .same (bl' := [_, _, _, _, _]) (sl' := [_, _, _, _]) rfl rfl rfl (.clsL (HpLe.trans e420 e445) (pick_mem [2, 3, 4] rfl) (.dq (.move rfl) rfl (.dq (.extract rfl rfl) rfl (.dq (.extract rfl rfl) rfl (.dq (.extract rfl rfl) rfl (.dq (.assign rfl) rfl (.store 0 [_, _] [_, _, _, _, _] .d1 rfl rfl rfl ty56 rfl rfl rfl rfl (.clsL (HpLe.trans e420 e445) (pick_mem [2, 3, 4] rfl) (.dq (.assign rfl) rfl (.draw_end (.prune [(21, _), (17, _), (18, _), (132, _), (9, _), (3, _), (4, _), (7, _), (8, _), (11, _), (13, _), (15, _), (130, _), (131, _), (19, _), (26, _), (27, _), (29, _)] ⟨rfl, rfl, rfl, rfl, rfl, rfl, rfl, rfl, rfl, rfl, rfl, rfl, rfl, rfl, rfl, rfl, rfl, rfl, trivial⟩ (.drop 1 0 [_, _, _, _] _ rfl rfl ?_))))))))))))
                 exact .arr (hb405 (G444, v259, a260, k261, u416.1, a450, k451, cs452, u416.2.2, u414.2.1, a425, k426, u414.2.2) ⟨(HpLe.trans (HpLe.trans (HpLe.trans e407 e411) e420) e445), B446, (SlR.mono (HpLe.trans (HpLe.trans e411 e420) e445) s409), o454, (SlR.mono e445 s428), r417⟩) ⟨rfl, rfl, rfl, rfl, rfl, rfl, rfl, rfl, rfl, rfl, rfl, rfl, rfl, rfl, rfl, rfl, rfl, rfl, trivial⟩
               ·refine .alloc .d1 ty56 rfl (fun b455 hb455 => ?_)
                refine .clsL (HpLe.refl _) (pick_mem [2, 3, 4] rfl) (.pull 1 rfl [_, _, _, _, _] rfl ?_)
                refine .callW (b1 := [_]) (b2 := [_, _, _, _]) (s1 := []) [_, _] [] .d1 rfl rfl Tryz.call22 rfl rfl (make_Seed_c (G := G410) mcs (SlR.mono (HpLe.trans e407 e411) s236) s413 hu414) rfl B412 (fun v456 bo so G457 e458 B459 h460 => ?_)
                obtain ⟨a461, k462, a463, k464, rfl, rfl, rfl, s465, s466⟩ := h460
                refine .same (bl' := [_, _, _, _, _]) (sl' := [_, _, _]) rfl rfl rfl (.clsL e458 (pick_mem [2, 3, 4] rfl) ?_)
                refine .callW (b1 := []) (b2 := [_, _, _, _, _]) (s1 := []) [_, _, _, _, _] [] .d1 rfl rfl Tryz.call21 rfl rfl (parity_Queries_c (G := G457) mcs s465 hu416) rfl B459 (fun v467 bo so G468 e469 B470 h471 => ?_)
                obtain ⟨a472, k473, a474, k475, cs476, rfl, rfl, rfl, s477, o478⟩ := h471
                refine .same (bl' := [_, _, _, _, _]) (sl' := [_, _, _, _]) rfl rfl rfl (.clsL (HpLe.trans e458 e469) (pick_mem [2, 3, 4] rfl) (.dq (.move rfl) rfl (.dq (.extract rfl rfl) rfl (.dq (.extract rfl rfl) rfl (.dq (.extract rfl rfl) rfl (.dq (.assign rfl) rfl (.store 1 [_, _] [_, _, _, _, _] .d1 rfl rfl rfl ty56 rfl rfl rfl rfl (.clsL (HpLe.trans e458 e469) (pick_mem [2, 3, 4] rfl) (.dq (.assign rfl) rfl (.draw_end (.prune [(21, _), (17, _), (18, _), (132, _), (9, _), (3, _), (4, _), (7, _), (8, _), (11, _), (13, _), (15, _), (130, _), (131, _), (19, _), (26, _), (27, _), (29, _)] ⟨rfl, rfl, rfl, rfl, rfl, rfl, rfl, rfl, rfl, rfl, rfl, rfl, rfl, rfl, rfl, rfl, rfl, rfl, trivial⟩ (.pull 4 rfl [_, _, _, _, _] rfl (.pull 4 rfl [_, _, _, _, _] rfl (.pull 4 rfl [_, _, _, _, _] rfl (.pull 3 rfl [_, _, _, _, _] rfl (.pull 4 rfl [_, _, _, _, _] rfl (.drop 1 0 [_, _, _, _] _ rfl rfl ?_)))))))))))))))))
                exact .arr (hb405 (G468, v259, a260, k261, u416.1, a474, k475, cs476, u416.2.2, u414.2.1, a463, k464, u414.2.2) ⟨(HpLe.trans (HpLe.trans (HpLe.trans e407 e411) e458) e469), B470, (SlR.mono (HpLe.trans (HpLe.trans e411 e458) e469) s409), o478, (SlR.mono e469 s466), r417⟩) ⟨rfl, rfl, rfl, rfl, rfl, rfl, rfl, rfl, rfl, rfl, rfl, rfl, rfl, rfl, rfl, rfl, rfl, rfl, trivial⟩
             ·intro hb479
              refine .cond_dec rfl (fun c480 => ?_) (fun c480 => ?_)
              ·have r481 := ifT r266 c480; clear r266
               refine .region rfl (.mv rfl rfl (.q .ro (.fieldAddr 0 rfl fl87_0 ty22.sz rfl) rfl (.q .ro (.load_own 1 rfl rfl ty22 rfl) rfl (.mv rfl rfl ?_))))
               obtain ⟨u482, hu482, r483⟩ := bind_some r481
               obtain ⟨c484, p485, h486⟩ := SlR.get (SlR.mono e233 s116) hu482
               obtain rfl := h486
               refine .q .ro (.idxR (SlR.mono e233 s116) rfl rfl hu482 sl22 ty3.sz) rfl (.q .ro (.load_rp p485 mcs rfl ty3 rfl) rfl ?_)
               obtain ⟨u487, hu487, r488⟩ := bind_some r483
               obtain ⟨c489, p490, h491⟩ := OL.get (OL.mono e233 o130) hu487
               obtain rfl := h491
               refine .q .ro (.idxO 2 rfl rfl rfl hu487 sl22 ty3.sz) rfl (.q .ro (.loadO 2 0 rfl hu487 p490 rfl (.inl ⟨rfl, rfl⟩) ty3 rfl) rfl (.av rfl rfl (.re (.prune [(21, _), (17, _), (18, _), (132, _), (9, _), (3, _), (4, _), (7, _), (8, _), (11, _), (13, _), (15, _), (130, _), (131, _), (19, _), (24, _)] ⟨rfl, rfl, rfl, rfl, rfl, rfl, rfl, rfl, rfl, rfl, rfl, rfl, rfl, rfl, rfl, rfl, trivial⟩ ?_))))
               exact .arr (hb479 (u487) r488) ⟨rfl, rfl, rfl, rfl, rfl, rfl, rfl, rfl, rfl, rfl, rfl, rfl, rfl, rfl, rfl, rfl, trivial⟩
              ·have r492 := ifF r266 c480; clear r266
               refine .skip ?_
               exact .arr (hb479 (0) r492) ⟨rfl, rfl, rfl, rfl, rfl, rfl, rfl, rfl, rfl, rfl, rfl, rfl, rfl, rfl, rfl, rfl, trivial⟩
            ·intro hb493
             refine .block (.own_nil 22 1 ?_)
             refine .loop2 (α := Nat × List Int × List (List Int) × Option Addr × Nat × List Value) (fun y => [(21, .slice y.2.2.2.1 y.2.2.1.length y.2.2.2.2.1), (148, .int .i64 (y.1 : Int))]) [(17, _), (18, _), (132, _), (9, _), (3, _), (4, _), (7, _), (8, _), (11, _), (13, _), (15, _), (130, _), (131, _), (19, _), (146, _), (147, _)] (fun y => []) (fun y => []) [_, _, _, _] (fun y => [.s (.slice y.2.2.2.1 y.2.2.1.length y.2.2.2.2.1) 22 1 y.2.2.1.length y.2.2.2.2.2]) [_, _, _] (fun y => OL (Rep.sl ri) G223 y.2.2.2.2.2 y.2.2.1 ∧ List.drop y.1 x239 = y.2.1 ∧ top_TopBatch_L10 (top_TopBatch_J9 (top_TopBatch_L11 (top_TopBatch_J4 v38 u93.1 u60.1) (w64 (1 + u53.1)) u107.1 u23.1 u123.1 u60.1 xs240 (i221 + 1)) v224 (i221 : Int) (w64 (1 + u53.1)) v229 v232 u107.1 u23.1 v225 u123.1) u60.1 y.2.1 y.2.2.1 = some r) (fun y => y.2.1.length) (0, x239, ([] : List (List Int)), none, 0, []) ⟨(OL.nil (Rp' := (Rep.sl ri))), rfl, r258⟩ ⟨rfl, rfl, rfl, rfl, rfl, rfl, rfl, rfl, rfl, rfl, rfl, rfl, rfl, rfl, rfl, rfl, rfl, rfl, trivial⟩ rfl rfl rfl (fun y hI hb494 => ?_)
             obtain ⟨i495, w496, v497, a498, k499, cs500⟩ := y
             obtain ⟨o501, g502, r503⟩ := hI
             try dsimp only at o501 g502 r503
             refine .prune [(21, .slice a498 v497.length k499), (148, .int .i64 (i495 : Int)), (17, _), (18, _), (132, _), (9, _), (3, _), (4, _), (7, _), (8, _), (11, _), (13, _), (15, _), (130, _), (131, _), (19, _), (146, _), (147, _)] ⟨rfl, rfl, rfl, rfl, rfl, rfl, rfl, rfl, rfl, rfl, rfl, rfl, rfl, rfl, rfl, rfl, rfl, rfl, trivial⟩ (.same (bl' := [_, _, _, _]) (sl' := [.s (.slice a498 v497.length k499) 22 1 v497.length cs500, _, _, _]) (Fs' := G223 :: Fs) rfl rfl rfl ?_)
             cases w496 with
             | nil =>
              rw [top_TopBatch_L10] at r503; try dsimp only at r503
              refine .seq (.region rfl (.q .ro (.lss rfl rfl) rfl (.re (.seq ?_))))
              refine .cond_dec rfl (fun c => absurd c (drop_nil g502)) (fun _ => ?_)
              refine .exit rfl ?_
              exact .arr (hb493 (v497, a498, k499, cs500) ⟨o501, r503⟩) ⟨rfl, rfl, rfl, rfl, rfl, rfl, rfl, rfl, rfl, rfl, rfl, rfl, rfl, rfl, rfl, trivial⟩
             | cons x504 xs505 =>
              have r506 : top_TopBatch_B10 (top_TopBatch_J9 (top_TopBatch_L11 (top_TopBatch_J4 v38 u93.1 u60.1) (w64 (1 + u53.1)) u107.1 u23.1 u123.1 u60.1 xs240 (i221 + 1)) v224 (i221 : Int) (w64 (1 + u53.1)) v229 v232 u107.1 u23.1 v225 u123.1) u60.1 (top_TopBatch_L10 (top_TopBatch_J9 (top_TopBatch_L11 (top_TopBatch_J4 v38 u93.1 u60.1) (w64 (1 + u53.1)) u107.1 u23.1 u123.1 u60.1 xs240 (i221 + 1)) v224 (i221 : Int) (w64 (1 + u53.1)) v229 v232 u107.1 u23.1 v225 u123.1) u60.1 xs505) x504 v497 = some r := r503; clear r503; unfold top_TopBatch_B10 at r506; try dsimp only at r506
              refine .seq (.region rfl (.q .ro (.lss rfl rfl) rfl (.re (.seq ?_))))
              refine .cond_dec rfl (fun _ => ?_) (fun c => absurd (drop_lt g502) c)
              refine .skip (.seq (.block (.seq (.region rfl ?_))))
              obtain ⟨c507, p508, h509⟩ := SlR.get s247 (drop_idx g502)
              obtain rfl := h509
              refine .q .ro (.idxR s247 rfl rfl (drop_idx g502) sl22 ty3.sz) rfl (.q .ro (.load_rp p508 mcs rfl ty3 rfl) rfl (.av rfl rfl (.re (.region rfl (.mv rfl rfl (.mv rfl rfl (.mv rfl rfl ?_)))))))
              obtain ⟨u510, hu510, r511⟩ := bind_some r506
              obtain ⟨c512, p513, h514⟩ := OL.get (OL.mono (HpLe.trans (HpLe.trans (HpLe.trans e97 e104) e111) e233) o72) hu510
              obtain ⟨a515, k516, rfl, s517⟩ := h514
              refine .q .ro (.idxO 3 rfl rfl rfl hu510 sl51 ty22.sz) rfl (.q .ro (.loadO 3 0 rfl hu510 p513 rfl (.inl ⟨rfl, rfl⟩) ty22 rfl) rfl ?_)
              refine .lit [_] [(0, _)] .ro sl51 ty22 rfl rfl rfl rfl rfl rfl (fun b518 hb518 => ?_)
              have o519 : OL (Rep.sl ri) G223 [.slice a515 u510.length k516] ([u510] : List (List Int)) := ((OL.cons rfl (Rep.slI s517) (OL.nil (Rp' := (Rep.sl ri)))) :)
              refine .reval 157 (n' := ([u510] : List (List Int)).length) rfl rfl ?_
              obtain ⟨u520, hu520, r521⟩ := bind_some r511
              refine .appO (Q := (Rep.sl ri)) 0 .ro sl51 ty22 rfl rfl rfl rfl rfl rfl o501 o519 rfl rfl rfl B234 hu520 rfl (fun a522 k523 cs524 o525 => ?_)
              refine .av rfl rfl (.re (.inBlock (.region rfl (.q .ro (.addw rfl rfl) rfl (.mv rfl rfl (.re ?_))))))
              exact .arr (hb494 ((i495 + 1), xs505, u520, a522, k523, cs524) ⟨o525, (drop_succ g502), r521⟩ (Nat.lt_succ_self _)) ⟨rfl, (congrArg (fun z => some (Value.int .i64 z)) (idx_wrap (SlR.len s247) g502)), rfl, rfl, rfl, rfl, rfl, rfl, rfl, rfl, rfl, rfl, rfl, rfl, rfl, rfl, rfl, rfl, trivial⟩
       ·intro hb526
        refine .split 119 rfl (fun c527 => ?_) (fun c527 => ?_)
        ·refine .g_off rfl rfl rfl ?_
         refine .g_off rfl rfl rfl (.g_off rfl rfl rfl (.g_off rfl rfl rfl (.g_off rfl rfl rfl (.g_off rfl rfl rfl (.q .ro (.pick_t rfl rfl) rfl ?_)))))
         exact .arr (hb526 () trivial) ⟨dor_t c527, rfl, rfl, rfl, rfl, rfl, rfl, rfl, rfl, trivial⟩
        ·refine .g_on rfl ?_
         refine .q .ro (.fieldAddr 0 rfl fl87_0 ty22.sz rfl) rfl (.g_on rfl (.q .ro (.load_own 0 rfl rfl ty22 rfl) rfl (.g_on rfl (.q .ro (.len_sl rfl rfl sl22) rfl (.g_on rfl (.mv rfl rfl (.g_on rfl (.q .ro (.len_sl rfl rfl sl51) rfl (.g_on rfl (.q .ro (.neq rfl rfl) rfl (.q .ro (.pick_f rfl rfl) rfl ?_)))))))))))
         exact .arr (hb526 () trivial) ⟨dor_f c527, rfl, rfl, rfl, rfl, rfl, rfl, rfl, rfl, trivial⟩
      ·intro hb528
       refine .split 112 rfl (fun c529 => ?_) (fun c529 => ?_)
       ·refine .g_off rfl rfl rfl ?_
        refine .g_off rfl rfl rfl (.g_off rfl rfl rfl (.g_off rfl rfl rfl (.g_off rfl rfl rfl (.q .ro (.pick_t rfl rfl) rfl ?_))))
        exact .arr (hb528 () trivial) ⟨dor_t c529, rfl, rfl, rfl, rfl, rfl, rfl, rfl, rfl, trivial⟩
       ·refine .g_on rfl ?_
        refine .mv rfl rfl (.g_on rfl (.q .ro (.len_sl rfl rfl sl22) rfl (.g_on rfl (.mv rfl rfl (.g_on rfl (.q .ro (.len_sl rfl rfl sl22) rfl (.g_on rfl (.q .ro (.neq rfl rfl) rfl (.q .ro (.pick_f rfl rfl) rfl ?_)))))))))
        exact .arr (hb528 () trivial) ⟨dor_f c529, rfl, rfl, rfl, rfl, rfl, rfl, rfl, rfl, trivial⟩
    ·intro hb530
     refine .split 93 rfl (fun c531 => ?_) (fun c531 => ?_)
     ·refine .g_off rfl rfl rfl ?_
      refine .g_off rfl rfl rfl (.q .ro (.pick_t rfl rfl) rfl ?_)
      exact .arr (hb530 () trivial) ⟨dor_t c531, rfl, rfl, rfl, rfl, rfl, rfl, rfl, rfl, rfl, rfl, trivial⟩
     ·refine .g_on rfl ?_
      refine .mv rfl rfl (.g_on rfl (.q .ro (.neq rfl rfl) rfl (.q .ro (.pick_f rfl rfl) rfl ?_)))
      exact .arr (hb530 () trivial) ⟨dor_f c531, rfl, rfl, rfl, rfl, rfl, rfl, rfl, rfl, rfl, rfl, trivial⟩
   ·intro hb532
    refine .block (.own_nil 3 1 ?_)
    refine .loop2 (α := Nat × List Int × Option Addr × Nat × List Value × Int × List Int × Option Addr × Nat × Int) (fun y => [(9, .slice y.2.2.1 y.2.1.length y.2.2.2.1), (10, .int .i64 y.2.2.2.2.2.1)]) [(3, _), (4, _), (5, _), (6, _), (7, _), (8, _)] (fun y => []) (fun y => [(b19, .cells #[.slice y.2.2.2.2.2.2.2.1 y.2.2.2.2.2.2.1.length y.2.2.2.2.2.2.2.2.1, .int .i64 y.2.2.2.2.2.2.2.2.2] 121 (0, 0))]) [_, _] (fun y => [.s (.slice y.2.2.1 y.2.1.length y.2.2.2.1) 3 1 y.2.1.length y.2.2.2.2.1]) [_] (fun y => OL ri G64 y.2.2.2.2.1 y.2.1 ∧ SlR ri G64 y.2.2.2.2.2.2.2.1 y.2.2.2.2.2.2.2.2.1 y.2.2.2.2.2.2.1 ∧ top_TopBatch_L13 (top_TopBatch_J12 (w64 (4 + u46.1)) (w64 (1 + u53.1)) u31.1.1 u31.1.2 u23.1 u60.1) (w64 (4 + u46.1)) y.1 y.2.1 y.2.2.2.2.2.1 y.2.2.2.2.2.2.1 y.2.2.2.2.2.2.2.2.2 = some r) (fun y => y.1) (big, ([] : List Int), none, 0, [], u76.1, u76.2.1, a80, k81, u76.2.2) ⟨(OL.nil (Rp' := ri)), s82, r77⟩ ⟨rfl, rfl, rfl, rfl, rfl, rfl, rfl, rfl, trivial⟩ rfl rfl rfl (fun y hI hb533 => ?_)
    obtain ⟨n534, v535, a536, k537, cs538, v539, v540, a541, k542, v543⟩ := y
    obtain ⟨o544, s545, r546⟩ := hI
    try dsimp only at o544 s545 r546
    refine .prune [(9, .slice a536 v535.length k537), (10, .int .i64 v539), (3, _), (4, _), (5, _), (6, _), (7, _), (8, _)] ⟨rfl, rfl, rfl, rfl, rfl, rfl, rfl, rfl, trivial⟩ (.same (bl' := [(b19, .cells #[.slice a541 v540.length k542, .int .i64 v543] 121 (0, 0)), _, _]) (sl' := [.s (.slice a536 v535.length k537) 3 1 v535.length cs538, _]) (Fs' := G64 :: Fs) rfl rfl rfl ?_)
    obtain ⟨m547, rfl⟩ : ∃ m, n534 = m + 1 := by cases n534 with | zero => exact absurd (show (none : Option _) = some _ from r546) (by simp) | succ m => exact ⟨m, rfl⟩
    have r548 : top_TopBatch_B13 (top_TopBatch_J12 (w64 (4 + u46.1)) (w64 (1 + u53.1)) u31.1.1 u31.1.2 u23.1 u60.1) (w64 (4 + u46.1)) (top_TopBatch_L13 (top_TopBatch_J12 (w64 (4 + u46.1)) (w64 (1 + u53.1)) u31.1.1 u31.1.2 u23.1 u60.1) (w64 (4 + u46.1)) m547) v535 v539 v540 v543 = some r := r546; clear r546; unfold top_TopBatch_B13 at r548; try dsimp only at r548
    refine .seq (.seq (.region rfl (.mv rfl rfl (.q .ro (.gtr rfl rfl) rfl (.re ?_)))))
    refine .cond_dec rfl (fun c549 => ?_) (fun c549 => ?_)
    ·have r550 := ifT r548 c549; clear r548
     refine .skip (.seq (.block (.region rfl (.mv rfl rfl (.mv rfl rfl (.mv rfl rfl ?_))))))
     obtain ⟨u551, hu551, r552⟩ := bind_some r550
     refine .callS (b1 := [_]) (b2 := [_, _]) (s1 := []) [_, _] [] .ro rfl rfl Tryz.call18 rfl rfl (make_Deck_Next_c (G := G64) mcs s545 hu551) rfl (fun v553 bo so h554 => ?_)
     obtain ⟨a555, k556, rfl, rfl, rfl, s557⟩ := h554
     refine .same (bl' := [_, _, _]) (sl' := [_, _]) rfl rfl rfl ?_
     refine .lit [_] [(0, _)] .ro sl22 ty3 rfl rfl rfl rfl rfl rfl (fun b558 hb558 => ?_)
     have o559 : OL ri G64 [.int .i64 u551.1] ([u551.1] : List Int) := ((OL.cons rfl (Rep.intI .i64 u551.1) (OL.nil (Rp' := ri))) :)
     refine .reval 77 (n' := ([u551.1] : List Int).length) rfl rfl ?_
     obtain ⟨u560, hu560, r561⟩ := bind_some r552
     refine .appO (Q := ri) 0 .ro sl22 ty3 rfl rfl rfl rfl rfl rfl o544 o559 rfl rfl rfl B66 hu560 rfl (fun a562 k563 cs564 o565 => ?_)
     refine .av rfl rfl (.re (.inBlock (.region rfl (.mv rfl rfl (.q .ro (.subw rfl rfl) rfl (.av rfl rfl (.re ?_)))))))
     exact .arr (hb533 (m547, u560, a562, k563, cs564, (w64 (v539 - 1)), u551.2.1, a555, k556, u551.2.2) ⟨o565, s557, r561⟩ (Nat.lt_succ_self _)) ⟨rfl, rfl, rfl, rfl, rfl, rfl, rfl, rfl, trivial⟩
    ·have r566 := ifF r548 c549; clear r548
     refine .exit rfl ?_
     exact .arr (hb532 (v535, a536, k537, cs538, v540, a541, k542, v543) ⟨o544, s545, r566⟩) ⟨rfl, rfl, rfl, rfl, rfl, rfl, rfl, trivial⟩
end Go.Proofs.YtfcicopgdahmcaaGreatDoor
end

section
namespace Go.Proofs.YtfcicopgdahmcaaGreatDoor
theorem nz_ok {y : Int} (h : y ≠ 0) : nz y = some () := by unfold nz; rw [if_neg h]
theorem lidx_ok {α : Type} {l : List α} {i : Int} (d : α) (h0 : 0 ≤ i) (h1 : i < l.length) : lidx l i = some (l.getD i.toNat d) := by
  refine lidx_of h0 ?_
  rw [List.getD_eq_getElem?_getD]
  have : i.toNat < l.length := by omega
  simp [this]
theorem lidx_nat {α : Type} {l : List α} {i : Nat} (d : α) (h1 : i < l.length) : lidx l (i : Int) = some (l.getD i d) := by
  rw [lidx_ok d (by omega) (by omega), Int.toNat_natCast]
theorem lapp_ok {α : Type} {l m : List α} (h : l.length + m.length ≤ 16777216) : lapp l m = some (l ++ m) := by unfold lapp; rw [if_pos h]
theorem lupd_ok {α : Type} {l : List α} {i : Int} {y : α} (h0 : 0 ≤ i) (h1 : i < l.length) : lupd l i y = some (l.set i.toNat y) := by unfold lupd; rw [if_pos ⟨h0, h1⟩]
theorem mod_ok {x n : Int} (hn : 1 ≤ n) (hn2 : n ≤ 1000000) : make_Mod x n = some (x % n) := by
  unfold make_Mod
  rw [nz_ok (by omega)]
  simp only [Option.bind_some]
  have h1 := Int.lt_tmod_of_pos x (by omega : 0 < n)
  have h2 := Int.tmod_lt_of_pos x (by omega : 0 < n)
  rw [w64_id (by omega) (by omega), Int.tmod_eq_emod_of_nonneg (by omega), Int.add_emod_right]
  congr 1
  have h3 := Int.tmod_add_mul_tdiv x n
  have h4 : x.tmod n = x - n * x.tdiv n := by omega
  rw [h4, Int.sub_mul_emod_self_left]
theorem dnext_ok {l : List Int} (hl : l.length ≤ 1000) {p n : Int} (h0 : 0 ≤ p ∧ p ≤ 1000) (hn : 1 ≤ n ∧ n ≤ 1000000) : ∃ v q, make_Deck_Next (l, p) n = some (v, (l, q)) ∧ 0 ≤ v ∧ v < n ∧ 0 ≤ q ∧ q ≤ 1000 := by
  unfold make_Deck_Next
  split
  · exact ⟨0, p, rfl, by omega, by omega, h0.1, h0.2⟩
  · rename_i h
    dsimp only at h ⊢
    rw [lidx_ok 0 (by omega) (by omega)]
    simp only [Option.bind_some]
    rw [mod_ok hn.1 hn.2]
    simp only [Option.bind_some]
    refine ⟨_, _, rfl, Int.emod_nonneg _ (by omega), Int.emod_lt_of_pos _ (by omega), ?_⟩
    rw [w64_id (by omega) (by omega)]; omega
def Dk (l : List Int) (d : List Int × Int) : Prop := d.1 = l ∧ 0 ≤ d.2 ∧ d.2 ≤ 1000
theorem next_ok {l : List Int} (hl : l.length ≤ 1000) {d : List Int × Int} (hd : Dk l d) {n : Int} (hn : 1 ≤ n ∧ n ≤ 1000000) : ∃ v e, make_Deck_Next d n = some (v, e) ∧ 0 ≤ v ∧ v < n ∧ Dk l e := by
  obtain ⟨d1, d2⟩ := d
  obtain ⟨rfl, h1, h2⟩ := hd
  obtain ⟨v, q, e, a, b, c, f⟩ := dnext_ok hl ⟨h1, h2⟩ hn
  exact ⟨v, _, e, a, b, rfl, c, f⟩
end Go.Proofs.YtfcicopgdahmcaaGreatDoor
end

section
namespace Go.Proofs.YtfcicopgdahmcaaGreatDoor.Alg
set_option linter.unusedVariables false
def Cg (p a b : Int) : Prop := ∃ k, a - b = p * k
section
variable {p a b c d x y : Int}
theorem Cg.refl (p a : Int) : Cg p a a := ⟨0, by simp⟩
theorem Cg.of (h : a = b) : Cg p a b := h ▸ Cg.refl p a
theorem Cg.symm (h : Cg p a b) : Cg p b a := by obtain ⟨k, h⟩ := h; exact ⟨-k, by rw [Int.mul_neg]; omega⟩
theorem Cg.trans (h : Cg p a b) (k : Cg p b c) : Cg p a c := by obtain ⟨i, h⟩ := h; obtain ⟨j, k⟩ := k; exact ⟨i + j, by rw [Int.mul_add]; omega⟩
theorem Cg.add (h : Cg p a b) (k : Cg p c d) : Cg p (a + c) (b + d) := by obtain ⟨i, h⟩ := h; obtain ⟨j, k⟩ := k; exact ⟨i + j, by rw [Int.mul_add]; omega⟩
theorem Cg.sub (h : Cg p a b) (k : Cg p c d) : Cg p (a - c) (b - d) := by obtain ⟨i, h⟩ := h; obtain ⟨j, k⟩ := k; exact ⟨i - j, by rw [Int.mul_sub]; omega⟩
theorem Cg.mul (h : Cg p a b) (k : Cg p c d) : Cg p (a * c) (b * d) := by
  obtain ⟨i, h⟩ := h; obtain ⟨j, k⟩ := k
  refine ⟨i * c + b * j, ?_⟩
  have e1 : a * c - b * d = (a - b) * c + b * (c - d) := by rw [Int.sub_mul, Int.mul_sub]; omega
  rw [e1, h, k, Int.mul_add, Int.mul_assoc, Int.mul_left_comm b p j]
theorem Cg.emod (p a : Int) : Cg p (a % p) a := ⟨-(a / p), by have := Int.emod_add_mul_ediv a p; rw [Int.mul_neg]; omega⟩
theorem Cg.tmod (p a : Int) : Cg p (Int.tmod a p) a := ⟨-(Int.tdiv a p), by have := Int.tmod_add_mul_tdiv a p; rw [Int.mul_neg]; omega⟩
theorem Cg.p0 (p a : Int) : Cg p (p * a) 0 := ⟨a, by omega⟩
theorem Cg.small (h : Cg p a 0) (h0 : 0 ≤ a) (h1 : a < p) : a = 0 := by
  obtain ⟨k, h⟩ := h
  have hp : 0 < p := by omega
  have : k = 0 := by
    rcases Int.lt_trichotomy k 0 with hk | hk | hk
    · have := Int.mul_le_mul_of_nonneg_left (show k ≤ -1 by omega) (Int.le_of_lt hp)
      omega
    · exact hk
    · have := Int.mul_le_mul_of_nonneg_left (show 1 ≤ k by omega) (Int.le_of_lt hp)
      omega
  subst this; omega
theorem Cg.eq (h : Cg p a b) (ha : 0 ≤ a) (ha' : a < p) (hb : 0 ≤ b) (hb' : b < p) : a = b := by
  rcases Int.le_total b a with hh | hh
  · have h2 : Cg p (a - b) 0 := by obtain ⟨k, h⟩ := h; exact ⟨k, by omega⟩
    have := h2.small (by omega) (by omega); omega
  · have h2 : Cg p (b - a) 0 := by obtain ⟨k, h⟩ := h.symm; exact ⟨k, by omega⟩
    have := h2.small (by omega) (by omega); omega
theorem Cg.dvd_iff : Cg p a 0 ↔ p ∣ a := ⟨fun ⟨k, h⟩ => ⟨k, by omega⟩, fun ⟨k, h⟩ => ⟨k, by omega⟩⟩
end
structure Pr (p : Int) : Prop where
  two : 2 ≤ p
  dom : ∀ {a b : Int}, Cg p (a * b) 0 → Cg p a 0 ∨ Cg p b 0
theorem Pr.one {p : Int} (h : Pr p) : ¬ Cg p 1 0 := fun hc => by have := hc.small (by omega) (by have := h.two; omega); omega
def noDiv (n : Nat) : Prop := ∀ d, 2 ≤ d → d * d ≤ n → n % d ≠ 0
theorem prime_coprime {n : Nat} (h2 : 2 ≤ n) (h : noDiv n) {a : Nat} (ha : ¬ n ∣ a) : Nat.Coprime n a := by
  -- the gcd divides n; were it neither 1 nor n, it or its cofactor were a divisor up to the root
  have hg := Nat.gcd_dvd_left n a
  have hg2 := Nat.gcd_dvd_right n a
  show Nat.gcd n a = 1
  generalize Nat.gcd n a = g at hg hg2
  obtain ⟨k, hk⟩ := hg
  have hg0 : g ≠ 0 := by rintro rfl; simp at hk; omega
  have hk0 : k ≠ 0 := by rintro rfl; simp at hk; omega
  have hgn : g ≠ n := by rintro rfl; exact ha hg2
  have hk1 : k ≠ 1 := by rintro rfl; rw [Nat.mul_one] at hk; exact hgn hk.symm
  apply Classical.byContradiction
  intro hg1
  rcases Nat.le_total g k with hle | hle
  · have h3 : g * g ≤ n := by rw [hk]; exact Nat.mul_le_mul_left g hle
    exact h g (by omega) h3 (by rw [hk]; exact Nat.mul_mod_right g k)
  · have h3 : k * k ≤ n := by rw [hk]; exact Nat.mul_le_mul_right k hle
    exact h k (by omega) h3 (by rw [hk]; exact Nat.mul_mod_left g k)
theorem Pr.of {n : Nat} (h2 : 2 ≤ n) (h : noDiv n) : Pr (n : Int) := ⟨by omega, fun {a b} hc => by
  rw [Cg.dvd_iff] at hc
  rw [Cg.dvd_iff, Cg.dvd_iff]
  by_cases ha : (n : Int) ∣ a
  · exact .inl ha
  · refine .inr ?_
    have ha' : ¬ n ∣ a.natAbs := fun hd => ha (by exact Int.ofNat_dvd_left.2 hd)
    have hcop := prime_coprime h2 h ha'
    rw [Int.ofNat_dvd_left, Int.natAbs_mul] at hc
    rw [Int.ofNat_dvd_left]
    exact hcop.dvd_of_dvd_mul_left hc⟩
def gd (l : List Int) (i : Nat) : Int := l.getD i 0
theorem gd_ge {l : List Int} {i : Nat} (h : l.length ≤ i) : gd l i = 0 := by simp [gd, List.getD_eq_getElem?_getD, List.getElem?_eq_none h]
theorem gd_mem {l : List Int} {i : Nat} (h : i < l.length) : gd l i ∈ l := by
  simp only [gd, List.getD_eq_getElem?_getD, List.getElem?_eq_getElem h, Option.getD_some]; exact List.getElem_mem h
def Z0 (p : Int) (l : List Int) : Prop := ∀ i, Cg p (gd l i) 0
theorem Z0.cons {p c : Int} {l : List Int} : Z0 p (c :: l) ↔ Cg p c 0 ∧ Z0 p l :=
  ⟨fun h => ⟨h 0, fun i => h (i + 1)⟩, fun h i => by cases i with | zero => exact h.1 | succ i => exact h.2 i⟩
theorem Z0.nil {p : Int} : Z0 p [] := fun i => Cg.refl p 0
end Go.Proofs.YtfcicopgdahmcaaGreatDoor.Alg
end

section
namespace Go.Proofs.YtfcicopgdahmcaaGreatDoor.Alg
set_option linter.unusedVariables false
def sm : Nat → (Nat → Int) → Int
  | 0, _ => 0
  | n + 1, f => sm n f + f n
theorem sm_congr {p : Int} : ∀ {n : Nat} {f g : Nat → Int}, (∀ i, i < n → Cg p (f i) (g i)) → Cg p (sm n f) (sm n g)
  | 0, _, _, _ => Cg.refl _ _
  | n + 1, f, g, h => (sm_congr fun i hi => h i (by omega)).add (h n (by omega))
theorem sm_eq : ∀ {n : Nat} {f g : Nat → Int}, (∀ i, i < n → f i = g i) → sm n f = sm n g
  | 0, _, _, _ => rfl
  | n + 1, f, g, h => by simp only [sm]; rw [sm_eq fun i hi => h i (by omega), h n (by omega)]
theorem sm_add (f g : Nat → Int) : ∀ n, sm n (fun i => f i + g i) = sm n f + sm n g
  | 0 => rfl
  | n + 1 => by simp only [sm]; rw [sm_add f g n]; omega
theorem sm_mul (c : Int) (f : Nat → Int) : ∀ n, sm n (fun i => c * f i) = c * sm n f
  | 0 => by simp [sm]
  | n + 1 => by simp only [sm]; rw [sm_mul c f n, Int.mul_add]
theorem sm_zero : ∀ n, sm n (fun _ => 0) = 0
  | 0 => rfl
  | n + 1 => by simp only [sm]; rw [sm_zero n]; rfl
theorem sm_split (f : Nat → Int) (a : Nat) : ∀ b, sm (a + b) f = sm a f + sm b (fun j => f (a + j))
  | 0 => by simp [sm]
  | b + 1 => by rw [← Nat.add_assoc]; simp only [sm]; rw [sm_split f a b]; omega
theorem sm_one {p : Int} {f : Nat → Int} {q : Nat} : ∀ {n : Nat}, (∀ i, i < n → i ≠ q → Cg p (f i) 0) → q < n → Cg p (sm n f) (f q)
  | 0, _, h => by omega
  | n + 1, hf, h => by
    rcases Nat.lt_or_ge q n with hq | hq
    · have := (sm_one (fun i hi hne => hf i (by omega) hne) hq).add (hf n (by omega) (by omega))
      simpa [sm] using this
    · have hq' : q = n := by omega
      subst hq'
      have := (sm_congr (n := q) (g := fun _ => 0) fun i hi => hf i (by omega) (by omega)).add (Cg.refl p (f q))
      rw [sm_zero] at this
      simpa [sm] using this
theorem sm_none {p : Int} {f : Nat → Int} {n : Nat} (h : ∀ i, i < n → Cg p (f i) 0) : Cg p (sm n f) 0 := by
  have := sm_congr (g := fun _ => 0) h
  rwa [sm_zero] at this
def SolM (p : Int) (n m : Nat) (M : Nat → Nat → Int) (z : Nat → Int) : Prop := ∀ i, i < n → Cg p (sm m (fun j => M i j * z j)) 0
structure GI (p : Int) (n m : Nat) (M0 M : Nat → Nat → Int) (k r : Nat) (L : Nat → Nat) : Prop where
  rn : r ≤ n
  sol : ∀ z, SolM p n m M z ↔ SolM p n m M0 z
  low : ∀ i, r ≤ i → i < n → ∀ j, j < k → Cg p (M i j) 0
  led : ∀ j, j < k → L j ≠ 0 → L j ≤ r ∧ ∀ i, i < n → Cg p (M i j) (if i + 1 = L j then 1 else 0)
  inj : ∀ j j', j < k → j' < k → L j ≠ 0 → L j = L j' → j = j'
  sur : ∀ i, i < r → ∃ j, j < k ∧ L j = i + 1
section
variable {p : Int} {n m k r : Nat} {M0 M M' : Nat → Nat → Int} {L L' : Nat → Nat}
theorem GI.skip (h : GI p n m M0 M k r L) (h0 : ∀ i, r ≤ i → i < n → Cg p (M i k) 0) (hL : ∀ j, j < k → L' j = L j) (hk : L' k = 0) : GI p n m M0 M (k + 1) r L' := by
  have cs : ∀ j, j < k + 1 → j = k ∨ j < k := fun j hj => by omega
  refine ⟨h.rn, h.sol, fun i hi hn j hj => ?_, fun j hj hne => ?_, fun j j' hj hj' hne he => ?_, fun i hi => ?_⟩
  · rcases cs j hj with rfl | hj
    · exact h0 i hi hn
    · exact h.low i hi hn j hj
  · rcases cs j hj with rfl | hj
    · exact absurd hk hne
    · rw [hL j hj] at hne ⊢; exact h.led j hj hne
  · rcases cs j hj with rfl | hj
    · exact absurd hk hne
    · rcases cs j' hj' with rfl | hj'
      · rw [hk] at he; exact absurd he hne
      · rw [hL j hj] at hne he; rw [hL j' hj'] at he; exact h.inj j j' hj hj' hne he
  · obtain ⟨j, hj, he⟩ := h.sur i hi
    exact ⟨j, by omega, by rw [hL j hj]; exact he⟩
theorem GI.right {c : Nat} (h : GI p n (c + 1) M0 M c r L) {x : Nat → Int} (hx : SolM p n (c + 1) M0 x) (h1 : x c = -1) : ∀ i, r ≤ i → i < n → Cg p (M i c) 0 := fun i hi hn => by
  have := (h.sol x).2 hx i hn
  simp only [sm] at this
  have h0 : Cg p (sm c (fun j => M i j * x j)) 0 := sm_none fun j hj => by
    have := (h.low i hi hn j hj).mul (Cg.refl p (x j))
    rwa [Int.zero_mul] at this
  rw [h1] at this
  have h2 := (h0.sub this)
  exact (Cg.of (by omega)).trans h2
end
end Go.Proofs.YtfcicopgdahmcaaGreatDoor.Alg
end

section
namespace Go.Proofs.YtfcicopgdahmcaaGreatDoor
open Alg (Cg Pr)
def Fd (p : Int) : Prop := p = 2 ∨ p = 3 ∨ p = 5 ∨ p = 7 ∨ p = 11 ∨ p = 13 ∨ p = 17 ∨ p = 257 ∨ p = 65521
theorem Fd.rng {p : Int} (h : Fd p) : 2 ≤ p ∧ p ≤ 65521 := by unfold Fd at h; omega
theorem of_eq {p : Int} (h : Fd p) : residue_Of p = some (p, true) := by
  rcases h with rfl | rfl | rfl | rfl | rfl | rfl | rfl | rfl | rfl <;> kernel_rfl
def E1 (p a : Int) : Prop := 0 ≤ a ∧ a < p
instance (p a : Int) : Decidable (E1 p a) := inferInstanceAs (Decidable (0 ≤ a ∧ a < p))
def El (p : Int) (l : List Int) : Prop := ∀ x ∈ l, E1 p x
instance (p : Int) (l : List Int) : Decidable (El p l) := inferInstanceAs (Decidable (∀ x ∈ l, E1 p x))
theorem El.nil {p : Int} : El p [] := fun x h => by cases h
theorem El.cons {p a : Int} {l : List Int} : El p (a :: l) ↔ E1 p a ∧ El p l := by unfold El; simp
theorem El.app {p : Int} {l m : List Int} (h : El p l) (h2 : El p m) : El p (l ++ m) := fun x hx => (List.mem_append.1 hx).elim (h x) (h2 x)
theorem E1.emod {p : Int} (hp : 2 ≤ p) (a : Int) : E1 p (a % p) := ⟨Int.emod_nonneg _ (by omega), Int.emod_lt_of_pos _ (by omega)⟩
theorem El.gd {p : Int} (hp : 2 ≤ p) {l : List Int} (h : El p l) (i : Nat) : E1 p (Alg.gd l i) := by
  rcases Nat.lt_or_ge i l.length with hi | hi
  · exact h _ (Alg.gd_mem hi)
  · rw [Alg.gd_ge hi]; exact ⟨by omega, by omega⟩
section
variable {p : Int} (hp : 2 ≤ p ∧ p ≤ 65521)
include hp
theorem nzp : nz p = some () := by unfold nz; rw [if_neg (by omega)]
theorem prod_lt {a b : Int} (ha : E1 p a) (hb : E1 p b) : 0 ≤ a * b ∧ a * b ≤ 4293001441 := by
  refine ⟨Int.mul_nonneg ha.1 hb.1, ?_⟩
  have h1 : a * b ≤ 65521 * b := Int.mul_le_mul_of_nonneg_right (by have := ha.2; omega) hb.1
  have := hb.2
  omega
theorem mul_eq {a b : Int} (ha : E1 p a) (hb : E1 p b) : residue_Field_Mul p a b = some (a * b % p) := by
  unfold residue_Field_Mul
  obtain ⟨h1, h2⟩ := prod_lt hp ha hb
  rw [nzp hp, Option.bind_some, w64_id (by omega) (by omega), Int.tmod_eq_emod_of_nonneg h1]
theorem add_eq {a b : Int} (ha : E1 p a) (hb : E1 p b) : residue_Field_Add p a b = some ((a + b) % p) := by
  unfold residue_Field_Add
  obtain ⟨a1, a2⟩ := ha; obtain ⟨b1, b2⟩ := hb
  rw [nzp hp, Option.bind_some, w64_id (by omega) (by omega), Int.tmod_eq_emod_of_nonneg (by omega)]
end
theorem find_L (f : Int → Option Bool) (P : Int → Prop) [DecidablePred P] (hf : ∀ x, f x = some (decide (P x))) : ∀ (l : List Int) (i : Nat), ∃ r : Int, slices_IndexFunc_Lintint_L1 f l i = some r ∧ (0 ≤ r ↔ ∃ x ∈ l, P x)
  | [], i => ⟨-1, rfl, by simp⟩
  | x :: l, i => by
    rw [slices_IndexFunc_Lintint_L1]
    unfold slices_IndexFunc_Lintint_B1
    rw [hf, Option.bind_some]
    by_cases h : P x
    · rw [if_pos (decide_eq_true h)]
      exact ⟨_, rfl, fun _ => ⟨x, List.mem_cons_self, h⟩, fun _ => by omega⟩
    · rw [if_neg (by simpa using h)]
      obtain ⟨r, h1, h2⟩ := find_L f P hf l (i + 1)
      refine ⟨r, h1, h2.trans ⟨fun ⟨y, hy, hP⟩ => ⟨y, List.mem_cons_of_mem _ hy, hP⟩, fun ⟨y, hy, hP⟩ => ?_⟩⟩
      rcases List.mem_cons.1 hy with rfl | hy
      · exact absurd hP h
      · exact ⟨y, hy, hP⟩
theorem all_eq (p : Int) (l : List Int) : residue_Field_All p l = some (decide (El p l)) := by
  unfold residue_Field_All slices_ContainsFunc_Lintint slices_IndexFunc_Lintint
  obtain ⟨r, h1, h2⟩ := find_L (fun y0 => residue_Field_All_f1 y0 p) (fun x => ¬ E1 p x) (fun x => by
    unfold residue_Field_All_f1 residue_Field_Has
    simp only [Option.bind_some]
    congr 1
    by_cases h : E1 p x
    · have h' : 0 ≤ x ∧ x < p := h
      simp [h, h']
    · have h' : ¬ (0 ≤ x ∧ x < p) := h
      simp only [h', h, decide_false, Bool.not_false, not_false_eq_true, decide_true]) l 0
  rw [h1]
  simp only [Option.bind_some]
  congr 1
  by_cases h : El p l
  · have : ¬ 0 ≤ r := fun h0 => by obtain ⟨x, hx, hn⟩ := h2.1 h0; exact hn (h x hx)
    simp [h, this]
  · have : 0 ≤ r := h2.2 (by
      unfold El at h
      simp only [Classical.not_forall] at h
      obtain ⟨x, hx, hn⟩ := h; exact ⟨x, hx, hn⟩)
    simp [h, this]
def at_ (p x : Int) (t l : List Int) : List Int := List.zipWith (fun a b => (a + x * b % p) % p) t l
theorem at_len {p x : Int} {t l : List Int} (h : t.length = l.length) : (at_ p x t l).length = t.length := by simp [at_, h]
theorem at_el {p x : Int} (hp : 2 ≤ p) (t l : List Int) : El p (at_ p x t l) := fun y hy => by
  unfold at_ at hy
  obtain ⟨i, hi, rfl⟩ := List.getElem_of_mem hy
  rw [List.getElem_zipWith]
  exact E1.emod hp _
theorem at_gd {p x : Int} {t l : List Int} (h : t.length = l.length) (i : Nat) : Cg p (Alg.gd (at_ p x t l) i) (Alg.gd t i + x * Alg.gd l i) := by
  rcases Nat.lt_or_ge i t.length with hi | hi
  · have hi2 : i < l.length := by omega
    have e : Alg.gd (at_ p x t l) i = (t[i] + x * l[i] % p) % p := by
      simp [Alg.gd, at_, List.getD_eq_getElem?_getD, List.getElem?_zipWith, hi, hi2]
    rw [e, show Alg.gd t i = t[i] by simp [Alg.gd, List.getD_eq_getElem?_getD, hi], show Alg.gd l i = l[i] by simp [Alg.gd, List.getD_eq_getElem?_getD, hi2]]
    exact (Cg.emod p _).trans ((Cg.refl p _).add (Cg.emod p _))
  · rw [Alg.gd_ge (l := at_ p x t l) (by rw [at_len h]; exact hi), Alg.gd_ge hi, Alg.gd_ge (by omega : l.length ≤ i)]
    exact Cg.of (by simp)
theorem at_L {p x : Int} (hp : 2 ≤ p ∧ p ≤ 65521) (hx : E1 p x) {l : List Int} (hl : El p l) {t : List Int} (ht : El p t) (h : t.length = l.length) : ∀ (xs : List Int) (i : Nat), l.drop i = xs →
    residue_Field_AddTimes_L1 p x xs i ((at_ p x t l).take i ++ t.drop i) = some (at_ p x t l)
  | [], i, hd => by
    have hi : l.length ≤ i := by have := congrArg List.length hd; simp at this; omega
    rw [residue_Field_AddTimes_L1, List.take_of_length_le (by rw [at_len h]; omega), List.drop_of_length_le (by omega), List.append_nil]
  | y :: xs, i, hd => by
    have hi : i < l.length := by
      rcases Nat.lt_or_ge i l.length with h2 | h2
      · exact h2
      · rw [List.drop_of_length_le h2] at hd; cases hd
    have hy : y = l[i] := by
      have := List.drop_eq_getElem_cons hi
      rw [hd] at this; exact (List.cons.inj this).1
    have hit : i < t.length := by omega
    have hA : (at_ p x t l).length = t.length := at_len h
    have el : ((at_ p x t l).take i ++ t.drop i).length = t.length := by simp [hA]; omega
    have eg : ((at_ p x t l).take i ++ t.drop i).getD i 0 = t[i] := by
      rw [List.getD_eq_getElem?_getD, List.getElem?_append_right (by rw [List.length_take]; omega), List.length_take, hA, Nat.min_eq_left (by omega), Nat.sub_self, List.getElem?_drop]
      simp [hit]
    rw [residue_Field_AddTimes_L1]
    unfold residue_Field_AddTimes_B1
    rw [lidx_nat 0 (by rw [el]; exact hit), eg]
    simp only [Option.bind_some]
    rw [hy, mul_eq hp hx (hl _ (List.getElem_mem hi))]
    simp only [Option.bind_some]
    rw [add_eq hp (ht _ (List.getElem_mem hit)) (E1.emod hp.1 _)]
    simp only [Option.bind_some]
    rw [lupd_ok (by omega) (by rw [el]; omega)]
    simp only [Option.bind_some, Int.toNat_natCast]
    have es : ((at_ p x t l).take i ++ t.drop i).set i ((t[i] + x * l[i] % p) % p) = (at_ p x t l).take (i + 1) ++ t.drop (i + 1) := by
      rw [List.set_append_right _ _ (by simp; omega), List.length_take, hA, Nat.min_eq_left (by omega), Nat.sub_self, List.drop_eq_getElem_cons hit, List.set_cons_zero, List.take_succ_eq_append_getElem (by rw [hA]; exact hit), List.append_assoc]
      simp [at_]
    rw [es]
    exact at_L hp hx hl ht h xs (i + 1) (by rw [← List.drop_drop, hd]; rfl)
theorem at_eq {p x : Int} (hp : 2 ≤ p ∧ p ≤ 65521) (hx : E1 p x) {l : List Int} (hl : El p l) {t : List Int} (ht : El p t) (h : t.length = l.length) : residue_Field_AddTimes p t x l = some (at_ p x t l) := by
  have := at_L hp hx hl ht h l 0 rfl
  unfold residue_Field_AddTimes
  simpa using this
theorem El.ext {p : Int} (hp : 2 ≤ p) {l m : List Int} (hl : El p l) (hm : El p m) (h : l.length = m.length) (hc : ∀ i, i < l.length → Cg p (Alg.gd l i) (Alg.gd m i)) : l = m := by
  refine List.ext_getElem h fun i h1 h2 => ?_
  have := hc i h1
  rw [show Alg.gd l i = l[i] by simp [Alg.gd, List.getD_eq_getElem?_getD, h1], show Alg.gd m i = m[i] by simp [Alg.gd, List.getD_eq_getElem?_getD, h2]] at this
  have a := hl _ (List.getElem_mem h1); have b := hm _ (List.getElem_mem h2)
  exact this.eq a.1 a.2 b.1 b.2
def Rw (p : Int) (w : Nat) (R : List (List Int)) : Prop := ∀ r ∈ R, r.length = w ∧ El p r
theorem Rw.cons {p : Int} {w : Nat} {r : List Int} {R : List (List Int)} : Rw p w (r :: R) ↔ (r.length = w ∧ El p r) ∧ Rw p w R := by unfold Rw; simp
def gr (R : List (List Int)) (i : Nat) : List Int := R.getD i []
def comb (p : Int) : List Int → List (List Int) → List Int → List Int
  | _, [], t => t
  | c, r :: R, t => comb p c.tail R (at_ p (Alg.gd c 0) t r)
theorem comb_ok {p : Int} (hp : 2 ≤ p) {w : Nat} : ∀ (R : List (List Int)) (c t : List Int), Rw p w R → t.length = w → El p t →
    (comb p c R t).length = w ∧ El p (comb p c R t) ∧ ∀ j, Cg p (Alg.gd (comb p c R t) j) (Alg.gd t j + Alg.sm R.length (fun i => Alg.gd c i * Alg.gd (gr R i) j))
  | [], c, t, _, h2, h3 => ⟨h2, h3, fun j => Cg.of (by simp [comb, Alg.sm])⟩
  | r :: R, c, t, h1, h2, h3 => by
    obtain ⟨⟨a, b⟩, h1⟩ := Rw.cons.1 h1
    obtain ⟨i1, i2, i3⟩ := comb_ok hp (w := w) R c.tail (at_ p (Alg.gd c 0) t r) h1 (by rw [at_len (by omega)]; exact h2) (at_el hp _ _)
    refine ⟨i1, i2, fun j => (i3 j).trans ?_⟩
    have e := Alg.sm_split (fun i => Alg.gd c i * Alg.gd (gr (r :: R) i) j) 1 R.length
    rw [show (r :: R).length = 1 + R.length by simp; omega, e]
    have e2 : Alg.sm 1 (fun i => Alg.gd c i * Alg.gd (gr (r :: R) i) j) = Alg.gd c 0 * Alg.gd r j := by simp [Alg.sm, gr]
    have e3 : (fun i => Alg.gd c (1 + i) * Alg.gd (gr (r :: R) (1 + i)) j) = fun i => Alg.gd c.tail i * Alg.gd (gr R i) j := by
      funext i
      have e4 : Alg.gd c (1 + i) = Alg.gd c.tail i := by cases c <;> simp [Alg.gd, Nat.add_comm]
      rw [e4, Nat.add_comm]; rfl
    rw [e2, e3, ← Int.add_assoc]
    exact (at_gd (by omega) j).add (Cg.refl p _)
theorem combine_L1 {p : Int} (hp : 2 ≤ p ∧ p ≤ 65521) {w : Nat} {c : List Int} (hc : El p c) : ∀ (xs : List (List Int)) (i : Nat) (t : List Int), Rw p w xs → i + xs.length = c.length → t.length = w → El p t →
    vector_Combine_L1 c p xs i t = some (comb p (c.drop i) xs t, 0)
  | [], i, t, _, _, _, _ => rfl
  | r :: xs, i, t, h1, h2, h3, h4 => by
    obtain ⟨⟨a, b⟩, h1⟩ := Rw.cons.1 h1
    simp only [List.length_cons] at h2
    rw [vector_Combine_L1]
    unfold vector_Combine_B1
    rw [lidx_nat 0 (by omega)]
    simp only [Option.bind_some]
    have hci : E1 p (c.getD i 0) := El.gd hp.1 hc i
    rw [at_eq hp hci b h4 (by omega)]
    simp only [Option.bind_some]
    rw [combine_L1 hp hc xs (i + 1) _ h1 (by omega) (by rw [at_len (by omega)]; exact h3) (at_el hp.1 _ _)]
    have e1 : (c.drop i).tail = c.drop (i + 1) := by simp
    have e2 : Alg.gd (c.drop i) 0 = c.getD i 0 := by simp [Alg.gd, List.getD_eq_getElem?_getD]
    rw [comb, e1, e2]
theorem combine_L3 {p : Int} {w : Nat} (kx : Bool → Int → Option (List Int × Int)) (z : Int) : ∀ (xs : List (List Int)) (v : Bool), Rw p w xs → vector_Combine_L3 kx (w : Int) p z xs v = kx v z
  | [], v, _ => rfl
  | r :: xs, v, h => by
    obtain ⟨⟨a, b⟩, h⟩ := Rw.cons.1 h
    rw [vector_Combine_L3]
    unfold vector_Combine_B3
    rw [if_neg (by omega), all_eq]
    simp only [Option.bind_some]
    rw [show (if v = true then some (decide (El p r)) else some false) = some v by cases v <;> simp [b], Option.bind_some]
    exact combine_L3 kx z xs v h
theorem zeros_el {p : Int} (hp : 2 ≤ p) (n : Nat) : El p (List.replicate n 0) := fun x hx => by rw [(List.mem_replicate.1 hx).2]; exact ⟨by omega, by omega⟩
theorem gd_zeros (n i : Nat) : Alg.gd (List.replicate n 0) i = 0 := by
  rcases Nat.lt_or_ge i n with h | h
  · simp [Alg.gd, List.getD_eq_getElem?_getD, h]
  · exact Alg.gd_ge (by simpa using h)
theorem lmk_ok {α : Type} {n : Nat} (x : α) (h : n ≤ 16777216) : lmk (n : Int) x = some (List.replicate n x) := by unfold lmk; rw [if_pos ⟨by omega, by omega⟩]; simp
theorem answer_ok {p : Int} (hf : Fd p) {w : Nat} (hw : w ≤ 64) {R : List (List Int)} (hR : Rw p w R) {c : List Int} (hc : El p c) (hl : c.length = R.length) :
    ∃ a, parity_Answer p (w : Int) R c = some (a, 0) ∧ a.length = w ∧ El p a ∧ ∀ j, Cg p (Alg.gd a j) (Alg.sm R.length (fun i => Alg.gd c i * Alg.gd (gr R i) j)) := by
  have hp := hf.rng
  obtain ⟨h1, h2, h3⟩ := comb_ok hp.1 (w := w) R c (List.replicate w 0) hR (by simp) (zeros_el hp.1 w)
  refine ⟨comb p c R (List.replicate w 0), ?_, h1, h2, fun j => by have := h3 j; rwa [gd_zeros, Int.zero_add] at this⟩
  unfold parity_Answer vector_Combine
  rw [of_eq hf]
  simp only [Option.bind_some]
  rw [if_neg (by simp), if_neg (by omega), if_neg (by omega), all_eq]
  simp only [Option.bind_some]
  rw [combine_L3 _ _ R _ hR]
  unfold vector_Combine_J2
  rw [if_neg (by simp [hc]), lmk_ok _ (by omega)]
  simp only [Option.bind_some]
  rw [combine_L1 hp hc R 0 _ hR (by omega) (by simp) (zeros_el hp.1 w)]
  rfl
end Go.Proofs.YtfcicopgdahmcaaGreatDoor
end

section
namespace Go.Proofs.YtfcicopgdahmcaaGreatDoor
open Alg (Cg Pr)
theorem fmod_big {x n : Int} (hn : 1 ≤ n) (hn2 : n ≤ 4294967296) : make_Mod x n = some (x % n) := by
  unfold make_Mod
  rw [nz_ok (by omega)]
  simp only [Option.bind_some]
  have h1 := Int.lt_tmod_of_pos x (by omega : 0 < n)
  have h2 := Int.tmod_lt_of_pos x (by omega : 0 < n)
  rw [w64_id (by omega) (by omega), Int.tmod_eq_emod_of_nonneg (by omega), Int.add_emod_right]
  congr 1
  have h3 := Int.tmod_add_mul_tdiv x n
  have h4 : x.tmod n = x - n * x.tdiv n := by omega
  rw [h4, Int.sub_mul_emod_self_left]
theorem fnext_big {l : List Int} (hl : l.length ≤ 1000) {d : List Int × Int} (hd : Dk l d) {n : Int} (hn : 1 ≤ n ∧ n ≤ 4294967296) : ∃ v e, make_Deck_Next d n = some (v, e) ∧ 0 ≤ v ∧ v < n ∧ Dk l e := by
  obtain ⟨d1, d2⟩ := d
  obtain ⟨rfl, h1, h2⟩ := hd
  dsimp only at h1 h2 hl
  unfold make_Deck_Next
  split
  · exact ⟨0, (d1, d2), rfl, by omega, by omega, rfl, h1, h2⟩
  · rename_i h
    dsimp only at h ⊢
    rw [lidx_ok 0 (by omega) (by omega)]
    simp only [Option.bind_some]
    rw [fmod_big hn.1 hn.2]
    simp only [Option.bind_some]
    refine ⟨_, _, rfl, Int.emod_nonneg _ (by omega), Int.emod_lt_of_pos _ (by omega), rfl, ?_⟩
    dsimp only
    rw [w64_id (by omega) (by omega)]; omega
theorem field_ok {l : List Int} (hl : l.length ≤ 1000) {d : List Int × Int} (hd : Dk l d) : ∃ p e, make_Field d = some (p, e) ∧ Fd p ∧ Dk l e := by
  obtain ⟨v, e, h1, h2, h3, h4⟩ := next_ok hl hd (n := 9) (by omega)
  unfold make_Field
  rw [h1]
  simp only [Option.bind_some]
  obtain ⟨i, rfl⟩ : ∃ i : Nat, v = i := ⟨v.toNat, by omega⟩
  rw [lidx_nat 0 (by simp; omega)]
  refine ⟨_, e, rfl, ?_, h4⟩
  have : i = 0 ∨ i = 1 ∨ i = 2 ∨ i = 3 ∨ i = 4 ∨ i = 5 ∨ i = 6 ∨ i = 7 ∨ i = 8 := by omega
  rcases this with rfl | rfl | rfl | rfl | rfl | rfl | rfl | rfl | rfl <;> simp [Fd]
theorem elements_L {l : List Int} (hl : l.length ≤ 1000) {p : Int} (hp : 2 ≤ p ∧ p ≤ 65521) {n : Nat} (hn : n ≤ 1000) : ∀ (f : Nat) (acc : List Int) (q : Int), acc.length ≤ n → n - acc.length < f → El p acc → Dk l (l, q) →
    ∃ v e, make_Elements_L1 (n : Int) p f acc (acc.length : Int) l q = some (v, e) ∧ v.length = n ∧ El p v ∧ Dk l e
  | 0, acc, q, _, h, _, _ => by omega
  | f + 1, acc, q, h1, h2, h3, h4 => by
    rw [make_Elements_L1]
    unfold make_Elements_B1
    by_cases h : acc.length < n
    · rw [if_pos (by omega)]
      obtain ⟨v, e, e1, a, b, c⟩ := next_ok hl h4 (n := p) (by omega)
      rw [e1]
      simp only [Option.bind_some]
      rw [lapp_ok (by simp; omega)]
      simp only [Option.bind_some]
      rw [w64_id (by omega) (by omega), show (acc.length : Int) + 1 = ((acc ++ [v]).length : Int) by simp]
      obtain ⟨e1, e2⟩ := e
      obtain ⟨rfl, c2⟩ := c
      exact elements_L hl hp hn f (acc ++ [v]) e2 (by simp; omega) (by simp; omega) (h3.app (El.cons.2 ⟨⟨a, b⟩, El.nil⟩)) ⟨rfl, c2⟩
    · rw [if_neg (by omega)]
      exact ⟨acc, _, rfl, by omega, h3, h4⟩
theorem elements_ok {l : List Int} (hl : l.length ≤ 1000) {d : List Int × Int} (hd : Dk l d) {p : Int} (hp : 2 ≤ p ∧ p ≤ 65521) {n : Nat} (hn : n ≤ 1000) : ∃ v e, make_Elements d p (n : Int) = some (v, e) ∧ v.length = n ∧ El p v ∧ Dk l e := by
  obtain ⟨d1, d2⟩ := d
  obtain ⟨rfl, h⟩ := hd
  exact elements_L hl hp hn big [] d2 (by simp) (by simp [big]; omega) El.nil ⟨rfl, h⟩
theorem rows_L {l : List Int} (hl : l.length ≤ 1000) {p : Int} (hp : 2 ≤ p ∧ p ≤ 65521) {n w : Nat} (hn : n ≤ 1000) (hw : w ≤ 1000) : ∀ (f : Nat) (acc : List (List Int)) (q : Int), acc.length ≤ n → n - acc.length < f → Rw p w acc → Dk l (l, q) →
    ∃ R e, make_Rows_L1 (w : Int) (n : Int) p f acc (acc.length : Int) l q = some (R, e) ∧ R.length = n ∧ Rw p w R ∧ Dk l e
  | 0, acc, q, _, h, _, _ => by omega
  | f + 1, acc, q, h1, h2, h3, h4 => by
    rw [make_Rows_L1]
    unfold make_Rows_B1
    by_cases h : acc.length < n
    · rw [if_pos (by omega)]
      obtain ⟨v, e, e1, a, b, c⟩ := elements_ok hl h4 hp hw
      rw [e1]
      simp only [Option.bind_some]
      rw [lapp_ok (by simp; omega)]
      simp only [Option.bind_some]
      rw [w64_id (by omega) (by omega), show (acc.length : Int) + 1 = ((acc ++ [v]).length : Int) by simp]
      obtain ⟨e1, e2⟩ := e
      obtain ⟨rfl, c2⟩ := c
      exact rows_L hl hp hn hw f (acc ++ [v]) e2 (by simp; omega) (by simp; omega) (fun r hr => by
        rcases List.mem_append.1 hr with hr | hr
        · exact h3 r hr
        · rw [List.mem_singleton.1 hr]; exact ⟨a, b⟩) ⟨rfl, c2⟩
    · rw [if_neg (by omega)]
      exact ⟨acc, _, rfl, by omega, h3, h4⟩
theorem mrows_ok {l : List Int} (hl : l.length ≤ 1000) {d : List Int × Int} (hd : Dk l d) {p : Int} (hp : 2 ≤ p ∧ p ≤ 65521) {n w : Nat} (hn : n ≤ 1000) (hw : w ≤ 1000) : ∃ R e, make_Rows d p (n : Int) (w : Int) = some (R, e) ∧ R.length = n ∧ Rw p w R ∧ Dk l e := by
  obtain ⟨d1, d2⟩ := d
  obtain ⟨rfl, h⟩ := hd
  exact rows_L hl hp hn hw big [] d2 (by simp) (by simp [big]; omega) (fun r hr => by cases hr) ⟨rfl, h⟩
theorem seed_L4 (kx : Int → Option ((List Int × Int) × Int)) {p : Int} (hp : 2 ≤ p ∧ p ≤ 65521) : ∀ m : Nat, ref02_Seeded_L4 kx (List.replicate m p) = kx 0
  | 0 => rfl
  | m + 1 => by
    rw [List.replicate_succ, ref02_Seeded_L4]
    unfold ref02_Seeded_B4
    rw [if_neg (by omega)]
    exact seed_L4 kx hp m
theorem seed_L2 {p : Int} (hp : 2 ≤ p ∧ p ≤ 65521) (z : Int) : ∀ (m : Nat) (v : Int) (acc : List Int), 0 ≤ v ∧ v ≤ 2147483647 → acc.length + m ≤ 100000 → El p acc →
    ∃ T, ref02_Seeded_L2 ref02_Seeded_J1 z (List.replicate m p) v acc = some ((T, 0), 0) ∧ T.length = acc.length + m ∧ El p T
  | 0, v, acc, _, _, h => ⟨acc, rfl, rfl, h⟩
  | m + 1, v, acc, h1, h2, h3 => by
    rw [List.replicate_succ, ref02_Seeded_L2]
    unfold ref02_Seeded_B2
    rw [nzp hp, Option.bind_some, lapp_ok (by simp; omega), Option.bind_some]
    rw [w64_id (x := v * 48271) (by omega) (by omega), Int.tmod_eq_emod_of_nonneg (by omega : 0 ≤ v * 48271)]
    have h4 := Int.emod_nonneg (v * 48271) (by omega : (2147483647 : Int) ≠ 0)
    have h5 := Int.emod_lt_of_pos (v * 48271) (by omega : (0 : Int) < 2147483647)
    rw [Int.tmod_eq_emod_of_nonneg h4]
    obtain ⟨T, e, a, b⟩ := seed_L2 hp z m (v * 48271 % 2147483647) (acc ++ [v * 48271 % 2147483647 % p]) (by omega) (by simp; omega) (h3.app (El.cons.2 ⟨E1.emod hp.1 _, El.nil⟩))
    exact ⟨T, e, by rw [a]; simp; omega, b⟩
theorem seed_ok {l : List Int} (hl : l.length ≤ 1000) {d : List Int × Int} (hd : Dk l d) {p : Int} (hp : 2 ≤ p ∧ p ≤ 65521) {m : Nat} (hm : m ≤ 16384) : ∃ T e, make_Seed d (List.replicate m p) = some ((T, 0), e) ∧ T.length = m ∧ El p T ∧ Dk l e := by
  obtain ⟨v, e, h1, h2, h3, h4⟩ := fnext_big hl hd (n := 2147483646) (by omega)
  unfold make_Seed
  rw [h1]
  simp only [Option.bind_some]
  rw [w64_id (by omega) (by omega)]
  unfold ref02_Seeded
  rw [if_neg (by omega), if_neg (by simp; omega), seed_L4 _ hp]
  unfold ref02_Seeded_J3
  obtain ⟨T, e1, a, b⟩ := seed_L2 hp 0 m (1 + v) [] (by omega) (by simp; omega) El.nil
  rw [e1]
  exact ⟨T, e, rfl, by simpa using a, b, h4⟩
theorem pcheck_ok {p : Int} (hf : Fd p) {n s : Int} (hn : 1 ≤ n ∧ n ≤ 1024) (hs : 2 ≤ s ∧ s ≤ 10) : parity_check p n s = some 0 := by
  unfold parity_check
  rw [of_eq hf]
  simp only [Option.bind_some]
  rw [if_neg (by simp), if_neg (by omega)]
theorem limits_L {p : Int} {m : Nat} (hm : m ≤ 100000) : ∀ (f c : Nat), c ≤ m → m - c < f → parity_Limits_L1 (m : Int) p f (List.replicate c p) (c : Int) = some (List.replicate m p, 0)
  | 0, c, _, h => by omega
  | f + 1, c, h1, h2 => by
    rw [parity_Limits_L1]
    unfold parity_Limits_B1
    by_cases h : c < m
    · rw [if_pos (by omega), lapp_ok (by simp; omega), Option.bind_some, w64_id (by omega) (by omega), show (c : Int) + 1 = ((c + 1 : Nat) : Int) by omega, show List.replicate c p ++ [p] = List.replicate (c + 1) p by rw [List.replicate_succ']]
      exact limits_L hm f (c + 1) (by omega) (by omega)
    · rw [if_neg (by omega), show c = m by omega]
theorem limits_eq {p : Int} (hf : Fd p) {n s : Nat} (hn : 1 ≤ n ∧ n ≤ 1024) (hs : 2 ≤ s ∧ s ≤ 10) : parity_Limits p (n : Int) (s : Int) = some (List.replicate (n * (s - 1)) p, 0) := by
  unfold parity_Limits
  rw [pcheck_ok hf (by omega) (by omega)]
  simp only [Option.bind_some]
  have h1 : n * (s - 1) ≤ 1024 * 9 := Nat.mul_le_mul hn.2 (by omega)
  rw [if_neg (by simp), w64_id (x := (s : Int) - 1) (by omega) (by omega), show ((s : Int) - 1) = ((s - 1 : Nat) : Int) by omega, show (n : Int) * ((s - 1 : Nat) : Int) = ((n * (s - 1) : Nat) : Int) by simp, w64_id (by omega) (by omega)]
  exact limits_L (by omega) big 0 (by omega) (by simp only [big]; omega)
theorem draw_L {p : Int} {T : List Int} (hT : El p T) {n at0 : Nat} (h : at0 + n ≤ T.length) (hl : T.length ≤ 16384) : ∀ (f c : Nat), c ≤ n → n - c < f →
    tape_drawing_draw_L1 p (n : Int) T f (c : Int) ((at0 + c : Nat) : Int) ((T.drop at0).take c) = some (0, ((at0 + n : Nat) : Int), (T.drop at0).take n)
  | 0, c, _, h2 => by omega
  | f + 1, c, h1, h2 => by
    rw [tape_drawing_draw_L1]
    unfold tape_drawing_draw_B1
    by_cases hc : c < n
    · rw [if_pos (by omega)]
      unfold tape_position_next
      dsimp only
      have hx : E1 p (T.getD (at0 + c) 0) := hT _ (by rw [List.getD_eq_getElem?_getD]; simp [show at0 + c < T.length by omega])
      rw [if_neg (by omega), lidx_nat 0 (by omega)]
      simp only [Option.bind_some]
      rw [if_neg (by have := hx.1; have := hx.2; omega)]
      simp only [Option.bind_some]
      rw [if_neg (by simp), lapp_ok (by simp; omega)]
      simp only [Option.bind_some]
      rw [w64_id (x := (c : Int) + 1) (by omega) (by omega), w64_id (by omega) (by omega), show (c : Int) + 1 = ((c + 1 : Nat) : Int) by omega, show ((at0 + c : Nat) : Int) + 1 = ((at0 + (c + 1) : Nat) : Int) by omega]
      have e : (T.drop at0).take c ++ [T.getD (at0 + c) 0] = (T.drop at0).take (c + 1) := by
        rw [List.take_add_one, List.getElem?_drop, List.getD_eq_getElem?_getD]
        simp [show at0 + c < T.length by omega]
      rw [e]
      exact draw_L hT h hl f (c + 1) (by omega) (by omega)
    · rw [if_neg (by omega), show c = n by omega]
theorem draws_ok {p : Int} (hp : 2 ≤ p ∧ p ≤ 65521) {T : List Int} (hT : El p T) {n at0 : Nat} (h : at0 + n ≤ T.length) (hl : T.length ≤ 16384) : tape_Draws (T, (at0 : Int)) p (n : Int) = some ((T, ((at0 + n : Nat) : Int)), (T.drop at0).take n, 0) := by
  unfold tape_Draws tape_valid tape_limit
  simp only [Option.bind_some]
  rw [if_neg (by simp; omega), if_neg (by simp; omega)]
  unfold tape_drawing_draw
  dsimp only
  have := draw_L hT h hl big 0 (by omega) (by simp only [big]; omega)
  rw [show (((at0 + 0 : Nat)) : Int) = (at0 : Int) by simp, List.take_zero] at this
  rw [show (0 : Int) = ((0 : Nat) : Int) from rfl, this]
  simp only [Option.bind_some]
  rw [if_neg (by simp)]
  unfold slices_Clone_Lintint
  rw [lapp_ok (by simp; omega)]
  rfl
def sumr (p : Int) : List (List Int) → List Int → List Int
  | [], t => t
  | r :: R, t => sumr p R (at_ p 1 t r)
theorem sumr_ok {p : Int} (hp : 2 ≤ p) {w : Nat} : ∀ (R : List (List Int)) (t : List Int), Rw p w R → t.length = w → El p t →
    (sumr p R t).length = w ∧ El p (sumr p R t) ∧ ∀ j, Cg p (Alg.gd (sumr p R t) j) (Alg.gd t j + Alg.sm R.length (fun i => Alg.gd (gr R i) j))
  | [], t, _, h2, h3 => ⟨h2, h3, fun j => Cg.of (by simp [sumr, Alg.sm])⟩
  | r :: R, t, h1, h2, h3 => by
    obtain ⟨⟨a, b⟩, h1⟩ := Rw.cons.1 h1
    obtain ⟨i1, i2, i3⟩ := sumr_ok hp (w := w) R (at_ p 1 t r) h1 (by rw [at_len (by omega)]; exact h2) (at_el hp _ _)
    refine ⟨i1, i2, fun j => (i3 j).trans ?_⟩
    have e := Alg.sm_split (fun i => Alg.gd (gr (r :: R) i) j) 1 R.length
    rw [show (r :: R).length = 1 + R.length by simp; omega, e]
    have e2 : Alg.sm 1 (fun i => Alg.gd (gr (r :: R) i) j) = Alg.gd r j := by simp [Alg.sm, gr]
    have e3 : (fun i => Alg.gd (gr (r :: R) (1 + i)) j) = fun i => Alg.gd (gr R i) j := by
      funext i; rw [Nat.add_comm]; rfl
    rw [e2, e3, ← Int.add_assoc]
    have := (at_gd (p := p) (x := 1) (t := t) (l := r) (by omega) j)
    rw [Int.one_mul] at this
    exact this.add (Cg.refl p _)
theorem each_eq : ∀ L : List (List Int), parity_each L = some L := fun L => by
  have h : ∀ L : List (List Int), parity_each_f1_L1 L = some L := fun L => by
    induction L with
    | nil => rfl
    | cons x xs ih => rw [parity_each_f1_L1]; unfold parity_each_f1_B1; rw [ih]; rfl
  unfold parity_each parity_each_f1
  rw [h]; rfl
theorem sum_L {p : Int} (hp : 2 ≤ p ∧ p ≤ 65521) {w : Nat} : ∀ (R : List (List Int)) (t : List Int), Rw p w R → t.length = w → El p t → parity_sum_L2 parity_sum_J1 p R t = some (sumr p R t)
  | [], t, _, _, _ => rfl
  | r :: R, t, h1, h2, h3 => by
    obtain ⟨⟨a, b⟩, h1⟩ := Rw.cons.1 h1
    rw [parity_sum_L2]
    unfold parity_sum_B2
    rw [at_eq hp ⟨by omega, by omega⟩ b h3 (by omega), Option.bind_some]
    exact sum_L hp R _ h1 (by rw [at_len (by omega)]; exact h2) (at_el hp.1 _ _)
theorem sum_eq {p : Int} (hp : 2 ≤ p ∧ p ≤ 65521) {w : Nat} (hw : w ≤ 100000) {R : List (List Int)} (hR : Rw p w R) : parity_sum p (w : Int) R = some (sumr p R (List.replicate w 0)) := by
  unfold parity_sum
  rw [lmk_ok _ (by omega), Option.bind_some]
  exact sum_L hp R _ hR (by simp) (zeros_el hp.1 w)
theorem unit_eq {p : Int} (hf : Fd p) {n i : Nat} (hn : n ≤ 1024) (hi : i < n) : vector_Unit p (n : Int) (i : Int) = some ((List.replicate n 0).set i 1, 0) := by
  unfold vector_Unit
  rw [of_eq hf]
  simp only [Option.bind_some]
  rw [if_neg (by simp), if_neg (by omega), if_neg (by omega), lmk_ok _ (by omega)]
  simp only [Option.bind_some]
  rw [lidx_nat 0 (by simpa using hi)]
  simp only [Option.bind_some]
  rw [lupd_ok (by omega) (by simp; omega)]
  simp
theorem unit_gd {n i j : Nat} (hi : i < n) : Alg.gd ((List.replicate n (0 : Int)).set i 1) j = if j = i then 1 else 0 := by
  unfold Alg.gd
  rw [List.getD_eq_getElem?_getD, List.getElem?_set]
  by_cases h : i = j
  · subst h; simp [hi]
  · rw [if_neg h, if_neg (Ne.symm h)]
    have := gd_zeros n j
    unfold Alg.gd at this
    rwa [List.getD_eq_getElem?_getD] at this
structure Qs (p : Int) (n s idx : Nat) (qs : List (List Int)) : Prop where
  len : qs.length = s
  rw : Rw p n qs
  sum : ∀ i, Cg p (Alg.sm s (fun k => Alg.gd (gr qs k) i)) (if i = idx then 1 else 0)
theorem pq_L {p : Int} (hp : 2 ≤ p ∧ p ≤ 65521) {T : List Int} (hT : El p T) (hl : T.length ≤ 16384) {n s : Nat} (h : T.length = n * s) (hs : s ≤ 10) (kx : List (List Int) → Int → List Int → Int → Int → Option (List (List Int) × (List Int × Int) × Int)) : ∀ (f c : Nat) (acc : List (List Int)), c ≤ s → s - c < f → acc.length = c → Rw p n acc →
    ∃ L q, parity_Queries_L2 kx (n : Int) (s : Int) p f acc (c : Int) T ((n * c : Nat) : Int) = kx L 0 T q p ∧ L.length = s ∧ Rw p n L
  | 0, c, _, _, h2, _, _ => by omega
  | f + 1, c, acc, h1, h2, h3, h4 => by
    rw [parity_Queries_L2]
    unfold parity_Queries_B2
    by_cases hc : c < s
    · have hb : n * c + n ≤ T.length := by rw [h, ← Nat.mul_succ]; exact Nat.mul_le_mul_left _ hc
      rw [if_pos (by omega), draws_ok hp hT (n := n) (at0 := n * c) hb hl]
      simp only [Option.bind_some]
      rw [if_neg (by simp), lapp_ok (by simp; omega)]
      simp only [Option.bind_some]
      rw [w64_id (by omega) (by omega), show (c : Int) + 1 = ((c + 1 : Nat) : Int) by omega, show n * c + n = n * (c + 1) from rfl]
      exact pq_L hp hT hl h hs kx f (c + 1) _ (by omega) (by omega) (by simp; omega) (fun r hr => by
        rcases List.mem_append.1 hr with hr | hr
        · exact h4 r hr
        · rw [List.mem_singleton.1 hr]
          exact ⟨by simp; omega, fun x hx => hT x (List.mem_of_mem_drop (List.mem_of_mem_take hx))⟩)
    · rw [if_neg (by omega)]
      exact ⟨acc, _, rfl, by omega, h4⟩
theorem queries_ok {p : Int} (hf : Fd p) {n s idx : Nat} (hn : 1 ≤ n ∧ n ≤ 1024) (hs : 2 ≤ s ∧ s ≤ 10) (hi : idx < n) {T : List Int} (hT : El p T) (hl : T.length = n * (s - 1)) :
    ∃ qs t, parity_Queries p (n : Int) (s : Int) (idx : Int) (T, 0) = some (qs, t, 0) ∧ Qs p n s idx qs := by
  have hp := hf.rng
  unfold parity_Queries
  rw [pcheck_ok hf (by omega) (by omega)]
  simp only [Option.bind_some]
  have hl2 : n * (s - 1) ≤ 1024 * 9 := Nat.mul_le_mul hn.2 (by omega)
  rw [if_neg (by simp), if_neg (by omega), w64_id (x := (s : Int) - 1) (by omega) (by omega), show (s : Int) - 1 = ((s - 1 : Nat) : Int) by omega]
  obtain ⟨L, q, e, h1, h2⟩ := pq_L hp hT (by omega) hl (by omega) (parity_Queries_J1 (n : Int) (idx : Int)) big 0 [] (by omega) (by simp only [big]; omega) rfl (fun r hr => by cases hr)
  rw [show ((n * 0 : Nat) : Int) = 0 by simp] at e
  rw [show ((0 : Nat) : Int) = 0 from rfl] at e
  rw [e]
  unfold parity_Queries_J1
  rw [unit_eq hf hn.2 hi]
  simp only [Option.bind_some]
  rw [each_eq]
  simp only [Option.bind_some]
  rw [sum_eq hp (by omega) h2]
  simp only [Option.bind_some]
  obtain ⟨s1, s2, s3⟩ := sumr_ok hp.1 L (List.replicate n 0) h2 (by simp) (zeros_el hp.1 n)
  have hu : El p ((List.replicate n 0).set idx 1) := fun x hx => by
    rcases List.mem_or_eq_of_mem_set hx with hx | rfl
    · exact zeros_el hp.1 n x hx
    · exact ⟨by omega, by omega⟩
  rw [w64_id (x := p - 1) (by omega) (by omega), at_eq hp ⟨by omega, by omega⟩ s2 hu (by simp [s1])]
  simp only [Option.bind_some]
  rw [lapp_ok (by simp; omega)]
  refine ⟨_, _, rfl, by simp; omega, fun r hr => ?_, fun i => ?_⟩
  · rcases List.mem_append.1 hr with hr | hr
    · exact h2 r hr
    · rw [List.mem_singleton.1 hr]
      exact ⟨by rw [at_len (by simp [s1])]; simp, at_el hp.1 _ _⟩
  · have e1 := Alg.sm_split (fun k => Alg.gd (gr (L ++ [at_ p (p - 1) ((List.replicate n 0).set idx 1) (sumr p L (List.replicate n 0))]) k) i) (s - 1) 1
    rw [show s - 1 + 1 = s by omega] at e1
    rw [e1]
    have e2 : Alg.sm (s - 1) (fun k => Alg.gd (gr (L ++ [at_ p (p - 1) ((List.replicate n 0).set idx 1) (sumr p L (List.replicate n 0))]) k) i) = Alg.sm L.length (fun k => Alg.gd (gr L k) i) := by
      rw [h1]
      refine Alg.sm_eq fun k hk => ?_
      unfold gr
      rw [List.getD_eq_getElem?_getD, List.getD_eq_getElem?_getD, List.getElem?_append_left (by omega)]
    have e3 : Alg.sm 1 (fun j => Alg.gd (gr (L ++ [at_ p (p - 1) ((List.replicate n 0).set idx 1) (sumr p L (List.replicate n 0))]) (s - 1 + j)) i) = Alg.gd (at_ p (p - 1) ((List.replicate n 0).set idx 1) (sumr p L (List.replicate n 0))) i := by
      simp only [Alg.sm, gr, Nat.add_zero, Int.zero_add]
      rw [List.getD_eq_getElem?_getD, List.getElem?_append_right (by omega), h1, Nat.sub_self]; rfl
    rw [e2, e3]
    have e4 := at_gd (p := p) (x := p - 1) (t := (List.replicate n 0).set idx 1) (l := sumr p L (List.replicate n 0)) (by simp [s1]) i
    have e5 := s3 i
    rw [gd_zeros, Int.zero_add] at e5
    rw [unit_gd hi] at e4
    have e6 := (e5.symm.add e4)
    refine e6.trans ?_
    generalize Alg.gd (sumr p L (List.replicate n 0)) i = S
    exact ⟨S, by rw [Int.sub_mul]; omega⟩
theorem sm_swap (f : Nat → Nat → Int) (b : Nat) : ∀ a, Alg.sm a (fun k => Alg.sm b (fun i => f k i)) = Alg.sm b (fun i => Alg.sm a (fun k => f k i))
  | 0 => by simp [Alg.sm, Alg.sm_zero]
  | a + 1 => by
    have := sm_swap f b a
    simp only [Alg.sm]
    rw [this, Alg.sm_add]
theorem sm_mul_right (c : Int) (f : Nat → Int) (n : Nat) : Alg.sm n (fun i => f i * c) = Alg.sm n f * c := by
  rw [Int.mul_comm, ← Alg.sm_mul]
  exact Alg.sm_eq fun i _ => Int.mul_comm _ _
structure Ans (p : Int) (w : Nat) (R qs As : List (List Int)) : Prop where
  len : As.length = qs.length
  rw : Rw p w As
  ans : ∀ k, k < qs.length → parity_Answer p (w : Int) R (gr qs k) = some (gr As k, 0)
  sum : ∀ k, k < qs.length → ∀ j, Cg p (Alg.gd (gr As k) j) (Alg.sm R.length (fun i => Alg.gd (gr qs k) i * Alg.gd (gr R i) j))
theorem ans_ok {p : Int} (hf : Fd p) {w : Nat} (hw : w ≤ 64) {R : List (List Int)} (hR : Rw p w R) : ∀ {qs : List (List Int)}, Rw p R.length qs → ∃ As, Ans p w R qs As
  | [], _ => ⟨[], { len := rfl, rw := (fun r hr => by cases hr), ans := fun k hk => absurd hk (by simp), sum := fun k hk => absurd hk (by simp) }⟩
  | q :: qs, h => by
    obtain ⟨⟨a, b⟩, h⟩ := Rw.cons.1 h
    obtain ⟨As, hA⟩ := ans_ok hf hw hR h
    obtain ⟨x, x1, x2, x3, x4⟩ := answer_ok hf hw hR b a
    refine ⟨x :: As, { len := by simp [hA.len], rw := Rw.cons.2 ⟨⟨x2, x3⟩, hA.rw⟩, ans := fun k hk => ?_, sum := fun k hk j => ?_ }⟩
    · cases k with
      | zero => exact x1
      | succ k => exact hA.ans k (by simpa using hk)
    · cases k with
      | zero => exact x4 j
      | succ k => exact hA.sum k (by simpa using hk) j
theorem pdec_L {p : Int} {w : Nat} (kx : List (List Int) → Int → Option ((List Int × List Int) × Int)) (z : Int) : ∀ (As acc : List (List Int)), Rw p w As → acc.length + As.length ≤ 1000 →
    parity_Decode_L2 kx (w : Int) p z (As.map fun a => (true, a)) acc = kx (acc ++ As) z
  | [], acc, _, _ => by simp [parity_Decode_L2]
  | a :: As, acc, h, h2 => by
    obtain ⟨⟨b, c⟩, h⟩ := Rw.cons.1 h
    simp only [List.length_cons] at h2
    rw [List.map_cons, parity_Decode_L2]
    unfold parity_Decode_B2
    rw [if_neg (by simp), if_neg (by simp; omega), all_eq]
    simp only [Option.bind_some]
    rw [if_neg (by simp [c]), lapp_ok (by simp; omega), Option.bind_some, pdec_L kx z As _ h (by simp; omega)]
    simp
theorem pdec_ok {p : Int} (hf : Fd p) {w : Nat} (hw : w ≤ 64) {R qs As : List (List Int)} (hR : Rw p w R) {s idx : Nat} (hs : 2 ≤ s ∧ s ≤ 10) (hi : idx < R.length) (hq : Qs p R.length s idx qs) (hA : Ans p w R qs As) :
    parity_Decode p (w : Int) (As.map fun a => (true, a)) = some ((gr R idx, []), 0) := by
  have hp := hf.rng
  unfold parity_Decode
  rw [of_eq hf]
  simp only [Option.bind_some]
  have hl : As.length = s := hA.len.trans hq.len
  rw [if_neg (by simp), if_neg (by simp; omega), pdec_L _ _ As [] hA.rw (by simp; omega)]
  unfold parity_Decode_J1
  rw [each_eq]
  simp only [Option.bind_some, List.nil_append]
  rw [sum_eq hp (by omega) hA.rw]
  simp only [Option.bind_some]
  obtain ⟨s1, s2, s3⟩ := sumr_ok hp.1 As (List.replicate w 0) hA.rw (by simp) (zeros_el hp.1 w)
  have hr : gr R idx ∈ R := by
    have : gr R idx = R[idx] := by simp [gr, List.getD_eq_getElem?_getD, hi]
    rw [this]; exact List.getElem_mem hi
  obtain ⟨r1, r2⟩ := hR _ hr
  have e : sumr p As (List.replicate w 0) = gr R idx := El.ext hp.1 s2 r2 (by omega) fun j _ => by
    have h1 := s3 j
    rw [gd_zeros, Int.zero_add] at h1
    refine h1.trans ?_
    have h2 : Cg p (Alg.sm As.length (fun i => Alg.gd (gr As i) j)) (Alg.sm As.length (fun k => Alg.sm R.length (fun i => Alg.gd (gr qs k) i * Alg.gd (gr R i) j))) :=
      Alg.sm_congr fun k hk => hA.sum k (by rw [← hA.len]; exact hk) j
    refine h2.trans ?_
    rw [sm_swap (fun k i => Alg.gd (gr qs k) i * Alg.gd (gr R i) j)]
    have h3 : Cg p (Alg.sm R.length (fun i => Alg.sm As.length (fun k => Alg.gd (gr qs k) i * Alg.gd (gr R i) j))) (Alg.sm R.length (fun i => (if i = idx then 1 else 0) * Alg.gd (gr R i) j)) :=
      Alg.sm_congr fun i _ => by
        rw [sm_mul_right (Alg.gd (gr R i) j) (fun k => Alg.gd (gr qs k) i), hl]
        exact (hq.sum i).mul (Cg.refl p _)
    refine h3.trans ?_
    have h4 := Alg.sm_one (p := p) (f := fun i => (if i = idx then 1 else 0) * Alg.gd (gr R i) j) (q := idx) (n := R.length) (fun i _ h => Cg.of (by simp [h])) hi
    refine h4.trans (Cg.of (by simp))
  rw [e]
theorem same_L {l : List Int} : ∀ (xs : List Int) (i : Nat), l.drop i = xs → ref04_Same_L1 l xs i = some true
  | [], _, _ => rfl
  | x :: xs, i, h => by
    have hi : i < l.length := by
      rcases Nat.lt_or_ge i l.length with h2 | h2
      · exact h2
      · rw [List.drop_of_length_le h2] at h; cases h
    have hx : x = l.getD i 0 := by
      have := List.drop_eq_getElem_cons hi
      rw [h] at this
      rw [(List.cons.inj this).1]; simp [List.getD_eq_getElem?_getD, hi]
    rw [ref04_Same_L1]
    unfold ref04_Same_B1
    rw [lidx_nat 0 hi, Option.bind_some, if_neg (fun h2 => h2 hx)]
    exact same_L xs (i + 1) (by rw [← List.drop_drop, h]; rfl)
theorem same_refl (l : List Int) : ref04_Same l l = some true := by
  unfold ref04_Same
  rw [if_neg (by simp)]
  exact same_L l 0 rfl
end Go.Proofs.YtfcicopgdahmcaaGreatDoor
end
