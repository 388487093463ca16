/- What the proof needs, gathered by wip/gen/shake.py. -/
import Derived.Calls
import Derived.Deep.Quiet
import Derived.Below
import Derived.Laws.AppendOwn
import Derived.WalkKit
import Derived.Laws.OwnMore
import Derived.Deep.Slices
import Derived.ChangeOld
import Derived.ArgAppend
import Derived.RangeFuncIn
import Derived.RangeFuncRecord
import Derived.RangeFuncLeaves
import Derived.Laws.MakeOwn
import Derived.IntWalk
import Derived.Laws.IdiomStrings
import Derived.Laws.Cover3
import Derived.Laws.CopyOwn
import Derived.MapKept
import Derived.RangeFuncNested
import Derived.Test.YtfcicopgdahmcaaGreatDoorRows
import Derived.LaidEql
import Derived.Stop.Asserts
import Derived.RowKitTokens
import Derived.Test.YtfcicopgdahmcaaGreatDoorCards
import Derived.LaidLaws
import Derived.Look8
import Derived.MakeChecks
import Derived.Test.YtfcicopgdahmcaaGreatDoorTie
import Derived.LaidMore
import Derived.Lay
import Derived.SevenTiedAt
import Derived.Stop.Joined
import Derived.ProofKit
import Derived.OpenShut
import Derived.ShutString
import Derived.Test.YtfcicopgdahmcaaGreatDoorTopBatchQ4

section
set_option maxHeartbeats 4000000
set_option maxRecDepth 100000
namespace Go.Proofs.YtfcicopgdahmcaaGreatDoor
open Go.RowKit
set_option linter.unusedSimpArgs false
set_option linter.unusedVariables false
set_option synthInstance.maxSize 2000
set_option synthInstance.maxHeartbeats 400000
theorem columns_Columns_All_c {Fs : List Hp} {G : Hp} {x0_0 : Int} {x0_1 : Int} {a0_2 : Option Addr} {k0_2 : Nat} {x0_2 : List (Bool × (List Int))} {x1 : Int} {r : ((List (List Int)) × (List Int) × Int)} (hG : G ∈ Fs) (hg0 : Rp G (.pointer (some ⟨0, 0, none⟩)) [ifc233 (some 12)]) (s0_2 : SlR (Rep.pair Rep.bool (Rep.sl ri)) G a0_2 k0_2 x0_2) (h : columns_Columns_All (x0_0, x0_1, x0_2) x1 = some r) : RetW Tryz.prog 85 #[.agg #[.int .i64 x0_0, .int .i64 x0_1, .slice a0_2 x0_2.length k0_2], .int .i64 x1, .func (.func 86) #[] #[]] Fs [] [] (fun v bo so G => ∃ (oa0 : Option Addr) (ok0 : Nat) (oc0 : List Value), ∃ (oa1 : Option Addr) (ok1 : Nat) (oc1 : List Value), v = .tuple #[.slice oa0 r.1.length ok0, .slice oa1 r.2.1.length ok1, .int .i64 r.2.2] ∧ bo = [] ∧ so = [.s (.slice oa0 r.1.length ok0) 22 1 r.1.length oc0, .s (.slice oa1 r.2.1.length ok1) 3 1 r.2.1.length oc1] ∧ OL (Rep.sl ri) G oc0 r.1 ∧ OL ri G oc1 r.2.1) := by
 unfold columns_Columns_All at h
 try dsimp only at h
 refine RetW.of (vs := [_, _, _]) Tryz.func85 rfl Tryz.ntmps85 [(0, _), (1, _), (2, _)] ⟨rfl, rfl, rfl, trivial⟩ rfl hG fun w0 S0 hS0 B0 => ?_
 refine .seq (.region rfl ?_)
 refine .box [_, _, _] .ro rfl rfl rfl (fun b1 hb1 => ?_)
 refine .av rfl rfl (.av rfl rfl (.av rfl rfl (.re (.seq (.region rfl (.av rfl rfl (.re (.seq (.region rfl (.av rfl rfl (.re (.seq (.seq (.region rfl (.mv rfl rfl (.mv rfl rfl (.re ?_)))))))))))))))))
 refine .cutB (β := Hp × List (List Int) × Option Addr × Nat × List Value × List Int × Option Addr × Nat × List Value × Int × Int) (fun y => [(9, .slice y.2.2.1 y.2.1.length y.2.2.2.1), (10, .slice y.2.2.2.2.2.2.1 y.2.2.2.2.2.1.length y.2.2.2.2.2.2.2.1)]) [] (fun y => y.1 :: Fs) (fun y => [(b1, .cells #[.int .i64 y.2.2.2.2.2.2.2.2.2.1, .int .i64 y.2.2.2.2.2.2.2.2.2.2, .slice a0_2 x0_2.length k0_2] 162 (0, 0))]) [] (fun y => [.s (.slice y.2.2.1 y.2.1.length y.2.2.2.1) 22 1 y.2.1.length y.2.2.2.2.1, .s (.slice y.2.2.2.2.2.2.1 y.2.2.2.2.2.1.length y.2.2.2.2.2.2.2.1) 3 1 y.2.2.2.2.2.1.length y.2.2.2.2.2.2.2.2.1]) [] (fun y => HpLe G y.1 ∧ Bd w0 S0 Fs y.1 ∧ OL (Rep.sl ri) y.1 y.2.2.2.2.1 y.2.1 ∧ OL ri y.1 y.2.2.2.2.2.2.2.2.1 y.2.2.2.2.2.1 ∧ columns_Columns_All_J1 y.2.1 y.2.2.2.2.2.1 y.2.2.2.2.2.2.2.2.2.1 y.2.2.2.2.2.2.2.2.2.2 = some r) trivial [] rfl [] rfl ?_ ?_
 ·intro y hI
  obtain ⟨G10, v11, a12, k13, cs14, v15, a16, k17, cs18, v19, v20⟩ := y
  obtain ⟨e21, B23, o24, o25, r26⟩ := hI
  try dsimp only at e21 B23 o24 o25 r26
  refine .prune [(9, .slice a12 v11.length k13), (10, .slice a16 v15.length k17)] ⟨rfl, rfl, trivial⟩ (.same (bl' := [(b1, .cells #[.int .i64 v19, .int .i64 v20, .slice a0_2 x0_2.length k0_2] 162 (0, 0))]) (sl' := [.s (.slice a12 v11.length k13) 22 1 v11.length cs14, .s (.slice a16 v15.length k17) 3 1 v15.length cs18]) (Fs' := G10 :: Fs) rfl rfl rfl ?_)
  unfold columns_Columns_All_J1 at r26
  try dsimp only at r26
  refine .seq (.region rfl (.mv rfl rfl ?_))
  refine .toV 1 rfl (fun vb27 po28 va29 vb30 => ?_)
  obtain ⟨u31, hu31, r32⟩ := bind_some r26
  refine .pullS 1 rfl [_, _] rfl ?_
  refine .callS (b1 := []) (b2 := [_]) (s1 := [_]) [_] [] .ro rfl rfl Tryz.call129 rfl rfl (slices_Sort_Lintint_c (G := G10) mcs va29 o25 hu31) rfl (fun v33 bo so h34 => ?_)
  obtain ⟨cs35, rfl, rfl, rfl, o36, hl37⟩ := h34
  refine .same (bl' := [_]) (sl' := [_, _]) rfl rfl rfl (.ofV 0 rfl vb30 hl37 o36 rfl (.reval 10 hl37 rfl (.reval 37 hl37 rfl (.re (.seq (.region rfl (.mv rfl rfl (.mv rfl rfl ?_))))))))
  refine .toV 0 rfl (fun vb38 po39 va40 vb41 => ?_)
  obtain ⟨u42, hu42, r43⟩ := bind_some r32
  refine .callS (b1 := []) (b2 := [_]) (s1 := [_]) [_] [] .ro rfl rfl Tryz.call130 rfl rfl (slices_Compact_Lintint_c (G := G10) mcs va40 o36 hu42) rfl (fun v44 bo so h45 => ?_)
  obtain ⟨vv46, cs47, rfl, rfl, rfl, pv48, o49, hl50⟩ := h45
  refine .same (bl' := [_]) (sl' := [_, _]) rfl rfl rfl (.ofV 0 rfl vb41 hl50 o49 rfl (.reval 10 hl50 rfl (.reval 37 hl50 rfl (.reval 40 hl50 rfl ?_))))
  refine .openB (sB := [_]) (s2 := [_]) rfl B23 (fun G52 e53 B54 hr55 hc56 => ?_)
  have s57 := SlR.rd o49 rfl e53 (hr55 _ (List.mem_of_getElem? (i := 0) rfl))
  obtain ⟨u58, hu58, r59⟩ := bind_some r43
  obtain ⟨a60, k61, h62, s63⟩ := SlR.part s57 pv48 hu58
  refine .revalV 41 h62.symm rfl ?_
  obtain ⟨u65, hu65, r66⟩ := bind_some r59
  refine .callS (b1 := []) (b2 := [_]) (s1 := []) [_] [] .ro rfl rfl Tryz.call100 rfl rfl (slices_Clone_Lintint_c (G := G52) mcs s63 hu65) rfl (fun v67 bo so h68 => ?_)
  obtain ⟨a69, k70, cs71, rfl, rfl, rfl, o72⟩ := h68
  refine .same (bl' := [_]) (sl' := [_, _]) rfl rfl rfl (.av rfl rfl (.av rfl rfl (.av rfl rfl ?_)))
  have o73 := OL.flat (G := G10) (Rep.flat_int _) o72
  refine hc56 _ _ _ _ _ _ (HpLe.refl _) ?_
  refine .re ?_
  cases r66
  refine .drop 1 0 [] _ rfl rfl (.pullS 1 rfl [_, _, _] rfl (.pullS 2 rfl [_, _, _] rfl (.pullS 2 rfl [_, _, _] rfl (.drop 0 1 _ [_, _] rfl rfl ?_))))
  refine .retW (.inr ⟨_, rfl⟩) [.tmp 6, .tmp 7, .tmp 8] [_, _, _] rfl Tryz.func85 Tryz.results85 ⟨RV.tmp rfl, RV.tmp rfl, RV.tmp rfl, trivial⟩ mcm mcs B23 (by subst hS0; simp [blks]) (fun G' hg => ⟨a12, k13, cs14, a69, k70, cs71, rfl, rfl, rfl, (OL.mono hg o24), (OL.mono hg o73)⟩)
 ·intro hb74
  refine .block (.own_nil 22 1 (.own_nil 3 1 (.pullS 1 rfl [_, _] rfl ?_)))
  refine .loop2 (α := Nat × Hp × List (List Int) × Option Addr × Nat × List Value × List Int × Option Addr × Nat × List Value × Int) (fun y => [(9, .slice y.2.2.2.1 y.2.2.1.length y.2.2.2.2.1), (10, .slice y.2.2.2.2.2.2.2.1 y.2.2.2.2.2.2.1.length y.2.2.2.2.2.2.2.2.1), (15, .int .i64 y.2.2.2.2.2.2.2.2.2.2)]) [(2, _), (3, _), (14, _)] (fun y => [y.2.1]) (fun y => []) [_] (fun y => [.s (.slice y.2.2.2.1 y.2.2.1.length y.2.2.2.2.1) 22 1 y.2.2.1.length y.2.2.2.2.2.1, .s (.slice y.2.2.2.2.2.2.2.1 y.2.2.2.2.2.2.1.length y.2.2.2.2.2.2.2.2.1) 3 1 y.2.2.2.2.2.2.1.length y.2.2.2.2.2.2.2.2.2.1]) [] (fun y => HpLe G y.2.1 ∧ Bd w0 S0 Fs y.2.1 ∧ OL (Rep.sl ri) y.2.1 y.2.2.2.2.2.1 y.2.2.1 ∧ OL ri y.2.1 y.2.2.2.2.2.2.2.2.2.1 y.2.2.2.2.2.2.1 ∧ columns_Columns_All_L2 columns_Columns_All_J1 x1 x0_0 x0_1 x0_2 y.1 y.2.2.1 y.2.2.2.2.2.2.1 y.2.2.2.2.2.2.2.2.2.2 = some r) (fun y => y.1) (big, G, ([] : List (List Int)), none, 0, [], ([] : List Int), none, 0, [], 0) ⟨(HpLe.refl _), B0, (OL.nil (Rp' := (Rep.sl ri))), (OL.nil (Rp' := ri)), h⟩ ⟨rfl, rfl, rfl, rfl, rfl, rfl, trivial⟩ rfl rfl rfl (fun y hI hb75 => ?_)
  obtain ⟨n76, G77, v78, a79, k80, cs81, v82, a83, k84, cs87, v88⟩ := y
  obtain ⟨e89, B90, o91, o92, r93⟩ := hI
  try dsimp only at e89 B90 o91 o92 r93
  refine .prune [(9, .slice a79 v78.length k80), (10, .slice a83 v82.length k84), (15, .int .i64 v88), (2, _), (3, _), (14, _)] ⟨rfl, rfl, rfl, rfl, rfl, rfl, trivial⟩ (.same (bl' := [_]) (sl' := [.s (.slice a79 v78.length k80) 22 1 v78.length cs81, .s (.slice a83 v82.length k84) 3 1 v82.length cs87]) (Fs' := G77 :: Fs) rfl rfl rfl ?_)
  obtain ⟨m94, rfl⟩ : ∃ m, n76 = m + 1 := by cases n76 with | zero => exact absurd (show (none : Option _) = some _ from r93) (by simp) | succ m => exact ⟨m, rfl⟩
  have r95 : columns_Columns_All_B2 columns_Columns_All_J1 x1 x0_0 x0_1 x0_2 (columns_Columns_All_L2 columns_Columns_All_J1 x1 x0_0 x0_1 x0_2 m94) v78 v82 v88 = some r := r93; clear r93; unfold columns_Columns_All_B2 at r95; try dsimp only at r95
  refine .seq (.region rfl (.q .ro (.lss rfl rfl) rfl (.re (.seq ?_))))
  refine .cond_dec rfl (fun c96 => ?_) (fun c96 => ?_)
  ·have r97 := ifT r95 c96; clear r95
   refine .skip (.seq (.block (.seq (.region rfl (.mv rfl rfl (.av rfl rfl (.re (.seq (.region rfl (.mv rfl rfl (.q .ro (.load_own_a 0 [_, _, _] rfl rfl ty162 rfl) rfl (.mv rfl rfl ?_))))))))))))
   obtain ⟨u98, hu98, r99⟩ := bind_some r97
   refine .callW (b1 := []) (b2 := [_]) (s1 := []) [_, _] [] .ro rfl rfl Tryz.call86 rfl rfl (columns_Columns_Decode_c (G := G77) mcs (Rp.mono e89 hg0) (SlR.mono e89 s0_2) hu98) rfl B90 (fun v101 bo so G102 e103 B104 h105 => ?_)
   obtain ⟨a106, k107, a108, k109, rfl, rfl, rfl, s110, s111⟩ := h105
   refine .same (bl' := [_]) (sl' := [_, _]) rfl rfl rfl (.mv rfl rfl (.q .ro (.extract rfl rfl) rfl (.q .ro (.extract rfl rfl) rfl ?_)))
   refine .alloc .ro ty215 rfl (fun b112 hb112 => ?_)
   refine .store 0 [_, _] [_, _] .ro rfl rfl rfl ty215 rfl rfl rfl rfl (.av rfl rfl (.re (.seq (.seq (.region rfl (.mv rfl rfl (.q .ro (.neq rfl rfl) rfl (.re ?_))))))))
   refine .cond_dec rfl (fun c113 => ?_) (fun c113 => ?_)
   ·have r114 := ifT r99 c113; clear r99
    exact absurd r114 (by simp)
   ·have r115 := ifF r99 c113; clear r99
    refine .skip (.drawL (.q 0 (.q 1 (.q 2 (.q 5 (.q 6 (.q 7 (.e 3 1 (.e 4 1 (.e 8 1 (.q 9 (.q 10 .nil))))))))))) [_, _] (by kernel_rfl) (by kernel_rfl) (pick_mem [0, 1] rfl) (.dq (.move rfl) rfl (.dq (.fieldAddr 0 rfl fl215_0 ty22.sz rfl) rfl (.dq (.load_own 0 rfl rfl ty22 rfl) rfl (.dq (.move rfl) rfl (.dq (.fieldAddr 1 rfl fl215_1 ty22.sz rfl) rfl (.dq (.load_own 0 rfl rfl ty22 rfl) rfl ?_)))))))
    refine .lit [_] [(0, _)] .d1 sl51 ty22 rfl rfl rfl rfl rfl rfl (fun b116 hb116 => ?_)
    have o117 : OL (Rep.sl ri) G102 [.slice a106 u98.1.1.length k107] ([u98.1.1] : List (List Int)) := ((OL.cons rfl (Rep.slI s110) (OL.nil (Rp' := (Rep.sl ri)))) :)
    refine .reval 30 (n' := ([u98.1.1] : List (List Int)).length) rfl rfl (.clsL (HpLe.refl _) (pick_mem [0, 1] rfl) ?_)
    obtain ⟨u118, hu118, r119⟩ := bind_some r115
    refine .appO (Q := (Rep.sl ri)) 0 .d1 sl51 ty22 rfl rfl rfl rfl rfl rfl (OL.mono e103 o91) o117 rfl rfl rfl B104 hu118 rfl (fun a120 k121 cs122 o123 => ?_)
    refine .clsL (HpLe.refl _) (pick_mem [0, 1] rfl) ?_
    obtain ⟨u124, hu124, r125⟩ := bind_some r119
    refine .appR (Q := ri) 1 .d1 sl22 ty3 rfl rfl rfl rfl rfl (OL.mono e103 o92) rfl rfl s111 rfl mcs hu124 rfl (fun a126 k127 cs128 o131 => ?_)
    refine .clsL (HpLe.refl _) (pick_mem [0, 1] rfl) (.dq (.assign rfl) rfl (.dq (.assign rfl) rfl (.draw_end (.prune [(9, _), (10, _), (15, _), (2, _), (3, _), (14, _)] ⟨rfl, rfl, rfl, rfl, rfl, rfl, trivial⟩ (.inBlock (.region rfl (.q .ro (.addw rfl rfl) rfl (.mv rfl rfl (.re (.drop 1 0 [_] _ rfl rfl ?_))))))))))
    exact .arr (hb75 (m94, G102, u118, a120, k121, cs122, u124, a126, k127, cs128, (w64 (v88 + 1))) ⟨(HpLe.trans e89 e103), B104, o123, o131, r125⟩ (Nat.lt_succ_self _)) ⟨rfl, rfl, rfl, rfl, rfl, rfl, trivial⟩
  ·have r132 := ifF r95 c96; clear r95
   refine .exit rfl ?_
   exact .arr (hb74 (G77, v78, a79, k80, cs81, v82, a83, k84, cs87, x0_0, x0_1) ⟨e89, B90, o91, o92, r132⟩) ⟨rfl, rfl, trivial⟩
theorem columns_Coefficient_c {Fs : List Hp} {G : Hp} {a0 : Option Addr} {k0 : Nat} {x0 : List Int} {x1 : Int} {r : Int} (hG : G ∈ Fs) (s0 : SlR ri G a0 k0 x0) (h : columns_Coefficient x0 x1 = some r) : RetS Tryz.prog 114 #[.slice a0 x0.length k0, .int .i64 x1] Fs [] [] (fun v bo so => v = .int .i64 r ∧ bo = [] ∧ so = []) := by
 unfold columns_Coefficient at h
 try dsimp only at h
 refine RetS.of (vs := [_, _]) Tryz.func114 rfl Tryz.ntmps114 [(0, _), (1, _)] ⟨rfl, rfl, trivial⟩ rfl hG fun w0 S0 hS0 B0 => ?_
 refine .seq (.region rfl (.av rfl rfl (.re (.seq (.seq (.region rfl (.mv rfl rfl (.mv rfl rfl (.q .ro (.len_sl rfl rfl sl22) rfl (.q .ro (.lss rfl rfl) rfl (.re ?_)))))))))))
 refine .cond_dec rfl (fun c1 => ?_) (fun c1 => ?_)
 ·have r2 := ifT h c1; clear h
  refine .seq (.region rfl (.mv rfl rfl (.mv rfl rfl ?_)))
  obtain ⟨u3, hu3, r4⟩ := bind_some r2
  obtain ⟨c5, p6, h7⟩ := SlR.get s0 hu3
  obtain rfl := h7
  refine .q .ro (.idxR s0 rfl rfl hu3 sl22 ty3.sz) rfl (.q .ro (.load_rp p6 mcs rfl ty3 rfl) rfl (.av rfl rfl (.re ?_)))
  cases r4
  refine .retS (.inr ⟨_, rfl⟩) [.tmp 4] [_] rfl Tryz.func114 Tryz.results114 ⟨RV.tmp rfl, trivial⟩ mcm ⟨rfl, rfl, rfl⟩
 ·have r8 := ifF h c1; clear h
  exact absurd r8 (by simp)
theorem curve_Decode_c {Fs : List Hp} {G : Hp} {x0_0 : Int} {x1_0 : Int} {x1_1 : Int} {x2 : Int} {a3 : Option Addr} {k3 : Nat} {x3 : List (Bool × (List Int))} {r : (((List Int) × (List Int)) × Int)} (hG : G ∈ Fs) (hg0 : Rp G (.pointer (some ⟨0, 0, none⟩)) [ifc233 (some 12)]) (s3 : SlR (Rep.pair Rep.bool (Rep.sl ri)) G a3 k3 x3) (h : curve_Decode x0_0 (x1_0, x1_1) x2 x3 = some r) : RetW Tryz.prog 50 #[.agg #[.int .i64 x0_0], .agg #[.int .i64 x1_0, .int .i64 x1_1], .int .i64 x2, .slice a3 x3.length k3] Fs [] [] (fun v bo so G => ∃ a0 : Option Addr, ∃ k0 : Nat, ∃ a1 : Option Addr, ∃ k1 : Nat, v = .tuple #[.agg #[.slice a0 r.1.1.length k0, .slice a1 r.1.2.length k1], .int .i64 r.2] ∧ bo = [] ∧ so = [] ∧ SlR ri G a0 k0 r.1.1 ∧ SlR ri G a1 k1 r.1.2) := by
 unfold curve_Decode at h
 try dsimp only at h
 refine RetW.of (vs := [_, _, _, _]) Tryz.func50 rfl Tryz.ntmps50 [(0, _), (1, _), (2, _), (3, _)] ⟨rfl, rfl, rfl, rfl, trivial⟩ rfl hG fun w0 S0 hS0 B0 => ?_
 refine .seq (.region rfl ?_)
 refine .box [_] .ro rfl rfl rfl (fun b1 hb1 => ?_)
 refine .box [_, _] .ro rfl rfl rfl (fun b2 hb2 => ?_)
 refine .alloc .ro ty65 rfl (fun b3 hb3 => ?_)
 refine .av rfl rfl (.re (.seq (.seq (.region rfl (.q .ro (.load_own_a 2 [_] rfl rfl ty45 rfl) rfl (.q .ro (.load_own_a 1 [_, _] rfl rfl ty69 rfl) rfl ?_))))))
 obtain ⟨u4, hu4, r5⟩ := bind_some h
 refine .callS (b1 := []) (b2 := [_, _, _]) (s1 := []) [_, _] [] .ro rfl rfl Tryz.call113 rfl rfl (curve_Check_c (G := G) mcs  hu4) rfl (fun v7 bo so h6 => ?_)
 obtain ⟨rfl, rfl, rfl⟩ := h6
 refine .same (bl' := [_, _, _]) (sl' := []) rfl rfl rfl (.av rfl rfl (.re (.seq (.region rfl (.mv rfl rfl (.q .ro (.neq rfl rfl) rfl (.re ?_)))))))
 refine .cond_dec rfl (fun c8 => ?_) (fun c8 => ?_)
 ·have r9 := ifT r5 c8; clear r5
  exact absurd r9 (by simp)
 ·have r10 := ifF r5 c8; clear r5
  refine .skip (.seq (.seq (.region rfl (.q .ro (.load_own_a 2 [_] rfl rfl ty45 rfl) rfl (.mv rfl rfl (.q .ro (.fieldAddr 0 rfl fl69_0 ty3.sz rfl) rfl (.q .ro (.load_own 1 rfl rfl ty3 rfl) rfl (.q .ro (.fieldAddr 1 rfl fl69_1 ty3.sz rfl) rfl (.q .ro (.load_own 1 rfl rfl ty3 rfl) rfl (.q .ro (.addw rfl rfl) rfl (.mv rfl rfl ?_)))))))))))
  obtain ⟨u11, hu11, r12⟩ := bind_some r10
  refine .callS (b1 := []) (b2 := [_, _, _]) (s1 := []) [_, _, _, _, _] [] .ro rfl rfl Tryz.call84 rfl rfl (columns_Check_c (G := G) mcs s3 hu11) rfl (fun v14 bo so h13 => ?_)
  obtain ⟨rfl, rfl, rfl⟩ := h13
  refine .same (bl' := [_, _, _]) (sl' := []) rfl rfl rfl (.av rfl rfl (.re (.prune [(2, _), (3, _), (4, _), (5, _), (8, _), (11, _)] ⟨rfl, rfl, rfl, rfl, rfl, rfl, trivial⟩ (.seq (.region rfl (.mv rfl rfl (.q .ro (.neq rfl rfl) rfl (.re ?_))))))))
  refine .cond_dec rfl (fun c15 => ?_) (fun c15 => ?_)
  ·have r16 := ifT r12 c15; clear r12
   exact absurd r16 (by simp)
  ·have r17 := ifF r12 c15; clear r12
   refine .skip (.seq (.region rfl (.q .ro (.load_own_a 2 [_] rfl rfl ty45 rfl) rfl (.q .ro (.fieldAddr 1 rfl fl69_1 ty3.sz rfl) rfl (.q .ro (.load_own 1 rfl rfl ty3 rfl) rfl (.q .ro (.addw rfl rfl) rfl (.mv rfl rfl (.q .ro (.build [_, _, _] [(0, _), (1, _), (2, _)] ty162 pl162 rfl rfl) rfl ?_))))))))
   refine .alloc .ro ty162 rfl (fun b18 hb18 => ?_)
   refine .store 0 [_, _, _] [_, _, _, _] .ro rfl rfl rfl ty162 rfl rfl rfl rfl (.re (.seq (.region rfl (.q .ro (.load_own_a 0 [_, _, _] rfl rfl ty162 rfl) rfl (.mv rfl rfl ?_)))))
   obtain ⟨u19, hu19, r20⟩ := bind_some r17
   refine .callW (b1 := []) (b2 := [_, _, _, _]) (s1 := []) [_, _, _] [] .ro rfl rfl Tryz.call85 rfl rfl (columns_Columns_All_c (G := G) mcs hg0 s3 hu19) rfl B0 (fun v22 bo so G23 e24 B25 h21 => ?_)
   obtain ⟨a28, k29, cs30, a33, k34, cs35, rfl, rfl, rfl, o31, o36⟩ := h21
   refine .same (bl' := [_, _, _, _]) (sl' := [_, _]) rfl rfl rfl (.mv rfl rfl (.q .ro (.extract rfl rfl) rfl (.q .ro (.extract rfl rfl) rfl (.q .ro (.extract rfl rfl) rfl (.av rfl rfl (.av rfl rfl (.av rfl rfl (.re (.prune [(8, _), (13, _), (14, _), (15, _)] ⟨rfl, rfl, rfl, rfl, trivial⟩ (.seq (.seq (.region rfl (.mv rfl rfl (.q .ro (.neq rfl rfl) rfl (.re ?_)))))))))))))))
   refine .cond_dec rfl (fun c37 => ?_) (fun c37 => ?_)
   ·have r38 := ifT r20 c37; clear r20
    exact absurd r38 (by simp)
   ·have r39 := ifF r20 c37; clear r20
    refine .skip (.seq (.region rfl (.mv rfl rfl (.q .ro (.build [_, _] [(1, _)] ty65 pl65 rfl rfl) rfl ?_))))
    refine .alloc .ro ty65 rfl (fun b40 hb40 => ?_)
    refine .store 0 [_, _] [_, _, _, _, _] .ro rfl rfl rfl ty65 rfl rfl rfl rfl (.re (.seq (.seq (.region rfl (.mv rfl rfl (.q .ro (.len_sl rfl rfl sl51) rfl (.mv rfl rfl (.re ?_))))))))
    refine .cutB (β := List Int × Option Addr × Nat × List Value × Int × Int × Int × Int × Int) (fun y => []) [(8, _), (16, _)] (fun y => G23 :: Fs) (fun y => [(b40, .cells #[.slice y.2.1 y.1.length y.2.2.1, .slice a33 u19.2.1.length k34] 65 (0, 0)), (b18, .cells #[.int .i64 y.2.2.2.2.1, .int .i64 y.2.2.2.2.2.1, .slice a3 x3.length k3] 162 (0, 0)), (b2, .cells #[.int .i64 y.2.2.2.2.2.2.1, .int .i64 y.2.2.2.2.2.2.2.1] 69 (0, 0)), (b1, .cells #[.int .i64 y.2.2.2.2.2.2.2.2] 45 (0, 0))]) [_] (fun y => [.s (.slice y.2.1 y.1.length y.2.2.1) 3 1 y.1.length y.2.2.2.1]) [_, _] (fun y => OL ri G23 y.2.2.2.1 y.1 ∧ (curve_Decode_J1 u19.2.1) y.1 y.2.2.2.2.1 y.2.2.2.2.2.1 y.2.2.2.2.2.2.1 y.2.2.2.2.2.2.2.1 y.2.2.2.2.2.2.2.2 = some r) ⟨rfl, rfl, trivial⟩ [2] rfl [0, 1] rfl ?_ ?_
    ·intro y hI
     obtain ⟨v26, a27, k32, cs41, v42, v43, v44, v46, v47⟩ := y
     obtain ⟨o48, r49⟩ := hI
     try dsimp only at o48 r49
     refine .prune [(8, _), (16, _)] ⟨rfl, rfl, trivial⟩ (.same (bl' := [(b40, .cells #[.slice a27 v26.length k32, .slice a33 u19.2.1.length k34] 65 (0, 0)), (b18, .cells #[.int .i64 v42, .int .i64 v43, .slice a3 x3.length k3] 162 (0, 0)), (b2, .cells #[.int .i64 v44, .int .i64 v46] 69 (0, 0)), (b1, .cells #[.int .i64 v47] 45 (0, 0)), _]) (sl' := [.s (.slice a27 v26.length k32) 3 1 v26.length cs41, _, _]) (Fs' := G23 :: Fs) rfl rfl rfl ?_)
     unfold curve_Decode_J1 at r49
     try dsimp only at r49
     refine .seq (.region rfl (.q .ro (.load_own_a 0 [_, _] rfl rfl ty65 rfl) rfl (.store 4 [_, _] [_, _, _, _, _] .ro rfl rfl rfl ty65 rfl rfl rfl rfl (.av rfl rfl (.re ?_)))))
     refine .freezeR 0 rfl rfl o48 [_, _] rfl B25 (fun G52 e53 B54 s55 => ?_)
     refine .freezeR 1 rfl rfl (OL.mono e53 o36) [_] rfl B54 (fun G56 e57 B58 s59 => ?_)
     cases r49
     refine .drop 0 1 _ [] rfl rfl ?_
     refine .retWD 5 (.inr ⟨_, rfl⟩) [.cell 8 65, .tmp 9] [_, _] rfl Tryz.func50 Tryz.results50 ⟨RV.cell_a 4 [_, _] rfl rfl ty65 rfl, RV.tmp rfl, trivial⟩ mcm mcs B58 (by subst hS0; simp [blks]) (fun G' hg => ⟨a27, k32, a33, k34, rfl, rfl, rfl, (SlR.mono hg (SlR.mono e57 s55)), (SlR.mono hg s59)⟩)
    ·intro hb60
     refine .block (.own_nil 3 1 ?_)
     refine .loop2 (α := Nat × List (List Int) × List Int × Option Addr × Nat × List Value) (fun y => [(60, .int .i64 (y.1 : Int))]) [(8, _), (16, _), (58, _), (59, _)] (fun y => []) (fun y => [(b40, .cells #[.slice y.2.2.2.1 y.2.2.1.length y.2.2.2.2.1, .slice a33 u19.2.1.length k34] 65 (0, 0))]) [_, _, _, _] (fun y => [.s (.slice y.2.2.2.1 y.2.2.1.length y.2.2.2.2.1) 3 1 y.2.2.1.length y.2.2.2.2.2]) [_, _] (fun y => OL ri G23 y.2.2.2.2.2 y.2.2.1 ∧ List.drop y.1 u19.1 = y.2.1 ∧ curve_Decode_L2 (curve_Decode_J1 u19.2.1) x0_0 (w64 (x1_1 + 1)) x1_0 x1_1 y.2.1 y.2.2.1 = some r) (fun y => y.2.1.length) (0, u19.1, ([] : List Int), none, 0, []) ⟨(OL.nil (Rp' := ri)), rfl, r39⟩ ⟨rfl, rfl, rfl, rfl, rfl, trivial⟩ rfl rfl rfl (fun y hI hb61 => ?_)
     obtain ⟨i62, w63, v66, a67, k68, cs70⟩ := y
     obtain ⟨o71, g72, r73⟩ := hI
     try dsimp only at o71 g72 r73
     refine .prune [(60, .int .i64 (i62 : Int)), (8, _), (16, _), (58, _), (59, _)] ⟨rfl, rfl, rfl, rfl, rfl, trivial⟩ (.same (bl' := [(b40, .cells #[.slice a67 v66.length k68, .slice a33 u19.2.1.length k34] 65 (0, 0)), _, _, _, _]) (sl' := [.s (.slice a67 v66.length k68) 3 1 v66.length cs70, _, _]) (Fs' := G23 :: Fs) rfl rfl rfl ?_)
     cases w63 with
     | nil =>
      rw [curve_Decode_L2] at r73; try dsimp only at r73
      refine .seq (.region rfl (.q .ro (.lss rfl rfl) rfl (.re (.seq ?_))))
      refine .cond_dec rfl (fun c => absurd c (drop_nil g72)) (fun _ => ?_)
      refine .exit rfl (.pull 2 rfl [_, _, _, _, _] rfl (.pull 4 rfl [_, _, _, _, _] rfl (.pull 4 rfl [_, _, _, _, _] rfl (.pull 4 rfl [_, _, _, _, _] rfl (.pull 4 rfl [_, _, _, _, _] rfl ?_)))))
      exact .arr (hb60 (v66, a67, k68, cs70, x0_0, (w64 (x1_1 + 1)), x1_0, x1_1, x0_0) ⟨o71, r73⟩) ⟨rfl, rfl, trivial⟩
     | cons x74 xs75 =>
      have r76 : curve_Decode_B2 (curve_Decode_J1 u19.2.1) x0_0 (w64 (x1_1 + 1)) x1_0 x1_1 (curve_Decode_L2 (curve_Decode_J1 u19.2.1) x0_0 (w64 (x1_1 + 1)) x1_0 x1_1 xs75) x74 v66 = some r := r73; clear r73; unfold curve_Decode_B2 at r76; try dsimp only at r76
      refine .seq (.region rfl (.q .ro (.lss rfl rfl) rfl (.re (.seq ?_))))
      refine .cond_dec rfl (fun _ => ?_) (fun c => absurd (drop_lt g72) c)
      refine .skip (.seq (.block (.seq (.region rfl ?_))))
      obtain ⟨c77, p78, h79⟩ := OL.get o31 (drop_idx g72)
      obtain ⟨a80, k81, rfl, s82⟩ := h79
      refine .q .ro (.idxO 1 rfl rfl rfl (drop_idx g72) sl51 ty22.sz) rfl (.q .ro (.loadO 1 0 rfl (drop_idx g72) p78 rfl (.inl ⟨rfl, rfl⟩) ty22 rfl) rfl (.av rfl rfl (.re (.drawL (.q 0 (.q 1 (.q 2 (.e 3 1 (.e 4 1 (.e 5 1 (.q 6 (.e 7 2 .nil)))))))) [_, _, _, _, _] (by kernel_rfl) (by kernel_rfl) (pick_mem [0, 1, 2, 3, 4] rfl) (.dq (.fieldAddr 0 rfl fl65_0 ty22.sz rfl) rfl (.dq (.load_own 0 rfl rfl ty22 rfl) rfl (.dq (.move rfl) rfl ?_)))))))
      obtain ⟨u83, hu83, r86⟩ := bind_some r76
      refine .callS (b1 := []) (b2 := [_, _, _, _, _]) (s1 := []) [_, _] [] .d1 rfl rfl Tryz.call114 rfl rfl (columns_Coefficient_c (G := G23) mcs s82 hu83) rfl (fun v87 bo so h88 => ?_)
      obtain ⟨rfl, rfl, rfl⟩ := h88
      refine .same (bl' := [_, _, _, _, _]) (sl' := [_, _, _]) rfl rfl rfl (.clsL (HpLe.refl _) (pick_mem [0, 1, 2, 3, 4] rfl) ?_)
      refine .lit [_] [(0, _)] .d1 sl22 ty3 rfl rfl rfl rfl rfl rfl (fun b89 hb89 => ?_)
      have o90 : OL ri G23 [.int .i64 u83] ([u83] : List Int) := ((OL.cons rfl (Rep.intI .i64 u83) (OL.nil (Rp' := ri))) :)
      refine .reval 68 (n' := ([u83] : List Int).length) rfl rfl (.clsL (HpLe.refl _) (pick_mem [0, 1, 2, 3, 4] rfl) ?_)
      obtain ⟨u91, hu91, r92⟩ := bind_some r86
      refine .appO (Q := ri) 0 .d1 sl22 ty3 rfl rfl rfl rfl rfl rfl o71 o90 rfl rfl rfl B25 hu91 rfl (fun a93 k94 cs95 o96 => ?_)
      refine .clsL (HpLe.refl _) (pick_mem [0, 1, 2, 3, 4] rfl) (.dq (.fieldAddr 0 rfl fl65_0 ty22.sz rfl) rfl (.store 0 [_, _] [_, _, _, _, _] .d2 rfl rfl rfl ty22 rfl rfl rfl rfl (.draw_end (.inBlock (.region rfl (.q .ro (.addw rfl rfl) rfl (.mv rfl rfl (.re ?_))))))))
      exact .arr (hb61 ((i62 + 1), xs75, u91, a93, k94, cs95) ⟨o96, (drop_succ g72), r92⟩ (Nat.lt_succ_self _)) ⟨(congrArg (fun z => some (Value.int .i64 z)) (idx_wrap (OL.len' o31) g72)), rfl, rfl, rfl, rfl, trivial⟩
theorem top_awake_c {Fs : List Hp} {G : Hp}  {r : Bool} (hG : G ∈ Fs) (hg0 : Rp G (.pointer (some ⟨0, 0, none⟩)) [ifc233 (some 12)]) (h : top_awake = some r) : RetS Tryz.prog 7 #[] Fs [] [] (fun v bo so => v = .bool r ∧ bo = [] ∧ so = []) := by
 unfold top_awake at h
 try dsimp only at h
 refine RetS.of (vs := []) Tryz.func7 rfl Tryz.ntmps7 [] trivial rfl hG fun w0 S0 hS0 B0 => ?_
 refine .seq (.region rfl (.av rfl rfl (.re (.seq (.region rfl (.q .ro (.build [_] [(0, _)] ty45 pl45 rfl rfl) rfl ?_))))))
 refine .alloc .ro ty45 rfl (fun b1 hb1 => ?_)
 refine .store 0 [_] [_] .ro rfl rfl rfl ty45 rfl rfl rfl rfl (.re (.seq (.region rfl (.q .ro (.build [_, _] [(0, _), (1, _)] ty69 pl69 rfl rfl) rfl ?_))))
 refine .alloc .ro ty69 rfl (fun b2 hb2 => ?_)
 refine .store 0 [_, _] [_, _] .ro rfl rfl rfl ty69 rfl rfl rfl rfl (.re (.seq (.region rfl ?_)))
 refine .lit [_, _] [(0, _), (1, _)] .ro sl22 ty3 rfl rfl rfl rfl rfl rfl (fun b3 hb3 => ?_)
 have o4 : OL ri G [.int .i64 1, .int .i64 2] ([1, 2] : List Int) := ((OL.cons rfl (Rep.intI .i64 1) (OL.cons rfl (Rep.intI .i64 2) (OL.nil (Rp' := ri)))) :)
 refine .reval 15 (n' := ([1, 2] : List Int).length) rfl rfl ?_
 refine .lit [_, _] [(0, _), (1, _)] .ro sl22 ty3 rfl rfl rfl rfl rfl rfl (fun b6 hb6 => ?_)
 have o7 : OL ri G [.int .i64 3, .int .i64 4] ([3, 4] : List Int) := ((OL.cons rfl (Rep.intI .i64 3) (OL.cons rfl (Rep.intI .i64 4) (OL.nil (Rp' := ri)))) :)
 refine .reval 16 (n' := ([3, 4] : List Int).length) rfl rfl ?_
 refine .freezeR 1 rfl rfl o4 [_] rfl B0 (fun G9 e10 B11 s12 => ?_)
 refine .freezeR 0 rfl rfl (OL.mono e10 o7) [] rfl B11 (fun G14 e15 B16 s17 => ?_)
 refine .lit [_, _] [(0, _), (1, _)] .ro sl51 ty22 rfl rfl rfl rfl rfl rfl (fun b19 hb19 => ?_)
 have o20 : OL (Rep.sl ri) G14 [.slice (some ⟨b3, 0, none⟩) ([1, 2] : List Int).length 2, .slice (some ⟨b6, 0, none⟩) ([3, 4] : List Int).length 2] ([([1, 2] : List Int), ([3, 4] : List Int)] : List (List Int)) := ((OL.cons rfl (Rep.slI (SlR.mono e15 s12)) (OL.cons rfl (Rep.slI s17) (OL.nil (Rp' := (Rep.sl ri))))) :)
 refine .reval 17 (n' := ([([1, 2] : List Int), ([3, 4] : List Int)] : List (List Int)).length) rfl rfl (.av rfl rfl (.re (.seq (.region rfl (.q .ro (.load_own_a 1 [_] rfl rfl ty45 rfl) rfl (.q .ro (.load_own_a 0 [_, _] rfl rfl ty69 rfl) rfl ?_))))))
 refine .lit [_, _] [(0, _), (1, _)] .ro sl22 ty3 rfl rfl rfl rfl rfl rfl (fun b22 hb22 => ?_)
 have o23 : OL ri G14 [.int .i64 4, .int .i64 2] ([4, 2] : List Int) := ((OL.cons rfl (Rep.intI .i64 4) (OL.cons rfl (Rep.intI .i64 2) (OL.nil (Rp' := ri)))) :)
 refine .reval 21 (n' := ([4, 2] : List Int).length) rfl rfl (.q .ro (.build [_, _] [(0, _)] ty56 pl56 rfl rfl) rfl ?_)
 refine .freezeR 0 rfl rfl o23 [_] rfl B16 (fun G25 e26 B27 s28 => ?_)
 obtain ⟨u30, hu30, r31⟩ := bind_some h
 refine .callW (b1 := []) (b2 := [_, _]) (s1 := []) [_, _, _, _, _] [] .ro rfl rfl Tryz.call49 rfl rfl (curve_Queries_c (G := G25) mcs s28 hu30) rfl B27 (fun v33 bo so G34 e35 B36 h32 => ?_)
 obtain ⟨a38, k39, a41, k42, rfl, rfl, rfl, s40, s43⟩ := h32
 refine .same (bl' := [_, _]) (sl' := [_]) rfl rfl rfl (.mv rfl rfl (.q .ro (.extract rfl rfl) rfl (.q .ro (.extract rfl rfl) rfl (.q .ro (.extract rfl rfl) rfl ?_))))
 refine .alloc .ro ty56 rfl (fun b44 hb44 => ?_)
 refine .av rfl rfl (.store 0 [_, _] [_, _, _] .ro rfl rfl rfl ty56 rfl rfl rfl rfl (.av rfl rfl (.re (.prune [(1, _), (2, _), (3, _), (4, _), (6, _)] ⟨rfl, rfl, rfl, rfl, rfl, trivial⟩ (.seq (.seq (.region rfl (.mv rfl rfl (.q .ro (.neq rfl rfl) rfl (.mv rfl rfl ?_))))))))))
 refine .cutR 4 (β := Unit) (fun y => [(33, .bool (decide ((u30.2.2 ≠ 0) ∨ ((u30.1.length : Int) ≠ 3))))]) [(1, _), (2, _), (3, _), (4, _)] (fun y => G34 :: Fs) (fun y => []) [_, _, _] (fun y => []) [_] (fun y => True) ⟨rfl, rfl, rfl, rfl, trivial⟩ [0, 1, 2] rfl [0] rfl ?_ ?_
 ·rintro _ _
  refine .prune [(33, .bool (decide ((u30.2.2 ≠ 0) ∨ ((u30.1.length : Int) ≠ 3)))), (1, _), (2, _), (3, _), (4, _)] ⟨rfl, rfl, rfl, rfl, rfl, trivial⟩ (.same (bl' := [_, _, _]) (sl' := [_]) (Fs' := G34 :: Fs) rfl rfl rfl (.re ?_))
  refine .cond_dec rfl (fun c49 => ?_) (fun c49 => ?_)
  ·have r50 := ifT r31 c49; clear r31
   exact absurd r50 (by simp)
  ·have r51 := ifF r31 c49; clear r31
   refine .skip (.seq ?_)
   refine .freezeR 0 rfl rfl (OL.mono (HpLe.trans e26 e35) o20) [] rfl B36 (fun G57 e58 B59 s60 => ?_)
   refine .drawL (.q 0 (.q 1 (.q 2 (.q 3 (.q 4 (.e 5 1 (.q 6 (.q 7 (.q 8 (.q 9 (.q 10 .nil))))))))))) [_, _, _] (by kernel_rfl) (by kernel_rfl) (pick_mem [0, 1, 2] rfl) (.dq (.load_own_a 2 [_] rfl rfl ty45 rfl) rfl (.dq (.move rfl) rfl (.dq (.move rfl) rfl ?_)))
   obtain ⟨u62, hu62, r63⟩ := bind_some r51
   obtain ⟨c64, p65, h66⟩ := SlR.get (SlR.mono e58 s40) hu62
   obtain ⟨a67, k68, rfl, s69⟩ := h66
   refine .dq (.idxR (SlR.mono e58 s40) rfl rfl hu62 sl51 ty22.sz) rfl (.dq (.load_rp p65 mcs rfl ty22 rfl) rfl ?_)
   obtain ⟨u70, hu70, r71⟩ := bind_some r63
   refine .callS (b1 := []) (b2 := [_, _, _]) (s1 := []) [_, _, _, _] [] .d1 rfl rfl Tryz.call23 rfl rfl (parity_Answer_c (G := G57) mcs s60 s69 hu70) rfl (fun v73 bo so h72 => ?_)
   obtain ⟨a75, k76, cs77, rfl, rfl, rfl, o78⟩ := h72
   refine .same (bl' := [_, _, _]) (sl' := [_]) rfl rfl rfl (.clsL (HpLe.refl _) (pick_mem [0, 1, 2] rfl) (.dq (.move rfl) rfl (.dq (.extract rfl rfl) rfl (.dq (.extract rfl rfl) rfl (.dq (.assign rfl) rfl (.dq (.assign rfl) rfl (.draw_end (.seq (.drawL (.q 0 (.q 1 (.q 2 (.q 3 (.q 4 (.e 5 1 (.q 6 (.q 7 (.q 8 (.q 9 (.q 10 .nil))))))))))) [_, _, _] (by kernel_rfl) (by kernel_rfl) (pick_mem [0, 1, 2] rfl) (.dq (.load_own_a 2 [_] rfl rfl ty45 rfl) rfl (.dq (.move rfl) rfl (.dq (.move rfl) rfl ?_))))))))))))
   obtain ⟨u79, hu79, r80⟩ := bind_some r71
   obtain ⟨c81, p82, h83⟩ := SlR.get (SlR.mono e58 s40) hu79
   obtain ⟨a84, k85, rfl, s86⟩ := h83
   refine .dq (.idxR (SlR.mono e58 s40) rfl rfl hu79 sl51 ty22.sz) rfl (.dq (.load_rp p82 mcs rfl ty22 rfl) rfl ?_)
   obtain ⟨u87, hu87, r88⟩ := bind_some r80
   refine .callS (b1 := []) (b2 := [_, _, _]) (s1 := []) [_, _, _, _] [] .d1 rfl rfl Tryz.call23 rfl rfl (parity_Answer_c (G := G57) mcs s60 s86 hu87) rfl (fun v90 bo so h89 => ?_)
   obtain ⟨a92, k93, cs94, rfl, rfl, rfl, o95⟩ := h89
   refine .same (bl' := [_, _, _]) (sl' := [_, _]) rfl rfl rfl (.clsL (HpLe.refl _) (pick_mem [0, 1, 2] rfl) (.dq (.move rfl) rfl (.dq (.extract rfl rfl) rfl (.dq (.extract rfl rfl) rfl (.dq (.assign rfl) rfl (.dq (.assign rfl) rfl (.draw_end (.prune [(1, _), (2, _), (7, _), (8, _), (9, _), (10, _)] ⟨rfl, rfl, rfl, rfl, rfl, rfl, trivial⟩ (.seq (.region rfl (.q .ro (.load_own_a 2 [_] rfl rfl ty45 rfl) rfl (.q .ro (.load_own_a 1 [_, _] rfl rfl ty69 rfl) rfl (.mv rfl rfl (.q .ro (.build [_, _] [(0, _), (1, _)] ty63 pl63 rfl rfl) rfl (.q .ro (.build [_, _] [] ty63 pl63 rfl rfl) rfl (.mv rfl rfl (.q .ro (.build [_, _] [(0, _), (1, _)] ty63 pl63 rfl rfl) rfl ?_)))))))))))))))))
   refine .freezeR 1 rfl rfl o78 [_] rfl B59 (fun G96 e97 B98 s99 => ?_)
   refine .freezeR 0 rfl rfl (OL.mono e97 o95) [] rfl B98 (fun G13 e18 B21 s24 => ?_)
   refine .lit [_, _, _, _, _, _] [(0, _), (1, _), (2, _)] .ro sl60 ty63 rfl rfl rfl rfl rfl rfl (fun b29 hb29 => ?_)
   have o37 : OL (Rep.pair Rep.bool (Rep.sl ri)) G13 [.bool true, .slice a75 u70.1.length k76, .bool false, .slice none 0 0, .bool true, .slice a92 u87.1.length k93] ([(true, u70.1), (false, ([] : List Int)), (true, u87.1)] : List (Bool × (List Int))) := ((OL.cons rfl (Rep.pairI (Rep.boolI true) (Rep.slI (SlR.mono e18 s99))) (OL.cons rfl (Rep.pairI (Rep.boolI false) (Rep.slI (SlR.nil (Rp' := ri)))) (OL.cons rfl (Rep.pairI (Rep.boolI true) (Rep.slI s24)) (OL.nil (Rp' := (Rep.pair Rep.bool (Rep.sl ri))))))) :)
   refine .reval 60 (n' := ([(true, u70.1), (false, ([] : List Int)), (true, u87.1)] : List (Bool × (List Int))).length) rfl rfl ?_
   refine .freezeR 0 rfl rfl o37 [] rfl B21 (fun G47 e48 B52 s53 => ?_)
   obtain ⟨u54, hu54, r55⟩ := bind_some r88
   refine .callW (b1 := []) (b2 := [_, _, _]) (s1 := []) [_, _, _, _] [] .ro rfl rfl Tryz.call50 rfl rfl (curve_Decode_c (G := G47) mcs (Rp.mono (HpLe.trans (HpLe.trans (HpLe.trans (HpLe.trans (HpLe.trans (HpLe.trans (HpLe.trans e10 e15) e26) e35) e58) e97) e18) e48) hg0) s53 hu54) rfl B52 (fun v61 bo so G74 e91 B100 h101 => ?_)
   obtain ⟨a102, k103, a104, k105, rfl, rfl, rfl, s106, s107⟩ := h101
   refine .same (bl' := [_, _, _]) (sl' := []) rfl rfl rfl (.mv rfl rfl (.q .ro (.extract rfl rfl) rfl (.q .ro (.extract rfl rfl) rfl ?_)))
   refine .alloc .ro ty65 rfl (fun b108 hb108 => ?_)
   refine .store 0 [_, _] [_, _, _, _] .ro rfl rfl rfl ty65 rfl rfl rfl rfl (.av rfl rfl (.re (.prune [(8, _), (10, _), (11, _), (12, _)] ⟨rfl, rfl, rfl, rfl, trivial⟩ (.seq (.region rfl (.mv rfl rfl (.q .ro (.eql rfl rfl) rfl (.mv rfl rfl ?_))))))))
   refine .cutR 3 (β := Unit) (fun y => [(69, .bool (decide ((u70.2 = 0) ∧ (u87.2 = 0))))]) [(11, _), (12, _)] (fun y => G74 :: Fs) (fun y => []) [_, _, _, _] (fun y => []) [] (fun y => True) ⟨rfl, rfl, trivial⟩ [0, 1, 2, 3] rfl [] rfl ?_ ?_
   ·rintro _ _
    refine .prune [(69, .bool (decide ((u70.2 = 0) ∧ (u87.2 = 0)))), (11, _), (12, _)] ⟨rfl, rfl, rfl, trivial⟩ (.same (bl' := [_, _, _, _]) (sl' := []) (Fs' := G74 :: Fs) rfl rfl rfl (.mv rfl rfl ?_))
    refine .cutR 3 (β := Unit) (fun y => [(73, .bool (decide (((u70.2 = 0) ∧ (u87.2 = 0)) ∧ (u54.2 = 0))))]) [(11, _)] (fun y => G74 :: Fs) (fun y => []) [_, _, _, _] (fun y => []) [] (fun y => True) ⟨rfl, trivial⟩ [0, 1, 2, 3] rfl [] rfl ?_ ?_
    ·rintro _ _
     refine .prune [(73, .bool (decide (((u70.2 = 0) ∧ (u87.2 = 0)) ∧ (u54.2 = 0)))), (11, _)] ⟨rfl, rfl, trivial⟩ (.same (bl' := [_, _, _, _]) (sl' := []) (Fs' := G74 :: Fs) rfl rfl rfl (.mv rfl rfl ?_))
     obtain ⟨u109, h110, r111⟩ := bind_some r55
     refine .cutR 5 (β := Hp) (fun y => [(79, .bool u109)]) [] (fun y => y :: Fs) (fun y => []) [_, _, _, _] (fun y => []) [] (fun y => HpLe G74 y ∧ Bd w0 S0 Fs y) trivial [0, 1, 2, 3] rfl [] rfl ?_ ?_
     ·rintro G112 ⟨e113, B114⟩
      refine .prune [(79, .bool u109)] ⟨rfl, trivial⟩ (.same (bl' := [_, _, _, _]) (sl' := []) (Fs' := G112 :: Fs) rfl rfl rfl (.av rfl rfl (.re ?_)))
      cases r111
      refine .drop 4 0 [] _ rfl rfl ?_
      refine .retS (.inr ⟨_, rfl⟩) [.tmp 0] [_] rfl Tryz.func7 Tryz.results7 ⟨RV.tmp rfl, trivial⟩ mcm ⟨rfl, rfl, rfl⟩
     ·intro hb115
      refine .split 74 rfl (fun c116 => ?_) (fun c116 => ?_)
      ·have r117 := ifT h110 c116
       refine .g_on rfl (.q .ro (.fieldAddr 0 rfl fl65_0 ty22.sz rfl) rfl (.g_on rfl (.q .ro (.load_own 0 rfl rfl ty22 rfl) rfl (.g_on rfl ?_))))
       refine .lit [_, _] [(0, _), (1, _)] .ro sl22 ty3 rfl rfl rfl rfl rfl rfl (fun b118 hb118 => ?_)
       have o119 : OL ri G74 [.int .i64 3, .int .i64 4] ([3, 4] : List Int) := ((OL.cons rfl (Rep.intI .i64 3) (OL.cons rfl (Rep.intI .i64 4) (OL.nil (Rp' := ri)))) :)
       refine .reval 77 (n' := ([3, 4] : List Int).length) rfl rfl (.g_on rfl ?_)
       refine .freezeR 0 rfl rfl o119 [] rfl B100 (fun G120 e121 B122 s123 => ?_)
       obtain ⟨u124, hu124, r125⟩ := bind_some r117
       refine .callS (b1 := []) (b2 := [_, _, _, _]) (s1 := []) [_, _] [] .ro rfl rfl Tryz.call31 rfl rfl (ref04_Same_c (G := G120) mcs (SlR.mono e121 s106) s123 hu124) rfl (fun v126 bo so h127 => ?_)
       obtain ⟨rfl, rfl, rfl⟩ := h127
       refine .same (bl' := [_, _, _, _]) (sl' := []) rfl rfl rfl (.q .ro (.pick_t rfl rfl) rfl ?_)
       exact .arr (hb115 G120 ⟨e121, B122⟩) ⟨sval r125, trivial⟩
      ·have r128 := ifF h110 c116
       refine .g_off rfl rfl rfl (.g_off rfl rfl rfl (.g_off rfl rfl rfl (.g_off rfl rfl rfl (.q .ro (.pick_f rfl rfl) rfl ?_))))
       exact .arr (hb115 G74 ⟨(HpLe.refl _), B100⟩) ⟨sval r128, trivial⟩
    ·intro hb129
     refine .split 70 rfl (fun c130 => ?_) (fun c130 => ?_)
     ·refine .g_on rfl ?_
      refine .mv rfl rfl (.g_on rfl (.q .ro (.eql rfl rfl) rfl (.q .ro (.pick_t rfl rfl) rfl ?_)))
      exact .arr (hb129 () trivial) ⟨dand_t c130, rfl, trivial⟩
     ·refine .g_off rfl rfl rfl ?_
      refine .g_off rfl rfl rfl (.q .ro (.pick_f rfl rfl) rfl ?_)
      exact .arr (hb129 () trivial) ⟨dand_f c130, rfl, trivial⟩
   ·intro hb131
    refine .split 66 rfl (fun c132 => ?_) (fun c132 => ?_)
    ·refine .g_on rfl ?_
     refine .mv rfl rfl (.g_on rfl (.q .ro (.eql rfl rfl) rfl (.q .ro (.pick_t rfl rfl) rfl ?_)))
     exact .arr (hb131 () trivial) ⟨dand_t c132, rfl, rfl, trivial⟩
    ·refine .g_off rfl rfl rfl ?_
     refine .g_off rfl rfl rfl (.q .ro (.pick_f rfl rfl) rfl ?_)
     exact .arr (hb131 () trivial) ⟨dand_f c132, rfl, rfl, trivial⟩
 ·intro hb46
  refine .split 29 rfl (fun c45 => ?_) (fun c45 => ?_)
  ·refine .g_off rfl rfl rfl ?_
   refine .g_off rfl rfl rfl (.g_off rfl rfl rfl (.q .ro (.pick_t rfl rfl) rfl ?_))
   exact .arr (hb46 () trivial) ⟨dor_t c45, rfl, rfl, rfl, rfl, trivial⟩
  ·refine .g_on rfl ?_
   refine .mv rfl rfl (.g_on rfl (.q .ro (.len_sl rfl rfl sl51) rfl (.g_on rfl (.q .ro (.neq rfl rfl) rfl (.q .ro (.pick_f rfl rfl) rfl ?_)))))
   exact .arr (hb46 () trivial) ⟨dor_f c45, rfl, rfl, rfl, rfl, trivial⟩
theorem make_Few_c {Fs : List Hp} {G : Hp} {a0 : Option Addr} {k0 : Nat} {x0 : List Int} {r : Bool} (hG : G ∈ Fs) (s0 : SlR ri G a0 k0 x0) (h : make_Few x0 = some r) : RetS Tryz.prog 8 #[.slice a0 x0.length k0] Fs [] [] (fun v bo so => v = .bool r ∧ bo = [] ∧ so = []) := by
 unfold make_Few at h
 try dsimp only at h
 refine RetS.of (vs := [_]) Tryz.func8 rfl Tryz.ntmps8 [(0, _)] ⟨rfl, trivial⟩ rfl hG fun w0 S0 hS0 B0 => ?_
 refine .seq (.region rfl (.av rfl rfl (.re (.seq (.region rfl (.mv rfl rfl (.q .ro (.len_sl rfl rfl sl22) rfl (.q .ro (.leq rfl rfl) rfl (.av rfl rfl (.re ?_))))))))))
 cases h
 refine .retS (.inr ⟨_, rfl⟩) [.tmp 2] [_] rfl Tryz.func8 Tryz.results8 ⟨RV.tmp rfl, trivial⟩ mcm ⟨rfl, rfl, rfl⟩
theorem make_New_c {Fs : List Hp} {G : Hp} {a0 : Option Addr} {k0 : Nat} {x0 : List Int} {r : ((List Int) × Int)} (hG : G ∈ Fs) (s0 : SlR ri G a0 k0 x0) (h : make_New x0 = some r) : RetS Tryz.prog 9 #[.slice a0 x0.length k0] Fs [] [] (fun v bo so => ∃ a0 : Option Addr, ∃ k0 : Nat, ∃ b0 : Nat, v = .pointer (some ⟨b0, 0, none⟩) ∧ bo = [(b0, .cells #[.slice a0 r.1.length k0, .int .i64 r.2] 121 (0, 0))] ∧ so = [] ∧ SlR ri G a0 k0 r.1) := by
 unfold make_New at h
 try dsimp only at h
 refine RetS.of (vs := [_]) Tryz.func9 rfl Tryz.ntmps9 [(0, _)] ⟨rfl, trivial⟩ rfl hG fun w0 S0 hS0 B0 => ?_
 refine .seq (.region rfl (.av rfl rfl (.re (.seq (.region rfl (.mv rfl rfl (.q .ro (.build [_, _] [(0, _)] ty121 pl121 rfl rfl) rfl ?_)))))))
 refine .box [_, _] .ro rfl rfl rfl (fun b1 hb1 => ?_)
 refine .av rfl rfl (.re ?_)
 cases h
 refine .retS (.inr ⟨_, rfl⟩) [.tmp 2] [_] rfl Tryz.func9 Tryz.results9 ⟨RV.tmp rfl, trivial⟩ mcm ⟨a0, k0, _, rfl, rfl, rfl, s0⟩
theorem make_Mod_c {Fs : List Hp} {G : Hp} {x0 : Int} {x1 : Int} {r : Int} (hG : G ∈ Fs)  (h : make_Mod x0 x1 = some r) : RetS Tryz.prog 62 #[.int .i64 x0, .int .i64 x1] Fs [] [] (fun v bo so => v = .int .i64 r ∧ bo = [] ∧ so = []) := by
 unfold make_Mod at h
 try dsimp only at h
 refine RetS.of (vs := [_, _]) Tryz.func62 rfl Tryz.ntmps62 [(0, _), (1, _)] ⟨rfl, rfl, trivial⟩ rfl hG fun w0 S0 hS0 B0 => ?_
 refine .seq (.region rfl (.av rfl rfl (.re (.seq (.region rfl (.mv rfl rfl (.mv rfl rfl ?_)))))))
 obtain ⟨u1, hu1, r2⟩ := bind_some h
 refine .q .ro (.remt rfl rfl (nz_some hu1)) rfl (.mv rfl rfl (.q .ro (.addw rfl rfl) rfl (.mv rfl rfl ?_)))
 obtain ⟨u3, hu3, r4⟩ := bind_some r2
 refine .q .ro (.remt rfl rfl (nz_some hu3)) rfl (.av rfl rfl (.re ?_))
 cases r4
 refine .retS (.inr ⟨_, rfl⟩) [.tmp 4] [_] rfl Tryz.func62 Tryz.results62 ⟨RV.tmp rfl, trivial⟩ mcm ⟨rfl, rfl, rfl⟩
theorem make_Deck_Next_c {Fs : List Hp} {G : Hp} {p0 : Nat} {a0_0 : Option Addr} {k0_0 : Nat} {x0_0 : List Int} {x0_1 : Int} {x1 : Int} {r : (Int × ((List Int) × Int))} (hG : G ∈ Fs) (s0_0 : SlR ri G a0_0 k0_0 x0_0) (h : make_Deck_Next (x0_0, x0_1) x1 = some r) : RetS Tryz.prog 18 #[.pointer (some ⟨p0, 0, none⟩), .int .i64 x1] Fs [(p0, .cells #[.slice a0_0 x0_0.length k0_0, .int .i64 x0_1] 121 (0, 0))] [] (fun v bo so => ∃ a0 : Option Addr, ∃ k0 : Nat, v = .int .i64 r.1 ∧ bo = [(p0, .cells #[.slice a0 r.2.1.length k0, .int .i64 r.2.2] 121 (0, 0))] ∧ so = [] ∧ SlR ri G a0 k0 r.2.1) := by
 unfold make_Deck_Next at h
 try dsimp only at h
 refine RetS.of (vs := [_, _]) Tryz.func18 rfl Tryz.ntmps18 [(0, _), (1, _)] ⟨rfl, rfl, trivial⟩ rfl hG fun w0 S0 hS0 B0 => ?_
 refine .seq (.region rfl (.av rfl rfl (.re (.seq (.seq (.drawL (.q 0 (.q 1 (.q 2 (.q 3 (.q 4 (.q 5 (.q 6 (.q 7 (.q 8 (.q 9 (.q 10 (.q 11 (.q 12 (.q 13 .nil)))))))))))))) [_] (by kernel_rfl) (by kernel_rfl) (pick_mem [0] rfl) (.dq (.move rfl) rfl (.dq (.lss rfl rfl) rfl (.dq (.move rfl) rfl ?_)))))))))
 refine .cutD 11 (β := Unit) (fun y => [(19, .bool (decide ((x1 < 1) ∨ ((x0_0.length : Int) ≤ x0_1))))]) [(0, _), (1, _)] (fun y => G :: Fs) (fun y => []) [_] (fun y => []) [] (fun y => True) ⟨rfl, rfl, trivial⟩ [0] rfl [] rfl ?_ ?_
 ·rintro _ _
  refine .prune [(19, .bool (decide ((x1 < 1) ∨ ((x0_0.length : Int) ≤ x0_1)))), (0, _), (1, _)] ⟨rfl, rfl, rfl, trivial⟩ (.same (bl' := [_]) (sl' := []) (Fs' := G :: Fs) rfl rfl rfl (.draw_end ?_))
  refine .cond_dec rfl (fun c5 => ?_) (fun c5 => ?_)
  ·have r6 := ifT h c5; clear h
   refine .seq (.region rfl (.av rfl rfl (.re ?_)))
   cases r6
   refine .retS (.inr ⟨_, rfl⟩) [.tmp 4] [_] rfl Tryz.func18 Tryz.results18 ⟨RV.tmp rfl, trivial⟩ mcm ⟨a0_0, k0_0, rfl, rfl, rfl, s0_0⟩
  ·have r7 := ifF h c5; clear h
   refine .skip (.seq (.drawL (.q 0 (.q 1 (.q 2 (.q 3 (.q 4 (.q 5 (.q 6 (.q 7 (.q 8 (.q 9 (.q 10 .nil))))))))))) [_] (by kernel_rfl) (by kernel_rfl) (pick_mem [0] rfl) (.dq (.move rfl) rfl (.dq (.nilCheck rfl rfl) rfl (.dq (.fieldAddr 0 rfl fl121_0 ty22.sz rfl) rfl (.dq (.load_own 0 rfl rfl ty22 rfl) rfl (.dq (.move rfl) rfl (.dq (.nilCheck rfl rfl) rfl (.dq (.fieldAddr 1 rfl fl121_1 ty3.sz rfl) rfl (.dq (.load_own 0 rfl rfl ty3 rfl) rfl ?_))))))))))
   obtain ⟨u8, hu8, r9⟩ := bind_some r7
   obtain ⟨c10, p11, h12⟩ := SlR.get s0_0 hu8
   obtain rfl := h12
   refine .dq (.idxR s0_0 rfl rfl hu8 sl22 ty3.sz) rfl (.dq (.load_rp p11 mcs rfl ty3 rfl) rfl (.dq (.assign rfl) rfl (.draw_end (.seq (.region rfl (.mv rfl rfl (.q .ro (.nilCheck rfl rfl) rfl (.q .ro (.fieldAddr 1 rfl fl121_1 ty3.sz rfl) rfl (.q .ro (.load_own 0 rfl rfl ty3 rfl) rfl (.q .ro (.addw rfl rfl) rfl (.q .ro (.nilCheck rfl rfl) rfl (.q .ro (.fieldAddr 1 rfl fl121_1 ty3.sz rfl) rfl (.store 0 [_, _] [_] .ro rfl rfl rfl ty3 rfl rfl rfl rfl (.re (.prune [(1, _), (5, _)] ⟨rfl, rfl, trivial⟩ (.seq (.region rfl (.mv rfl rfl (.mv rfl rfl ?_)))))))))))))))))))
   obtain ⟨u13, hu13, r14⟩ := bind_some r9
   refine .callS (b1 := []) (b2 := [_]) (s1 := []) [_, _] [] .ro rfl rfl Tryz.call62 rfl rfl (make_Mod_c (G := G) mcs  hu13) rfl (fun v16 bo so h15 => ?_)
   obtain ⟨rfl, rfl, rfl⟩ := h15
   refine .same (bl' := [_]) (sl' := []) rfl rfl rfl (.av rfl rfl (.re ?_))
   cases r14
   refine .retS (.inr ⟨_, rfl⟩) [.tmp 4] [_] rfl Tryz.func18 Tryz.results18 ⟨RV.tmp rfl, trivial⟩ mcm ⟨a0_0, k0_0, rfl, rfl, rfl, s0_0⟩
 ·intro hb2
  refine .split 8 rfl (fun c1 => ?_) (fun c1 => ?_)
  ·refine .dgq_off rfl rfl rfl ?_
   refine .dgq_off rfl rfl rfl (.dgq_off rfl rfl rfl (.dgq_off rfl rfl rfl (.dgq_off rfl rfl rfl (.dgq_off rfl rfl rfl (.dgq_off rfl rfl rfl (.dgq_off rfl rfl rfl (.dgq_off rfl rfl rfl (.dgq_off rfl rfl rfl (.dq (.pick_t rfl rfl) rfl ?_)))))))))
   exact .arr (hb2 () trivial) ⟨dor_t c1, rfl, rfl, trivial⟩
  ·refine .dgq_on rfl ?_
   refine .dq (.move rfl) rfl (.dgq_on rfl (.dq (.nilCheck rfl rfl) rfl (.dgq_on rfl (.dq (.fieldAddr 1 rfl fl121_1 ty3.sz rfl) rfl (.dgq_on rfl (.dq (.load_own 0 rfl rfl ty3 rfl) rfl (.dgq_on rfl (.dq (.move rfl) rfl (.dgq_on rfl (.dq (.nilCheck rfl rfl) rfl (.dgq_on rfl (.dq (.fieldAddr 0 rfl fl121_0 ty22.sz rfl) rfl (.dgq_on rfl (.dq (.load_own 0 rfl rfl ty22 rfl) rfl (.dgq_on rfl (.dq (.len_sl rfl rfl sl22) rfl (.dgq_on rfl (.dq (.geq rfl rfl) rfl (.dq (.pick_f rfl rfl) rfl ?_)))))))))))))))))))
   exact .arr (hb2 () trivial) ⟨dor_f c1, rfl, rfl, trivial⟩
theorem make_Elements_c {Fs : List Hp} {G : Hp} {p0 : Nat} {a0_0 : Option Addr} {k0_0 : Nat} {x0_0 : List Int} {x0_1 : Int} {x1_0 : Int} {x2 : Int} {r : ((List Int) × ((List Int) × Int))} (hG : G ∈ Fs) (s0_0 : SlR ri G a0_0 k0_0 x0_0) (h : make_Elements (x0_0, x0_1) x1_0 x2 = some r) : RetS Tryz.prog 63 #[.pointer (some ⟨p0, 0, none⟩), .agg #[.int .i64 x1_0], .int .i64 x2] Fs [(p0, .cells #[.slice a0_0 x0_0.length k0_0, .int .i64 x0_1] 121 (0, 0))] [] (fun v bo so => ∃ a0 : Option Addr, ∃ k0 : Nat, ∃ (oa0 : Option Addr) (ok0 : Nat) (oc0 : List Value), v = .slice oa0 r.1.length ok0 ∧ bo = [(p0, .cells #[.slice a0 r.2.1.length k0, .int .i64 r.2.2] 121 (0, 0))] ∧ so = [.s (.slice oa0 r.1.length ok0) 3 1 r.1.length oc0] ∧ SlR ri G a0 k0 r.2.1 ∧ OL ri G oc0 r.1) := by
 unfold make_Elements at h
 try dsimp only at h
 refine RetS.of (vs := [_, _, _]) Tryz.func63 rfl Tryz.ntmps63 [(0, _), (1, _), (2, _)] ⟨rfl, rfl, rfl, trivial⟩ rfl hG fun w0 S0 hS0 B0 => ?_
 refine .seq (.region rfl ?_)
 refine .box [_] .ro rfl rfl rfl (fun b1 hb1 => ?_)
 refine .av rfl rfl (.re (.seq (.region rfl (.av rfl rfl (.re (.seq (.seq (.region rfl (.mv rfl rfl (.mv rfl rfl (.re (.block (.own_nil 3 1 (.pull 1 rfl [_, _] rfl ?_))))))))))))))
 refine .loop2 (α := Nat × List Int × Option Addr × Nat × List Value × Int × List Int × Option Addr × Nat × Int) (fun y => [(7, .slice y.2.2.1 y.2.1.length y.2.2.2.1), (9, .int .i64 y.2.2.2.2.2.1)]) [(0, _), (4, _), (8, _)] (fun y => []) (fun y => [(p0, .cells #[.slice y.2.2.2.2.2.2.2.1 y.2.2.2.2.2.2.1.length y.2.2.2.2.2.2.2.2.1, .int .i64 y.2.2.2.2.2.2.2.2.2] 121 (0, 0))]) [_] (fun y => [.s (.slice y.2.2.1 y.2.1.length y.2.2.2.1) 3 1 y.2.1.length y.2.2.2.2.1]) [] (fun y => OL ri G y.2.2.2.2.1 y.2.1 ∧ SlR ri G y.2.2.2.2.2.2.2.1 y.2.2.2.2.2.2.2.2.1 y.2.2.2.2.2.2.1 ∧ make_Elements_L1 x2 x1_0 y.1 y.2.1 y.2.2.2.2.2.1 y.2.2.2.2.2.2.1 y.2.2.2.2.2.2.2.2.2 = some r) (fun y => y.1) (big, ([] : List Int), none, 0, [], 0, x0_0, a0_0, k0_0, x0_1) ⟨(OL.nil (Rp' := ri)), s0_0, h⟩ ⟨rfl, rfl, rfl, rfl, rfl, trivial⟩ rfl rfl rfl (fun y hI hb71 => ?_)
 obtain ⟨n56, v58, a59, k60, cs61, v64, v65, a66, k67, v69⟩ := y
 obtain ⟨o62, s68, r70⟩ := hI
 try dsimp only at o62 s68 r70
 refine .prune [(7, .slice a59 v58.length k60), (9, .int .i64 v64), (0, _), (4, _), (8, _)] ⟨rfl, rfl, rfl, rfl, rfl, trivial⟩ (.same (bl' := [(p0, .cells #[.slice a66 v65.length k67, .int .i64 v69] 121 (0, 0)), _]) (sl' := [.s (.slice a59 v58.length k60) 3 1 v58.length cs61]) (Fs' := G :: Fs) rfl rfl rfl ?_)
 obtain ⟨m75, rfl⟩ : ∃ m, n56 = m + 1 := by cases n56 with | zero => exact absurd (show (none : Option _) = some _ from r70) (by simp) | succ m => exact ⟨m, rfl⟩
 have r74 : make_Elements_B1 x2 x1_0 (make_Elements_L1 x2 x1_0 m75) v58 v64 v65 v69 = some r := r70; clear r70; unfold make_Elements_B1 at r74; try dsimp only at r74
 refine .seq (.region rfl (.q .ro (.lss rfl rfl) rfl (.re (.seq ?_))))
 refine .cond_dec rfl (fun c76 => ?_) (fun c76 => ?_)
 ·have r77 := ifT r74 c76; clear r74
  refine .skip (.seq (.block (.region rfl (.mv rfl rfl (.mv rfl rfl (.q .ro (.fieldAddr 0 rfl fl45_0 ty3.sz rfl) rfl (.q .ro (.load_own 1 rfl rfl ty3 rfl) rfl ?_)))))))
  obtain ⟨u78, hu78, r79⟩ := bind_some r77
  refine .callS (b1 := [_]) (b2 := [_]) (s1 := []) [_, _] [] .ro rfl rfl Tryz.call18 rfl rfl (make_Deck_Next_c (G := G) mcs s68 hu78) rfl (fun v81 bo so h80 => ?_)
  obtain ⟨a82, k83, rfl, rfl, rfl, s84⟩ := h80
  refine .same (bl' := [_, _]) (sl' := [_]) rfl rfl rfl ?_
  refine .lit [_] [(0, _)] .ro sl22 ty3 rfl rfl rfl rfl rfl rfl (fun b85 hb85 => ?_)
  have o86 : OL ri G [.int .i64 u78.1] ([u78.1] : List Int) := ((OL.cons rfl (Rep.intI .i64 u78.1) (OL.nil (Rp' := ri))) :)
  refine .reval 16 (n' := ([u78.1] : List Int).length) rfl rfl ?_
  obtain ⟨u92, hu92, r93⟩ := bind_some r79
  refine .appO (Q := ri) 0 .ro sl22 ty3 rfl rfl rfl rfl rfl rfl o62 o86 rfl rfl rfl B0 hu92 rfl (fun a88 k89 cs90 o91 => ?_)
  refine .av rfl rfl (.re (.inBlock (.region rfl (.q .ro (.addw rfl rfl) rfl (.mv rfl rfl (.re ?_))))))
  exact .arr (hb71 (m75, u92, a88, k89, cs90, (w64 (v64 + 1)), u78.2.1, a82, k83, u78.2.2) ⟨o91, s84, r93⟩ (Nat.lt_succ_self _)) ⟨rfl, rfl, rfl, rfl, rfl, trivial⟩
 ·have r95 := ifF r74 c76; clear r74
  refine .exit rfl (.seq (.region rfl (.mv rfl rfl (.av rfl rfl (.re ?_)))))
  cases r95
  refine .pull 1 rfl [_, _] rfl (.drop 1 0 [_] _ rfl rfl ?_)
  refine .retS (.inr ⟨_, rfl⟩) [.tmp 6] [_] rfl Tryz.func63 Tryz.results63 ⟨RV.tmp rfl, trivial⟩ mcm ⟨a66, k67, a59, k60, cs61, rfl, rfl, rfl, s68, o62⟩
theorem make_Rows_c {Fs : List Hp} {G : Hp} {p0 : Nat} {a0_0 : Option Addr} {k0_0 : Nat} {x0_0 : List Int} {x0_1 : Int} {x1_0 : Int} {x2 : Int} {x3 : Int} {r : ((List (List Int)) × ((List Int) × Int))} (hG : G ∈ Fs) (s0_0 : SlR ri G a0_0 k0_0 x0_0) (h : make_Rows (x0_0, x0_1) x1_0 x2 x3 = some r) : RetW Tryz.prog 19 #[.pointer (some ⟨p0, 0, none⟩), .agg #[.int .i64 x1_0], .int .i64 x2, .int .i64 x3] Fs [(p0, .cells #[.slice a0_0 x0_0.length k0_0, .int .i64 x0_1] 121 (0, 0))] [] (fun v bo so G => ∃ a0 : Option Addr, ∃ k0 : Nat, ∃ (oa0 : Option Addr) (ok0 : Nat) (oc0 : List Value), v = .slice oa0 r.1.length ok0 ∧ bo = [(p0, .cells #[.slice a0 r.2.1.length k0, .int .i64 r.2.2] 121 (0, 0))] ∧ so = [.s (.slice oa0 r.1.length ok0) 22 1 r.1.length oc0] ∧ SlR ri G a0 k0 r.2.1 ∧ OL (Rep.sl ri) G oc0 r.1) := by
 unfold make_Rows at h
 try dsimp only at h
 refine RetW.of (vs := [_, _, _, _]) Tryz.func19 rfl Tryz.ntmps19 [(0, _), (1, _), (2, _), (3, _)] ⟨rfl, rfl, rfl, rfl, trivial⟩ rfl hG fun w0 S0 hS0 B0 => ?_
 refine .seq (.region rfl ?_)
 refine .box [_] .ro rfl rfl rfl (fun b1 hb1 => ?_)
 refine .av rfl rfl (.re (.seq (.region rfl (.av rfl rfl (.re (.seq (.seq (.region rfl (.mv rfl rfl (.mv rfl rfl (.re (.block (.own_nil 22 1 (.pull 1 rfl [_, _] rfl ?_))))))))))))))
 refine .loop2 (α := Nat × Hp × List (List Int) × Option Addr × Nat × List Value × Int × List Int × Option Addr × Nat × Int) (fun y => [(9, .slice y.2.2.2.1 y.2.2.1.length y.2.2.2.2.1), (11, .int .i64 y.2.2.2.2.2.2.1)]) [(0, _), (3, _), (5, _), (10, _)] (fun y => [y.2.1]) (fun y => [(p0, .cells #[.slice y.2.2.2.2.2.2.2.2.1 y.2.2.2.2.2.2.2.1.length y.2.2.2.2.2.2.2.2.2.1, .int .i64 y.2.2.2.2.2.2.2.2.2.2] 121 (0, 0))]) [_] (fun y => [.s (.slice y.2.2.2.1 y.2.2.1.length y.2.2.2.2.1) 22 1 y.2.2.1.length y.2.2.2.2.2.1]) [] (fun y => HpLe G y.2.1 ∧ Bd w0 S0 Fs y.2.1 ∧ OL (Rep.sl ri) y.2.1 y.2.2.2.2.2.1 y.2.2.1 ∧ SlR ri y.2.1 y.2.2.2.2.2.2.2.2.1 y.2.2.2.2.2.2.2.2.2.1 y.2.2.2.2.2.2.2.1 ∧ make_Rows_L1 x3 x2 x1_0 y.1 y.2.2.1 y.2.2.2.2.2.2.1 y.2.2.2.2.2.2.2.1 y.2.2.2.2.2.2.2.2.2.2 = some r) (fun y => y.1) (big, G, ([] : List (List Int)), none, 0, [], 0, x0_0, a0_0, k0_0, x0_1) ⟨(HpLe.refl _), B0, (OL.nil (Rp' := (Rep.sl ri))), s0_0, h⟩ ⟨rfl, rfl, rfl, rfl, rfl, rfl, trivial⟩ rfl rfl rfl (fun y hI hb95 => ?_)
 obtain ⟨n76, G78, v82, a83, k84, cs85, v88, v89, a90, k91, v93⟩ := y
 obtain ⟨e79, B80, o86, s92, r94⟩ := hI
 try dsimp only at e79 B80 o86 s92 r94
 refine .prune [(9, .slice a83 v82.length k84), (11, .int .i64 v88), (0, _), (3, _), (5, _), (10, _)] ⟨rfl, rfl, rfl, rfl, rfl, rfl, trivial⟩ (.same (bl' := [(p0, .cells #[.slice a90 v89.length k91, .int .i64 v93] 121 (0, 0)), _]) (sl' := [.s (.slice a83 v82.length k84) 22 1 v82.length cs85]) (Fs' := G78 :: Fs) rfl rfl rfl ?_)
 obtain ⟨m10, rfl⟩ : ∃ m, n76 = m + 1 := by cases n76 with | zero => exact absurd (show (none : Option _) = some _ from r94) (by simp) | succ m => exact ⟨m, rfl⟩
 have r99 : make_Rows_B1 x3 x2 x1_0 (make_Rows_L1 x3 x2 x1_0 m10) v82 v88 v89 v93 = some r := r94; clear r94; unfold make_Rows_B1 at r99; try dsimp only at r99
 refine .seq (.region rfl (.q .ro (.lss rfl rfl) rfl (.re (.seq ?_))))
 refine .cond_dec rfl (fun c11 => ?_) (fun c11 => ?_)
 ·have r12 := ifT r99 c11; clear r99
  refine .skip (.seq (.block (.region rfl (.mv rfl rfl (.mv rfl rfl (.q .ro (.load_own_a 1 [_] rfl rfl ty45 rfl) rfl (.mv rfl rfl ?_)))))))
  obtain ⟨u13, hu13, r14⟩ := bind_some r12
  refine .callS (b1 := [_]) (b2 := [_]) (s1 := []) [_, _, _] [] .ro rfl rfl Tryz.call63 rfl rfl (make_Elements_c (G := G78) mcs s92 hu13) rfl (fun v15 bo so h16 => ?_)
  obtain ⟨a17, k18, a20, k21, cs23, rfl, rfl, rfl, s24, o25⟩ := h16
  refine .same (bl' := [_, _]) (sl' := [_, _]) rfl rfl rfl ?_
  refine .freezeR 0 rfl rfl o25 [_] rfl B80 (fun G26 e27 B28 s29 => ?_)
  refine .lit [_] [(0, _)] .ro sl51 ty22 rfl rfl rfl rfl rfl rfl (fun b30 hb30 => ?_)
  have o31 : OL (Rep.sl ri) G26 [.slice a20 u13.1.length k21] ([u13.1] : List (List Int)) := ((OL.cons rfl (Rep.slI s29) (OL.nil (Rp' := (Rep.sl ri)))) :)
  refine .reval 18 (n' := ([u13.1] : List (List Int)).length) rfl rfl ?_
  obtain ⟨u32, hu32, r33⟩ := bind_some r14
  refine .appO (Q := (Rep.sl ri)) 0 .ro sl51 ty22 rfl rfl rfl rfl rfl rfl (OL.mono e27 o86) o31 rfl rfl rfl B28 hu32 rfl (fun a34 k35 cs36 o37 => ?_)
  refine .av rfl rfl (.re (.inBlock (.region rfl (.q .ro (.addw rfl rfl) rfl (.mv rfl rfl (.re ?_))))))
  exact .arr (hb95 (m10, G26, u32, a34, k35, cs36, (w64 (v88 + 1)), u13.2.1, a17, k18, u13.2.2) ⟨(HpLe.trans e79 e27), B28, o37, (SlR.mono e27 s24), r33⟩ (Nat.lt_succ_self _)) ⟨rfl, rfl, rfl, rfl, rfl, rfl, trivial⟩
 ·have r38 := ifF r99 c11; clear r99
  refine .exit rfl (.seq (.region rfl (.mv rfl rfl (.av rfl rfl (.re ?_)))))
  cases r38
  refine .pull 1 rfl [_, _] rfl (.drop 1 0 [_] _ rfl rfl ?_)
  refine .retW (.inr ⟨_, rfl⟩) [.tmp 8] [_] rfl Tryz.func19 Tryz.results19 ⟨RV.tmp rfl, trivial⟩ mcm mcs B80 (by subst hS0; simp [blks]) (fun G' hg => ⟨a90, k91, a83, k84, cs85, rfl, rfl, rfl, (SlR.mono hg s92), (OL.mono hg o86)⟩)
theorem parity_check_c {Fs : List Hp} {G : Hp} {x0_0 : Int} {x1 : Int} {x2 : Int} {r : Int} (hG : G ∈ Fs)  (h : parity_check x0_0 x1 x2 = some r) : RetS Tryz.prog 64 #[.agg #[.int .i64 x0_0], .int .i64 x1, .int .i64 x2] Fs [] [] (fun v bo so => v = .int .i64 r ∧ bo = [] ∧ so = []) := by
 unfold parity_check at h
 try dsimp only at h
 refine RetS.of (vs := [_, _, _]) Tryz.func64 rfl Tryz.ntmps64 [(0, _), (1, _), (2, _)] ⟨rfl, rfl, rfl, trivial⟩ rfl hG fun w0 S0 hS0 B0 => ?_
 refine .seq (.region rfl ?_)
 refine .box [_] .ro rfl rfl rfl (fun b1 hb1 => ?_)
 refine .av rfl rfl (.re (.seq (.seq (.region rfl (.q .ro (.load_own_a 0 [_] rfl rfl ty45 rfl) rfl ?_)))))
 obtain ⟨u2, hu2, r3⟩ := bind_some h
 refine .callS (b1 := []) (b2 := [_]) (s1 := []) [_] [] .ro rfl rfl Tryz.call72 rfl rfl (residue_Of_c (G := G) mcs  hu2) rfl (fun v5 bo so h4 => ?_)
 obtain ⟨rfl, rfl, rfl⟩ := h4
 refine .same (bl' := [_]) (sl' := []) rfl rfl rfl (.mv rfl rfl (.q .ro (.extract rfl rfl) rfl (.q .ro (.extract rfl rfl) rfl (.av rfl rfl (.av rfl rfl (.re (.seq (.region rfl (.mv rfl rfl (.q .ro (.not rfl) rfl (.re ?_)))))))))))
 refine .cond rfl (fun c6 => ?_) (fun c6 => ?_)
 ·have r7 := ifT r3 c6; clear r3
  refine .seq (.region rfl (.av rfl rfl (.re (.prune [(6, _)] ⟨rfl, trivial⟩ ?_))))
  cases r7
  refine .drop 1 0 [] _ rfl rfl ?_
  refine .retS (.inr ⟨_, rfl⟩) [.tmp 6] [_] rfl Tryz.func64 Tryz.results64 ⟨RV.tmp rfl, trivial⟩ mcm ⟨rfl, rfl, rfl⟩
 ·have r8 := ifBF r3 c6; clear r3
  refine .skip (.seq (.seq (.region rfl (.mv rfl rfl (.q .ro (.lss rfl rfl) rfl (.mv rfl rfl ?_))))))
  refine .cutR 3 (β := Unit) (fun y => [(21, .bool (decide ((x2 < 2) ∨ (10 < x2))))]) [(1, _)] (fun y => G :: Fs) (fun y => []) [_] (fun y => []) [] (fun y => True) ⟨rfl, trivial⟩ [0] rfl [] rfl ?_ ?_
  ·rintro _ _
   refine .prune [(21, .bool (decide ((x2 < 2) ∨ (10 < x2)))), (1, _)] ⟨rfl, rfl, trivial⟩ (.same (bl' := [_]) (sl' := []) (Fs' := G :: Fs) rfl rfl rfl (.mv rfl rfl ?_))
   refine .cutR 3 (β := Unit) (fun y => [(25, .bool (decide (((x2 < 2) ∨ (10 < x2)) ∨ (x1 < 1))))]) [(1, _)] (fun y => G :: Fs) (fun y => []) [_] (fun y => []) [] (fun y => True) ⟨rfl, trivial⟩ [0] rfl [] rfl ?_ ?_
   ·rintro _ _
    refine .prune [(25, .bool (decide (((x2 < 2) ∨ (10 < x2)) ∨ (x1 < 1)))), (1, _)] ⟨rfl, rfl, trivial⟩ (.same (bl' := [_]) (sl' := []) (Fs' := G :: Fs) rfl rfl rfl (.mv rfl rfl ?_))
    refine .cutR 3 (β := Unit) (fun y => [(29, .bool (decide ((((x2 < 2) ∨ (10 < x2)) ∨ (x1 < 1)) ∨ (1024 < x1))))]) [] (fun y => G :: Fs) (fun y => []) [_] (fun y => []) [] (fun y => True) trivial [0] rfl [] rfl ?_ ?_
    ·rintro _ _
     refine .prune [(29, .bool (decide ((((x2 < 2) ∨ (10 < x2)) ∨ (x1 < 1)) ∨ (1024 < x1))))] ⟨rfl, trivial⟩ (.same (bl' := [_]) (sl' := []) (Fs' := G :: Fs) rfl rfl rfl (.re ?_))
     refine .cond_dec rfl (fun c21 => ?_) (fun c21 => ?_)
     ·have r22 := ifT r8 c21; clear r8
      refine .seq (.region rfl (.av rfl rfl (.re ?_)))
      cases r22
      refine .drop 1 0 [] _ rfl rfl ?_
      refine .retS (.inr ⟨_, rfl⟩) [.tmp 6] [_] rfl Tryz.func64 Tryz.results64 ⟨RV.tmp rfl, trivial⟩ mcm ⟨rfl, rfl, rfl⟩
     ·have r23 := ifF r8 c21; clear r8
      refine .skip (.seq (.region rfl (.av rfl rfl (.re ?_))))
      cases r23
      refine .drop 1 0 [] _ rfl rfl ?_
      refine .retS (.inr ⟨_, rfl⟩) [.tmp 6] [_] rfl Tryz.func64 Tryz.results64 ⟨RV.tmp rfl, trivial⟩ mcm ⟨rfl, rfl, rfl⟩
    ·intro hb18
     refine .split 26 rfl (fun c17 => ?_) (fun c17 => ?_)
     ·refine .g_off rfl rfl rfl ?_
      refine .g_off rfl rfl rfl (.q .ro (.pick_t rfl rfl) rfl ?_)
      exact .arr (hb18 () trivial) ⟨dor_t c17, trivial⟩
     ·refine .g_on rfl ?_
      refine .mv rfl rfl (.g_on rfl (.q .ro (.gtr rfl rfl) rfl (.q .ro (.pick_f rfl rfl) rfl ?_)))
      exact .arr (hb18 () trivial) ⟨dor_f c17, trivial⟩
   ·intro hb14
    refine .split 22 rfl (fun c13 => ?_) (fun c13 => ?_)
    ·refine .g_off rfl rfl rfl ?_
     refine .g_off rfl rfl rfl (.q .ro (.pick_t rfl rfl) rfl ?_)
     exact .arr (hb14 () trivial) ⟨dor_t c13, rfl, trivial⟩
    ·refine .g_on rfl ?_
     refine .mv rfl rfl (.g_on rfl (.q .ro (.lss rfl rfl) rfl (.q .ro (.pick_f rfl rfl) rfl ?_)))
     exact .arr (hb14 () trivial) ⟨dor_f c13, rfl, trivial⟩
  ·intro hb10
   refine .split 18 rfl (fun c9 => ?_) (fun c9 => ?_)
   ·refine .g_off rfl rfl rfl ?_
    refine .g_off rfl rfl rfl (.q .ro (.pick_t rfl rfl) rfl ?_)
    exact .arr (hb10 () trivial) ⟨dor_t c9, rfl, trivial⟩
   ·refine .g_on rfl ?_
    refine .mv rfl rfl (.g_on rfl (.q .ro (.gtr rfl rfl) rfl (.q .ro (.pick_f rfl rfl) rfl ?_)))
    exact .arr (hb10 () trivial) ⟨dor_f c9, rfl, trivial⟩
theorem parity_Limits_c {Fs : List Hp} {G : Hp} {x0_0 : Int} {x1 : Int} {x2 : Int} {r : ((List Int) × Int)} (hG : G ∈ Fs)  (h : parity_Limits x0_0 x1 x2 = some r) : RetS Tryz.prog 20 #[.agg #[.int .i64 x0_0], .int .i64 x1, .int .i64 x2] Fs [] [] (fun v bo so => ∃ (oa0 : Option Addr) (ok0 : Nat) (oc0 : List Value), v = .tuple #[.slice oa0 r.1.length ok0, .int .i64 r.2] ∧ bo = [] ∧ so = [.s (.slice oa0 r.1.length ok0) 3 1 r.1.length oc0] ∧ OL ri G oc0 r.1) := by
 unfold parity_Limits at h
 try dsimp only at h
 refine RetS.of (vs := [_, _, _]) Tryz.func20 rfl Tryz.ntmps20 [(0, _), (1, _), (2, _)] ⟨rfl, rfl, rfl, trivial⟩ rfl hG fun w0 S0 hS0 B0 => ?_
 refine .seq (.region rfl ?_)
 refine .box [_] .ro rfl rfl rfl (fun b1 hb1 => ?_)
 refine .av rfl rfl (.av rfl rfl (.re (.seq (.seq (.region rfl (.q .ro (.load_own_a 0 [_] rfl rfl ty45 rfl) rfl (.mv rfl rfl (.mv rfl rfl ?_))))))))
 obtain ⟨u2, hu2, r3⟩ := bind_some h
 refine .callS (b1 := []) (b2 := [_]) (s1 := []) [_, _, _] [] .ro rfl rfl Tryz.call64 rfl rfl (parity_check_c (G := G) mcs  hu2) rfl (fun v5 bo so h4 => ?_)
 obtain ⟨rfl, rfl, rfl⟩ := h4
 refine .same (bl' := [_]) (sl' := []) rfl rfl rfl (.av rfl rfl (.re (.seq (.region rfl (.mv rfl rfl (.q .ro (.neq rfl rfl) rfl (.re ?_)))))))
 refine .cond_dec rfl (fun c6 => ?_) (fun c6 => ?_)
 ·have r7 := ifT r3 c6; clear r3
  refine .seq (.region rfl (.mv rfl rfl (.av rfl rfl (.av rfl rfl (.re (.own_nil 3 1 ?_))))))
  cases r7
  refine .drop 1 0 [] _ rfl rfl ?_
  refine .retS (.inr ⟨_, rfl⟩) [.tmp 6, .tmp 7] [_, _] rfl Tryz.func20 Tryz.results20 ⟨RV.tmp rfl, RV.tmp rfl, trivial⟩ mcm ⟨none, 0, [], rfl, rfl, rfl, (OL.nil (Rp' := ri))⟩
 ·have r9 := ifF r3 c6; clear r3
  refine .skip (.seq (.region rfl (.av rfl rfl (.re (.seq (.seq (.region rfl (.mv rfl rfl (.mv rfl rfl (.q .ro (.subw rfl rfl) rfl (.q .ro (.mulw rfl rfl) rfl (.mv rfl rfl (.re (.prune [(3, _), (9, _), (20, _), (21, _)] ⟨rfl, rfl, rfl, rfl, trivial⟩ (.block (.own_nil 3 1 ?_))))))))))))))))
  refine .loop2 (α := Nat × List Int × Option Addr × Nat × List Value × Int) (fun y => [(9, .slice y.2.2.1 y.2.1.length y.2.2.2.1), (21, .int .i64 y.2.2.2.2.2)]) [(3, _), (20, _)] (fun y => []) (fun y => []) [_] (fun y => [.s (.slice y.2.2.1 y.2.1.length y.2.2.2.1) 3 1 y.2.1.length y.2.2.2.2.1]) [] (fun y => OL ri G y.2.2.2.2.1 y.2.1 ∧ parity_Limits_L1 (w64 (x1 * (w64 (x2 - 1)))) x0_0 y.1 y.2.1 y.2.2.2.2.2 = some r) (fun y => y.1) (big, ([] : List Int), none, 0, [], 0) ⟨(OL.nil (Rp' := ri)), r9⟩ ⟨rfl, rfl, rfl, rfl, trivial⟩ rfl rfl rfl (fun y hI hb58 => ?_)
  obtain ⟨n48, v50, a51, k52, cs53, v56⟩ := y
  obtain ⟨o54, r57⟩ := hI
  try dsimp only at o54 r57
  refine .prune [(9, .slice a51 v50.length k52), (21, .int .i64 v56), (3, _), (20, _)] ⟨rfl, rfl, rfl, rfl, trivial⟩ (.same (bl' := [_]) (sl' := [.s (.slice a51 v50.length k52) 3 1 v50.length cs53]) (Fs' := G :: Fs) rfl rfl rfl ?_)
  obtain ⟨m62, rfl⟩ : ∃ m, n48 = m + 1 := by cases n48 with | zero => exact absurd (show (none : Option _) = some _ from r57) (by simp) | succ m => exact ⟨m, rfl⟩
  have r61 : parity_Limits_B1 (w64 (x1 * (w64 (x2 - 1)))) x0_0 (parity_Limits_L1 (w64 (x1 * (w64 (x2 - 1)))) x0_0 m62) v50 v56 = some r := r57; clear r57; unfold parity_Limits_B1 at r61; try dsimp only at r61
  refine .seq (.region rfl (.q .ro (.lss rfl rfl) rfl (.re (.seq ?_))))
  refine .cond_dec rfl (fun c63 => ?_) (fun c63 => ?_)
  ·have r64 := ifT r61 c63; clear r61
   refine .skip (.seq (.block (.region rfl (.mv rfl rfl (.q .ro (.fieldAddr 0 rfl fl45_0 ty3.sz rfl) rfl (.q .ro (.load_own 0 rfl rfl ty3 rfl) rfl ?_))))))
   refine .lit [_] [(0, _)] .ro sl22 ty3 rfl rfl rfl rfl rfl rfl (fun b65 hb65 => ?_)
   have o66 : OL ri G [.int .i64 x0_0] ([x0_0] : List Int) := ((OL.cons rfl (Rep.intI .i64 x0_0) (OL.nil (Rp' := ri))) :)
   refine .reval 26 (n' := ([x0_0] : List Int).length) rfl rfl ?_
   obtain ⟨u72, hu72, r73⟩ := bind_some r64
   refine .appO (Q := ri) 0 .ro sl22 ty3 rfl rfl rfl rfl rfl rfl o54 o66 rfl rfl rfl B0 hu72 rfl (fun a68 k69 cs70 o71 => ?_)
   refine .av rfl rfl (.re (.inBlock (.region rfl (.q .ro (.addw rfl rfl) rfl (.mv rfl rfl (.re ?_))))))
   exact .arr (hb58 (m62, u72, a68, k69, cs70, (w64 (v56 + 1))) ⟨o71, r73⟩ (Nat.lt_succ_self _)) ⟨rfl, rfl, rfl, rfl, trivial⟩
  ·have r75 := ifF r61 c63; clear r61
   refine .exit rfl (.seq (.region rfl (.mv rfl rfl (.av rfl rfl (.av rfl rfl (.re ?_))))))
   cases r75
   refine .drop 1 0 [] _ rfl rfl ?_
   refine .retS (.inr ⟨_, rfl⟩) [.tmp 6, .tmp 7] [_, _] rfl Tryz.func20 Tryz.results20 ⟨RV.tmp rfl, RV.tmp rfl, trivial⟩ mcm ⟨a51, k52, cs53, rfl, rfl, rfl, o54⟩
theorem vector_Unit_c {Fs : List Hp} {G : Hp} {x0_0 : Int} {x1 : Int} {x2 : Int} {r : ((List Int) × Int)} (hG : G ∈ Fs)  (h : vector_Unit x0_0 x1 x2 = some r) : RetS Tryz.prog 66 #[.agg #[.int .i64 x0_0], .int .i64 x1, .int .i64 x2] Fs [] [] (fun v bo so => ∃ (oa0 : Option Addr) (ok0 : Nat) (oc0 : List Value), v = .tuple #[.slice oa0 r.1.length ok0, .int .i64 r.2] ∧ bo = [] ∧ so = [.s (.slice oa0 r.1.length ok0) 3 1 r.1.length oc0] ∧ OL ri G oc0 r.1) := by
 unfold vector_Unit at h
 try dsimp only at h
 refine RetS.of (vs := [_, _, _]) Tryz.func66 rfl Tryz.ntmps66 [(0, _), (1, _), (2, _)] ⟨rfl, rfl, rfl, trivial⟩ rfl hG fun w0 S0 hS0 B0 => ?_
 refine .seq (.region rfl ?_)
 refine .box [_] .ro rfl rfl rfl (fun b1 hb1 => ?_)
 refine .av rfl rfl (.av rfl rfl (.re (.seq (.seq (.region rfl (.q .ro (.load_own_a 0 [_] rfl rfl ty45 rfl) rfl ?_))))))
 obtain ⟨u2, hu2, r3⟩ := bind_some h
 refine .callS (b1 := []) (b2 := [_]) (s1 := []) [_] [] .ro rfl rfl Tryz.call72 rfl rfl (residue_Of_c (G := G) mcs  hu2) rfl (fun v5 bo so h4 => ?_)
 obtain ⟨rfl, rfl, rfl⟩ := h4
 refine .same (bl' := [_]) (sl' := []) rfl rfl rfl (.mv rfl rfl (.q .ro (.extract rfl rfl) rfl (.q .ro (.extract rfl rfl) rfl (.av rfl rfl (.av rfl rfl (.re (.seq (.region rfl (.mv rfl rfl (.q .ro (.not rfl) rfl (.re ?_)))))))))))
 refine .cond rfl (fun c6 => ?_) (fun c6 => ?_)
 ·have r7 := ifT r3 c6; clear r3
  refine .seq (.region rfl (.av rfl rfl (.av rfl rfl (.re (.prune [(6, _), (7, _)] ⟨rfl, rfl, trivial⟩ (.own_nil 3 1 ?_))))))
  cases r7
  refine .drop 1 0 [] _ rfl rfl ?_
  refine .retS (.inr ⟨_, rfl⟩) [.tmp 6, .tmp 7] [_, _] rfl Tryz.func66 Tryz.results66 ⟨RV.tmp rfl, RV.tmp rfl, trivial⟩ mcm ⟨none, 0, [], rfl, rfl, rfl, (OL.nil (Rp' := ri))⟩
 ·have r9 := ifBF r3 c6; clear r3
  refine .skip (.seq (.seq (.region rfl (.mv rfl rfl (.q .ro (.lss rfl rfl) rfl (.mv rfl rfl ?_))))))
  refine .cutR 3 (β := Unit) (fun y => [(23, .bool (decide ((x1 < 0) ∨ (1024 < x1))))]) [(1, _), (2, _)] (fun y => G :: Fs) (fun y => []) [_] (fun y => []) [] (fun y => True) ⟨rfl, rfl, trivial⟩ [0] rfl [] rfl ?_ ?_
  ·rintro _ _
   refine .prune [(23, .bool (decide ((x1 < 0) ∨ (1024 < x1)))), (1, _), (2, _)] ⟨rfl, rfl, rfl, trivial⟩ (.same (bl' := [_]) (sl' := []) (Fs' := G :: Fs) rfl rfl rfl (.re ?_))
   refine .cond_dec rfl (fun c14 => ?_) (fun c14 => ?_)
   ·have r15 := ifT r9 c14; clear r9
    refine .seq (.region rfl (.av rfl rfl (.av rfl rfl (.re (.own_nil 3 1 ?_)))))
    cases r15
    refine .drop 1 0 [] _ rfl rfl ?_
    refine .retS (.inr ⟨_, rfl⟩) [.tmp 6, .tmp 7] [_, _] rfl Tryz.func66 Tryz.results66 ⟨RV.tmp rfl, RV.tmp rfl, trivial⟩ mcm ⟨none, 0, [], rfl, rfl, rfl, (OL.nil (Rp' := ri))⟩
   ·have r17 := ifF r9 c14; clear r9
    refine .skip (.seq (.seq (.region rfl (.mv rfl rfl (.q .ro (.lss rfl rfl) rfl (.mv rfl rfl ?_))))))
    refine .cutR 4 (β := Unit) (fun y => [(30, .bool (decide ((x2 < 0) ∨ (x1 ≤ x2))))]) [(1, _), (2, _)] (fun y => G :: Fs) (fun y => []) [_] (fun y => []) [] (fun y => True) ⟨rfl, rfl, trivial⟩ [0] rfl [] rfl ?_ ?_
    ·rintro _ _
     refine .prune [(30, .bool (decide ((x2 < 0) ∨ (x1 ≤ x2)))), (1, _), (2, _)] ⟨rfl, rfl, rfl, trivial⟩ (.same (bl' := [_]) (sl' := []) (Fs' := G :: Fs) rfl rfl rfl (.re ?_))
     refine .cond_dec rfl (fun c22 => ?_) (fun c22 => ?_)
     ·have r23 := ifT r17 c22; clear r17
      refine .seq (.region rfl (.av rfl rfl (.av rfl rfl (.re (.own_nil 3 1 ?_)))))
      cases r23
      refine .drop 1 0 [] _ rfl rfl ?_
      refine .retS (.inr ⟨_, rfl⟩) [.tmp 6, .tmp 7] [_, _] rfl Tryz.func66 Tryz.results66 ⟨RV.tmp rfl, RV.tmp rfl, trivial⟩ mcm ⟨none, 0, [], rfl, rfl, rfl, (OL.nil (Rp' := ri))⟩
     ·have r25 := ifF r17 c22; clear r17
      refine .skip (.seq (.region rfl (.mv rfl rfl ?_)))
      obtain ⟨u26, hu26, r27⟩ := bind_some r25
      refine .makeR (G := G) (Q := ri) .ro sl22 ty3 rfl rfl rfl ((Rep.intI .i64 0) :) rfl rfl hu26 rfl rfl (fun b28 cs29 hb28 o30 => ?_)
      refine .av rfl rfl (.re (.seq (.region rfl (.mv rfl rfl (.mv rfl rfl ?_)))))
      obtain ⟨u32, hu32, r33⟩ := bind_some r27
      obtain ⟨c34, p35, h36⟩ := OL.get o30 hu32
      obtain rfl := h36
      refine .q .ro (.idxO 0 rfl rfl rfl hu32 sl22 ty3.sz) rfl ?_
      obtain ⟨u37, hu37, r38⟩ := bind_some r33
      refine .storeR 0 0 (Q := ri) .ro rfl rfl o30 hu37 rfl (.inl ⟨rfl, rfl⟩) rfl ty3 p35 ((Rep.intI .i64 1) :) rfl rfl (fun cs39 hlcs39 o40 => ?_)
      refine .reval 32 hlcs39 rfl (.reval 10 hlcs39 rfl (.reval 33 hlcs39 rfl (.re (.seq (.region rfl (.mv rfl rfl (.av rfl rfl (.av rfl rfl (.re ?_)))))))))
      cases r38
      refine .drop 1 0 [] _ rfl rfl ?_
      refine .retS (.inr ⟨_, rfl⟩) [.tmp 6, .tmp 7] [_, _] rfl Tryz.func66 Tryz.results66 ⟨RV.tmp rfl, RV.tmp rfl, trivial⟩ mcm ⟨(some ⟨b28, 0, none⟩), u26.length, cs39, rfl, rfl, rfl, o40⟩
    ·intro hb19
     refine .split 26 rfl (fun c18 => ?_) (fun c18 => ?_)
     ·refine .g_off rfl rfl rfl ?_
      refine .g_off rfl rfl rfl (.g_off rfl rfl rfl (.q .ro (.pick_t rfl rfl) rfl ?_))
      exact .arr (hb19 () trivial) ⟨dor_t c18, rfl, rfl, trivial⟩
     ·refine .g_on rfl ?_
      refine .mv rfl rfl (.g_on rfl (.mv rfl rfl (.g_on rfl (.q .ro (.geq rfl rfl) rfl (.q .ro (.pick_f rfl rfl) rfl ?_)))))
      exact .arr (hb19 () trivial) ⟨dor_f c18, rfl, rfl, trivial⟩
  ·intro hb11
   refine .split 20 rfl (fun c10 => ?_) (fun c10 => ?_)
   ·refine .g_off rfl rfl rfl ?_
    refine .g_off rfl rfl rfl (.q .ro (.pick_t rfl rfl) rfl ?_)
    exact .arr (hb11 () trivial) ⟨dor_t c10, rfl, rfl, trivial⟩
   ·refine .g_on rfl ?_
    refine .mv rfl rfl (.g_on rfl (.q .ro (.gtr rfl rfl) rfl (.q .ro (.pick_f rfl rfl) rfl ?_)))
    exact .arr (hb11 () trivial) ⟨dor_f c10, rfl, rfl, trivial⟩
theorem parity_sum_c {Fs : List Hp} {G : Hp} {x0 : Int} {x1 : Int} {F2 : FuncId} {c2 : List Value} {x2 : List (List Int)} {r : (List Int)} (hG : G ∈ Fs) (hc2 : ∀ args w, (callFunc F2 args).run Tryz.prog w = .ok (.enter F2 args) w) (hf2 : IterRX Tryz.prog (Yr.v (Rep.sl ri)) F2 c2 G x2) (h : parity_sum x0 x1 x2 = some r) : RetS Tryz.prog 68 #[.int .i64 x0, .int .i64 x1, .func (.func F2) #[] c2.toArray] Fs [] [] (fun v bo so => ∃ (oa0 : Option Addr) (ok0 : Nat) (oc0 : List Value), v = .slice oa0 r.length ok0 ∧ bo = [] ∧ so = [.s (.slice oa0 r.length ok0) 3 1 r.length oc0] ∧ OL ri G oc0 r) := by
 unfold parity_sum at h
 try dsimp only at h
 refine RetS.of (vs := [_, _, _]) Tryz.func68 rfl Tryz.ntmps68 [(0, _), (1, _), (2, _)] ⟨rfl, rfl, rfl, trivial⟩ rfl hG fun w0 S0 hS0 B0 => ?_
 refine .marks0 (.seq (.region rfl ?_))
 refine .box [_] .ro rfl rfl rfl (fun b1 hb1 => ?_)
 refine .av rfl rfl (.re (.seq (.region rfl (.mv rfl rfl ?_))))
 obtain ⟨u2, hu2, r3⟩ := bind_some h
 refine .makeR (G := G) (Q := ri) .ro sl22 ty3 rfl rfl rfl ((Rep.intI .i64 0) :) rfl rfl hu2 rfl rfl (fun b4 cs5 hb4 o6 => ?_)
 refine .alloc .ro ty22 rfl (fun b8 hb8 => ?_)
 refine .store 0 [_] [_, _] .ro rfl rfl rfl ty22 rfl rfl rfl rfl (.re (.seq (.seq (.region rfl (.mv rfl rfl (.re ?_))))))
 refine .cutBD (β := MK × List Int × Option Addr × Nat × List Value) (fun y => mks y.1.1) (fun y => []) [(7, _)] (fun y => G :: Fs) (fun y => [(b8, .cells #[.slice y.2.2.1 y.2.1.length y.2.2.2.1] 22 (0, 0))]) [_] (fun y => [.g (marksG y.1), .s (.slice y.2.2.1 y.2.1.length y.2.2.2.1) 3 1 y.2.1.length y.2.2.2.2]) [] (fun y => OL ri G y.2.2.2.2 y.2.1 ∧ parity_sum_J1 y.2.1 = some r) ⟨rfl, trivial⟩ [1] rfl [] rfl ?_ ?_
 ·intro y hI
  obtain ⟨mk72, v73, a74, k75, cs76⟩ := y
  obtain ⟨o77, r80⟩ := hI
  try dsimp only at o77 r80
  refine .prune [(7, _)] ⟨rfl, trivial⟩ (.same (bl' := [(b8, .cells #[.slice a74 v73.length k75] 22 (0, 0)), _]) (sl' := [.g (marksG mk72), .s (.slice a74 v73.length k75) 3 1 v73.length cs76]) (Fs' := G :: Fs) rfl rfl rfl ?_)
  unfold parity_sum_J1 at r80
  try dsimp only at r80
  refine .seq (.region rfl (.q .ro (.load_own 0 rfl rfl ty22 rfl) rfl (.av rfl rfl (.re ?_))))
  cases r80
  refine .drop 2 0 [] _ rfl rfl ?_
  refine .out (.inr ⟨_, rfl⟩) rfl (Cov.unmarkAll _ _ ?_)
  refine .outS [.tmp 6] [_] Tryz.func68 Tryz.results68 ⟨RV.tmp rfl, trivial⟩ mcm ⟨a74, k75, cs76, rfl, rfl, rfl, o77⟩
 ·intro hb82
  refine .block (.pull 1 rfl [_, _] rfl (.pull 1 rfl [_, _] rfl ?_))
  refine .rangeX (α := List Int × Option Addr × Nat × List Value) (β := Unit) (fun y => []) (fun y => [(b8, .cells #[.slice y.2.1 y.1.length y.2.2.1] 22 (0, 0)), (b1, .cells #[.int .i64 x0] 140 (0, 0))]) (fun y => [.s (.slice y.2.1 y.1.length y.2.2.1) 3 1 y.1.length y.2.2.2]) (fun _ => []) (fun _ => []) (fun _ => []) (fun _ => .skip) (fun i y => OL ri G y.2.2.2 y.1 ∧ parity_sum_L2 parity_sum_J1 x0 (List.drop i x2) y.1 = some r) (fun _ => False) (u2, (some ⟨b4, 0, none⟩), u2.length, cs5)  c2 rfl rfl hc2 rfl (by simp) rfl rfl (hf2 _ G (HpLe.refl _) mcs) (fun _ _ hv => by obtain ⟨_, _, hv⟩ := hv; exact (Yr.len _ hv).trans rfl) (by kernel_rfl) ⟨o6, r3⟩ ?_ ?_ (fun _ _ h => h.elim)
  ·intro l10 tm11 D12 i13 y v14 hV15 hI w16 S17 hw18
   obtain ⟨v19, a20, k21, cs23⟩ := y
   obtain ⟨o24, r25⟩ := hI
   try dsimp only at o24 r25
   obtain ⟨x26, h27, h28⟩ := hV15
   refine .dup (G := G) mcs ?_
   obtain ⟨v29, rfl, h30⟩ := h28
   obtain ⟨a31, k32, h33, s34⟩ := h30
   obtain ⟨rfl, _⟩ := List.cons.inj h33
   rw [drop_cons h27] at r25
   have r35 : parity_sum_B2 parity_sum_J1 x0 (parity_sum_L2 parity_sum_J1 x0 (List.drop (i13 + 1) x2)) x26 v19 = some r := r25; clear r25; unfold parity_sum_B2 at r35; try dsimp only at r35
   refine .prune [(12, .slice a31 x26.length k32), (3, _), (7, _)] ⟨rfl, rfl, rfl, trivial⟩ (.same (bl' := [(b8, .cells #[.slice a20 v19.length k21] 22 (0, 0)), (b1, .cells #[.int .i64 x0] 140 (0, 0)), _]) (sl' := [.s (.slice a20 v19.length k21) 3 1 v19.length cs23]) (Fs' := G :: (G :: Fs)) rfl rfl rfl (.region rfl (.av rfl rfl (.re (.beginRound 2 rfl rfl [_, _, _] rfl (.block (.region rfl (.q .ro (.load_own 1 rfl rfl ty140 rfl) rfl (.q .ro (.load_own 0 rfl rfl ty22 rfl) rfl (.mv rfl rfl ?_))))))))))
   refine .toV 0 rfl (fun vb36 po37 va38 vb39 => ?_)
   obtain ⟨u40, hu40, r41⟩ := bind_some r35
   refine .callS (b1 := []) (b2 := [_, _, _]) (s1 := [_]) [_, _, _, _] [] .ro rfl rfl Tryz.call67 rfl rfl (residue_Field_AddTimes_c (G := G) mcs va38 o24 s34 hu40) rfl (fun v42 bo so h43 => ?_)
   obtain ⟨cs44, rfl, rfl, rfl, o45, hl46⟩ := h43
   refine .same (bl' := [_, _, _]) (sl' := [_]) rfl rfl rfl (.ofV 0 rfl vb39 hl46 o45 rfl (.reval 14 hl46 rfl (.recell 0 [.slice a20 u40.length k21] rfl (by rw [hl46]) [_, _, _] rfl (.re (.inBlock ?_)))))
   refine .round_endX (u40, a20, k21, cs44) 2 rfl rfl ⟨o45, r41⟩ rfl rfl (fun F hF => List.mem_cons_of_mem _ hF) (by simp)
  ·intro q47 y hI hb48
   obtain ⟨v19, a20, k21, cs23⟩ := y
   obtain ⟨o24, r25⟩ := hI
   try dsimp only at o24 r25
   refine .prune [(7, _)] ⟨rfl, trivial⟩ (.same (bl' := [(b8, .cells #[.slice a20 v19.length k21] 22 (0, 0)), (b1, .cells #[.int .i64 x0] 140 (0, 0)), _]) (sl' := [.s (.slice a20 v19.length k21) 3 1 v19.length cs23, _]) (Fs' := G :: Fs) rfl rfl rfl (.pullS 1 rfl [_, _] rfl ?_))
   refine .mkmerge 2 rfl [_, _] rfl (fun mk49 => ?_)
   rw [List.drop_length] at r25; rw [parity_sum_L2] at r25; try dsimp only at r25
   refine .inBlock ?_
   exact .arr (hb82 (mk49, v19, a20, k21, cs23) ⟨o24, r25⟩) ⟨rfl, trivial⟩
theorem parity_each_f1_i {Fs : List Hp} {G : Hp} {p1 : Value} {a1 : Option Addr} {k1 : Nat} {x1 : List (List Int)} {l : (List (List Int))} (hG : G ∈ Fs) (hp1 : Rp G p1 [.slice a1 x1.length k1]) (s1 : SlR (Rep.sl ri) G a1 k1 x1) (h : parity_each_f1 x1 = some l) : IterX Tryz.prog 124 [p1] Fs l.length (fun i v => ∃ x, l[i]? = some x ∧ (Yr.v (Rep.sl ri)).r G v x) := by
 unfold parity_each_f1 at h
 try dsimp only at h
 intro y 𝒢 ℰ R0 hy hR0
 refine RetG.of (vs := [_, _]) Tryz.func124 rfl Tryz.ntmps124 [(0, _), (1, _)] ⟨rfl, rfl, trivial⟩ rfl fun w0 => Cov.dup hG ?_
 have B0 : Bd w0 (blks [] [.g R0]) Fs G := Bd.fin hG
 generalize hS0 : blks [] [.g R0] = S0 at B0 ⊢
 replace h : _ = some (List.drop 0 l) := h
 refine .seq (.region rfl (.q .ro (.load_rp hp1 mcs rfl ty51 rfl) rfl (.q .ro (.len_sl rfl rfl sl51) rfl (.mv rfl rfl (.re (.block ?_))))))
 refine .loop2 (α := Nat × List (List Int) × Guest × Nat) (fun y => [(7, .int .i64 (y.1 : Int))]) [(0, _), (5, _), (6, _)] (fun y => []) (fun y => []) [] (fun y => [.g y.2.2.1]) [] (fun y => 𝒢 y.2.2.2 y.2.2.1 ∧ y.2.2.2 ≤ l.length ∧ List.drop y.1 x1 = y.2.1 ∧ parity_each_f1_L1 y.2.1  = some (List.drop y.2.2.2 l)) (fun y => y.2.1.length) (0, x1, R0, 0) ⟨hR0, (Nat.zero_le _), rfl, h⟩ ⟨rfl, rfl, rfl, rfl, trivial⟩ rfl rfl rfl (fun y hI hb29 => ?_)
 obtain ⟨i21, w22, R24, i25⟩ := y
 obtain ⟨hR26, le27, g23, r28⟩ := hI
 try dsimp only at hR26 le27 g23 r28
 refine .prune [(7, .int .i64 (i21 : Int)), (0, _), (5, _), (6, _)] ⟨rfl, rfl, rfl, rfl, trivial⟩ (.same (bl' := []) (sl' := [.g R24]) (Fs' := G :: Fs) rfl rfl rfl ?_)
 cases w22 with
 | nil =>
  rw [parity_each_f1_L1] at r28; try dsimp only at r28
  refine .seq (.region rfl (.q .ro (.lss rfl rfl) rfl (.re (.seq ?_))))
  refine .cond_dec rfl (fun c => absurd c (drop_nil g23)) (fun _ => ?_)
  refine .exit rfl ?_
  have hi := yc_end r28 le27
  refine .leave (.inl rfl) [] [] rfl Tryz.func124 Tryz.results124 trivial mcm (.inl rfl) (fresh_emp _) ⟨rfl, R24, .inl (hi ▸ hR26), rfl⟩
 | cons x33 xs34 =>
  have r32 : parity_each_f1_B1 (parity_each_f1_L1 xs34) x33  = some (List.drop i25 l) := r28; clear r28; unfold parity_each_f1_B1 at r32; try dsimp only at r32
  refine .seq (.region rfl (.q .ro (.lss rfl rfl) rfl (.re (.seq ?_))))
  refine .cond_dec rfl (fun _ => ?_) (fun c => absurd (drop_lt g23) c)
  refine .skip (.seq (.block (.seq (.region rfl ?_))))
  obtain ⟨c35, p36, h37⟩ := SlR.get s1 (drop_idx g23)
  obtain ⟨a38, k39, rfl, s40⟩ := h37
  refine .q .ro (.idxR s1 rfl rfl (drop_idx g23) sl51 ty22.sz) rfl (.q .ro (.load_rp p36 mcs rfl ty22 rfl) rfl (.av rfl rfl (.re (.seq (.region rfl (.mv rfl rfl (.mv rfl rfl ?_)))))))
  obtain ⟨h41, r42⟩ := yc_some r32; clear r32
  refine .yieldX hy ⟨_, h41, ⟨_, rfl, ((Rep.slI s40) :)⟩⟩ hR26 mcm rfl rfl rfl (fun R43 hR44 => ?_) (fun R45 hE46 => ?_)
  ·refine .q .ro (.not_t rfl) rfl ?_
   refine .re (.cond_false rfl (.skip (.inBlock (.region rfl (.q .ro (.addw rfl rfl) rfl (.mv rfl rfl (.re ?_)))))))
   exact .arr (hb29 ((i21 + 1), xs34, R43, (i25 + 1)) ⟨hR44, (yc_le h41), (drop_succ g23), r42⟩ (Nat.lt_succ_self _)) ⟨(congrArg (fun z => some (Value.int .i64 z)) (idx_wrap (SlR.len s1) g23)), rfl, rfl, rfl, trivial⟩
  ·refine .q .ro (.not_f rfl) rfl ?_
   refine .re (.cond_true rfl ?_)
   refine .leave (.inr ⟨_, rfl⟩) [] [] rfl Tryz.func124 Tryz.results124 trivial mcm (.inl rfl) (fresh_emp _) ⟨rfl, R45, .inr hE46, rfl⟩
theorem parity_each_c {Fs : List Hp} {G : Hp} {a0 : Option Addr} {k0 : Nat} {x0 : List (List Int)} {r : (List (List Int))} (hG : G ∈ Fs) (s0 : SlR (Rep.sl ri) G a0 k0 x0) (h : parity_each x0 = some r) : RetW Tryz.prog 69 #[.slice a0 x0.length k0] Fs [] [] (fun v bo so G => ∃ (Fi0 : FuncId) (ci0 : List Value), v = .func (.func Fi0) #[] ci0.toArray ∧ bo = [] ∧ so = [] ∧ (∀ args w, (callFunc Fi0 args).run Tryz.prog w = .ok (.enter Fi0 args) w) ∧ IterRX Tryz.prog (Yr.v (Rep.sl ri)) Fi0 ci0 G r) := by
 unfold parity_each at h
 try dsimp only at h
 refine RetW.of (vs := [_]) Tryz.func69 rfl Tryz.ntmps69 [(0, _)] ⟨rfl, trivial⟩ rfl hG fun w0 S0 hS0 B0 => ?_
 refine .seq (.region rfl ?_)
 refine .box [_] .ro rfl rfl rfl (fun b1 hb1 => ?_)
 refine .av rfl rfl (.re (.seq (.region rfl (.q .ro (.makeFunc (vf := []) (vc := [_]) rfl rfl) rfl (.av rfl rfl (.re ?_))))))
 refine .freezeBR 0 rfl [] rfl B0 (fun G2 e3 B4 p5 => ?_)
 obtain ⟨u7, hu7, r8⟩ := bind_some h
 cases r8
 refine .retW (.inr ⟨_, rfl⟩) [.tmp 2] [_] rfl Tryz.func69 Tryz.results69 ⟨RV.tmp rfl, trivial⟩ mcm mcs B4 (by subst hS0; simp [blks]) (fun G' hg => ⟨_, _, rfl, rfl, rfl, Tryz.call124, (fun Fs' G1 hle hm => parity_each_f1_i (G := G1) hm (Rp.mono (HpLe.trans hg hle) p5) (SlR.mono (HpLe.trans hg hle) (SlR.mono e3 s0)) hu7)⟩)
theorem parity_Queries_c {Fs : List Hp} {G : Hp} {x0_0 : Int} {x1 : Int} {x2 : Int} {x3 : Int} {a4_0 : Option Addr} {k4_0 : Nat} {x4_0 : List Int} {x4_1 : Int} {r : ((List (List Int)) × ((List Int) × Int) × Int)} (hG : G ∈ Fs) (s4_0 : SlR ri G a4_0 k4_0 x4_0) (h : parity_Queries x0_0 x1 x2 x3 (x4_0, x4_1) = some r) : RetW Tryz.prog 21 #[.agg #[.int .i64 x0_0], .int .i64 x1, .int .i64 x2, .int .i64 x3, .agg #[.slice a4_0 x4_0.length k4_0, .int .i64 x4_1]] Fs [] [] (fun v bo so G => ∃ a0 : Option Addr, ∃ k0 : Nat, ∃ (oa0 : Option Addr) (ok0 : Nat) (oc0 : List Value), v = .tuple #[.slice oa0 r.1.length ok0, .agg #[.slice a0 r.2.1.1.length k0, .int .i64 r.2.1.2], .int .i64 r.2.2] ∧ bo = [] ∧ so = [.s (.slice oa0 r.1.length ok0) 22 1 r.1.length oc0] ∧ SlR ri G a0 k0 r.2.1.1 ∧ OL (Rep.sl ri) G oc0 r.1) := by
 unfold parity_Queries at h
 try dsimp only at h
 refine RetW.of (vs := [_, _, _, _, _]) Tryz.func21 rfl Tryz.ntmps21 [(0, _), (1, _), (2, _), (3, _), (4, _)] ⟨rfl, rfl, rfl, rfl, rfl, trivial⟩ rfl hG fun w0 S0 hS0 B0 => ?_
 refine .seq (.region rfl ?_)
 refine .box [_] .ro rfl rfl rfl (fun b1 hb1 => ?_)
 refine .box [_, _] .ro rfl rfl rfl (fun b2 hb2 => ?_)
 refine .av rfl rfl ?_
 refine .alloc .ro ty56 rfl (fun b3 hb3 => ?_)
 refine .av rfl rfl (.re (.seq (.seq (.region rfl (.q .ro (.load_own_a 2 [_] rfl rfl ty45 rfl) rfl (.mv rfl rfl (.mv rfl rfl ?_)))))))
 obtain ⟨u4, hu4, r5⟩ := bind_some h
 refine .callS (b1 := []) (b2 := [_, _, _]) (s1 := []) [_, _, _] [] .ro rfl rfl Tryz.call64 rfl rfl (parity_check_c (G := G) mcs  hu4) rfl (fun v7 bo so h6 => ?_)
 obtain ⟨rfl, rfl, rfl⟩ := h6
 refine .same (bl' := [_, _, _]) (sl' := []) rfl rfl rfl (.av rfl rfl (.re (.seq (.region rfl (.mv rfl rfl (.q .ro (.neq rfl rfl) rfl (.re ?_)))))))
 refine .cond_dec rfl (fun c8 => ?_) (fun c8 => ?_)
 ·have r9 := ifT r5 c8; clear r5
  refine .seq (.region rfl (.q .ro (.build [_, _] [] ty56 pl56 rfl rfl) rfl (.mv rfl rfl (.av rfl rfl (.store 0 [_, _] [_, _, _] .ro rfl rfl rfl ty56 rfl rfl rfl rfl (.av rfl rfl (.re (.prune [(10, _), (11, _), (12, _)] ⟨rfl, rfl, rfl, trivial⟩ (.own_nil 22 1 ?_)))))))))
  cases r9
  refine .retWD 3 (.inr ⟨_, rfl⟩) [.tmp 10, .cell 11 56, .tmp 12] [_, _, _] rfl Tryz.func21 Tryz.results21 ⟨RV.tmp rfl, RV.cell_a 0 [_, _] rfl rfl ty56 rfl, RV.tmp rfl, trivial⟩ mcm mcs B0 (by subst hS0; simp [blks]) (fun G' hg => ⟨none, 0, none, 0, [], rfl, rfl, rfl, (SlR.mono hg (SlR.nil (Rp' := ri))), (OL.mono hg (OL.nil (Rp' := (Rep.sl ri))))⟩)
 ·have r11 := ifF r5 c8; clear r5
  refine .skip (.seq (.seq (.region rfl (.mv rfl rfl (.q .ro (.lss rfl rfl) rfl (.mv rfl rfl ?_))))))
  refine .cutR 4 (β := Unit) (fun y => [(35, .bool (decide ((x3 < 0) ∨ (x1 ≤ x3))))]) [(1, _), (2, _), (3, _), (5, _), (9, _), (11, _)] (fun y => G :: Fs) (fun y => []) [_, _, _] (fun y => []) [] (fun y => True) ⟨rfl, rfl, rfl, rfl, rfl, rfl, trivial⟩ [0, 1, 2] rfl [] rfl ?_ ?_
  ·rintro _ _
   refine .prune [(35, .bool (decide ((x3 < 0) ∨ (x1 ≤ x3)))), (1, _), (2, _), (3, _), (5, _), (9, _), (11, _)] ⟨rfl, rfl, rfl, rfl, rfl, rfl, rfl, trivial⟩ (.same (bl' := [_, _, _]) (sl' := []) (Fs' := G :: Fs) rfl rfl rfl (.re ?_))
   refine .cond_dec rfl (fun c16 => ?_) (fun c16 => ?_)
   ·have r17 := ifT r11 c16; clear r11
    refine .seq (.region rfl (.q .ro (.build [_, _] [] ty56 pl56 rfl rfl) rfl (.av rfl rfl (.store 0 [_, _] [_, _, _] .ro rfl rfl rfl ty56 rfl rfl rfl rfl (.av rfl rfl (.re (.own_nil 22 1 ?_)))))))
    cases r17
    refine .retWD 3 (.inr ⟨_, rfl⟩) [.tmp 10, .cell 11 56, .tmp 12] [_, _, _] rfl Tryz.func21 Tryz.results21 ⟨RV.tmp rfl, RV.cell_a 0 [_, _] rfl rfl ty56 rfl, RV.tmp rfl, trivial⟩ mcm mcs B0 (by subst hS0; simp [blks]) (fun G' hg => ⟨none, 0, none, 0, [], rfl, rfl, rfl, (SlR.mono hg (SlR.nil (Rp' := ri))), (OL.mono hg (OL.nil (Rp' := (Rep.sl ri))))⟩)
   ·have r19 := ifF r11 c16; clear r11
    refine .skip (.seq (.region rfl (.av rfl rfl (.re (.seq (.seq (.region rfl (.mv rfl rfl (.q .ro (.subw rfl rfl) rfl (.mv rfl rfl (.re ?_)))))))))))
    refine .cutB (β := Hp × List (List Int) × Option Addr × Nat × List Value × Int × List Int × Option Addr × Nat × Int × Int) (fun y => [(14, .slice y.2.2.1 y.2.1.length y.2.2.2.1)]) [(1, _), (3, _), (5, _), (9, _), (11, _)] (fun y => y.1 :: Fs) (fun y => [(b3, .cells #[.slice none 0 0, .int .i64 y.2.2.2.2.2.1] 56 (0, 0)), (b2, .cells #[.slice y.2.2.2.2.2.2.2.1 y.2.2.2.2.2.2.1.length y.2.2.2.2.2.2.2.2.1, .int .i64 y.2.2.2.2.2.2.2.2.2.1] 56 (0, 0)), (b1, .cells #[.int .i64 y.2.2.2.2.2.2.2.2.2.2] 45 (0, 0))]) [] (fun y => [.s (.slice y.2.2.1 y.2.1.length y.2.2.2.1) 22 1 y.2.1.length y.2.2.2.2.1]) [] (fun y => HpLe G y.1 ∧ Bd w0 S0 Fs y.1 ∧ OL (Rep.sl ri) y.1 y.2.2.2.2.1 y.2.1 ∧ SlR ri y.1 y.2.2.2.2.2.2.2.1 y.2.2.2.2.2.2.2.2.1 y.2.2.2.2.2.2.1 ∧ (parity_Queries_J1 x1 x3) y.2.1 y.2.2.2.2.2.1 y.2.2.2.2.2.2.1 y.2.2.2.2.2.2.2.2.2.1 y.2.2.2.2.2.2.2.2.2.2 = some r) ⟨rfl, rfl, rfl, rfl, rfl, trivial⟩ [] rfl [] rfl ?_ ?_
    ·intro y hI
     obtain ⟨G10, v14, a15, k18, cs20, v23, v24, a25, k26, v27, v28⟩ := y
     obtain ⟨e29, B30, o31, s32, r33⟩ := hI
     try dsimp only at e29 B30 o31 s32 r33
     refine .prune [(14, .slice a15 v14.length k18), (1, _), (3, _), (5, _), (9, _), (11, _)] ⟨rfl, rfl, rfl, rfl, rfl, rfl, trivial⟩ (.same (bl' := [(b3, .cells #[.slice none 0 0, .int .i64 v23] 56 (0, 0)), (b2, .cells #[.slice a25 v24.length k26, .int .i64 v27] 56 (0, 0)), (b1, .cells #[.int .i64 v28] 45 (0, 0))]) (sl' := [.s (.slice a15 v14.length k18) 22 1 v14.length cs20]) (Fs' := G10 :: Fs) rfl rfl rfl ?_)
     unfold parity_Queries_J1 at r33
     try dsimp only at r33
     refine .seq (.region rfl (.q .ro (.fieldAddr 0 rfl fl45_0 ty3.sz rfl) rfl (.q .ro (.load_own 2 rfl rfl ty3 rfl) rfl (.av rfl rfl (.re (.seq (.region rfl (.q .ro (.load_own_a 2 [_] rfl rfl ty45 rfl) rfl (.mv rfl rfl (.mv rfl rfl ?_))))))))))
     obtain ⟨u34, hu34, r35⟩ := bind_some r33
     refine .callS (b1 := []) (b2 := [_, _, _]) (s1 := []) [_, _, _] [] .ro rfl rfl Tryz.call66 rfl rfl (vector_Unit_c (G := G10) mcs  hu34) rfl (fun v36 bo so h37 => ?_)
     obtain ⟨a38, k39, cs40, rfl, rfl, rfl, o41⟩ := h37
     refine .same (bl' := [_, _, _]) (sl' := [_, _]) rfl rfl rfl (.mv rfl rfl (.q .ro (.extract rfl rfl) rfl (.q .ro (.extract rfl rfl) rfl (.av rfl rfl (.av rfl rfl (.re (.seq (.drawL (.q 0 (.q 1 (.q 2 (.q 3 (.q 4 (.q 5 (.q 6 (.q 7 (.e 8 1 (.e 9 1 (.e 10 2 .nil))))))))))) [_, _, _] (by kernel_rfl) (by kernel_rfl) (pick_mem [0, 1, 2] rfl) (.dq (.move rfl) rfl (.dq (.move rfl) rfl (.dq (.fieldAddr 0 rfl fl45_0 ty3.sz rfl) rfl (.dq (.load_own 2 rfl rfl ty3 rfl) rfl (.dq (.subw rfl rfl) rfl (.dq (.move rfl) rfl (.dq (.move rfl) rfl (.dq (.move rfl) rfl (.pullS 1 rfl [_, _] rfl ?_)))))))))))))))))
     refine .openB (sB := [_]) (s2 := [_]) rfl B30 (fun G42 e43 B44 hr46 hc47 => ?_)
     have s48 := SlR.rd o31 rfl e43 (hr46 _ (List.mem_of_getElem? (i := 0) rfl))
     obtain ⟨u49, hu49, r50⟩ := bind_some r35
     refine .callW (b1 := []) (b2 := [_, _, _]) (s1 := []) [_] [] .d1 rfl rfl Tryz.call69 rfl rfl (parity_each_c (G := G42) mcs s48 hu49) rfl B44 (fun v52 bo so G53 e54 B55 h57 => ?_)
     obtain ⟨F58, c59, rfl, rfl, rfl, hc60, hi61⟩ := h57
     refine .same (bl' := [_, _, _]) (sl' := [_]) rfl rfl rfl (.clsL (HpLe.trans e43 e54) (pick_mem [0, 1, 2] rfl) ?_)
     obtain ⟨u62, hu62, r63⟩ := bind_some r50
     refine .callS (b1 := []) (b2 := [_, _, _]) (s1 := []) [_, _, _] [] .d1 rfl rfl Tryz.call68 rfl rfl (parity_sum_c (G := G53) mcs hc60 hi61 hu62) rfl (fun v70 bo so h71 => ?_)
     obtain ⟨a72, k73, cs74, rfl, rfl, rfl, o75⟩ := h71
     refine .same (bl' := [_, _, _]) (sl' := [_, _]) rfl rfl rfl (.clsL (HpLe.trans e43 e54) (pick_mem [0, 1, 2] rfl) ?_)
     refine .freezeR 0 rfl rfl o75 [_] rfl B55 (fun G76 e77 B78 s79 => ?_)
     refine .toV 0 rfl (fun vb80 po81 va82 vb83 => ?_)
     obtain ⟨u84, hu84, r85⟩ := bind_some r63
     refine .callS (b1 := []) (b2 := [_, _, _]) (s1 := [_]) [_, _, _, _] [] .d2 rfl rfl Tryz.call67 rfl rfl (residue_Field_AddTimes_c (G := G76) mcs va82 (OL.mono (HpLe.trans (HpLe.trans e43 e54) e77) o41) s79 hu84) rfl (fun v86 bo so h87 => ?_)
     obtain ⟨cs88, rfl, rfl, rfl, o89, hl90⟩ := h87
     refine .same (bl' := [_, _, _]) (sl' := [_]) rfl rfl rfl (.ofV 0 rfl vb83 hl90 o89 rfl (.reval 67 hl90 rfl (.reval 19 hl90 rfl (.reval 70 hl90 rfl ?_))))
     have o91 := OL.flat (G := G10) (Rep.flat_int _) o89
     refine hc47 _ _ _ _ _ _ (HpLe.trans e54 e77) ?_
     refine .draw_end (.prune [(14, _), (9, _), (11, _), (19, _)] ⟨rfl, rfl, rfl, rfl, trivial⟩ (.seq ?_))
     refine .freezeR 1 rfl rfl o91 [_] rfl B30 (fun G92 e93 B94 s95 => ?_)
     refine .drawL (.q 0 (.q 1 (.q 4 (.e 2 1 (.e 3 1 (.q 5 (.e 6 1 (.q 7 .nil)))))))) [_, _] (by kernel_rfl) (by kernel_rfl) (pick_mem [1, 2] rfl) (.dq (.move rfl) rfl (.dq (.move rfl) rfl (.dq (.load_own_a 0 [_, _] rfl rfl ty56 rfl) rfl ?_)))
     refine .lit [_] [(0, _)] .d1 sl51 ty22 rfl rfl rfl rfl rfl rfl (fun b96 hb96 => ?_)
     have o97 : OL (Rep.sl ri) G92 [.slice a38 u84.length k39] ([u84] : List (List Int)) := ((OL.cons rfl (Rep.slI s95) (OL.nil (Rp' := (Rep.sl ri)))) :)
     refine .reval 82 (n' := ([u84] : List (List Int)).length) rfl rfl (.clsL (HpLe.refl _) (pick_mem [1, 2] rfl) ?_)
     obtain ⟨u98, hu98, r99⟩ := bind_some r85
     refine .appO (Q := (Rep.sl ri)) 0 .d1 sl51 ty22 rfl rfl rfl rfl rfl rfl (OL.mono e93 o31) o97 rfl rfl rfl B94 hu98 rfl (fun a100 k101 cs102 o103 => ?_)
     refine .clsL (HpLe.refl _) (pick_mem [1, 2] rfl) (.dq (.assign rfl) rfl (.store 0 [_, _] [_, _, _] .d1 rfl rfl rfl ty56 rfl rfl rfl rfl (.clsL (HpLe.refl _) (pick_mem [1, 2] rfl) (.dq (.assign rfl) rfl (.draw_end ?_)))))
     cases r99
     refine .retWD 3 (.inr ⟨_, rfl⟩) [.tmp 10, .cell 11 56, .tmp 12] [_, _, _] rfl Tryz.func21 Tryz.results21 ⟨RV.tmp rfl, RV.cell_a 0 [_, _] rfl rfl ty56 rfl, RV.tmp rfl, trivial⟩ mcm mcs B94 (by subst hS0; simp [blks]) (fun G' hg => ⟨a25, k26, a100, k101, cs102, rfl, rfl, rfl, (SlR.mono hg (SlR.mono e93 s32)), (OL.mono hg o103)⟩)
    ·intro hb104
     refine .block (.own_nil 22 1 (.pull 1 rfl [_, _, _] rfl ?_))
     refine .loop2 (α := Nat × Hp × List (List Int) × Option Addr × Nat × List Value × Int × List Int × Option Addr × Nat × Int) (fun y => [(14, .slice y.2.2.2.1 y.2.2.1.length y.2.2.2.2.1), (39, .int .i64 y.2.2.2.2.2.2.1)]) [(1, _), (3, _), (5, _), (9, _), (11, _), (38, _)] (fun y => [y.2.1]) (fun y => [(b2, .cells #[.slice y.2.2.2.2.2.2.2.2.1 y.2.2.2.2.2.2.2.1.length y.2.2.2.2.2.2.2.2.2.1, .int .i64 y.2.2.2.2.2.2.2.2.2.2] 56 (0, 0))]) [_, _] (fun y => [.s (.slice y.2.2.2.1 y.2.2.1.length y.2.2.2.2.1) 22 1 y.2.2.1.length y.2.2.2.2.2.1]) [] (fun y => HpLe G y.2.1 ∧ Bd w0 S0 Fs y.2.1 ∧ OL (Rep.sl ri) y.2.1 y.2.2.2.2.2.1 y.2.2.1 ∧ SlR ri y.2.1 y.2.2.2.2.2.2.2.2.1 y.2.2.2.2.2.2.2.2.2.1 y.2.2.2.2.2.2.2.1 ∧ parity_Queries_L2 (parity_Queries_J1 x1 x3) x1 (w64 (x2 - 1)) x0_0 y.1 y.2.2.1 y.2.2.2.2.2.2.1 y.2.2.2.2.2.2.2.1 y.2.2.2.2.2.2.2.2.2.2 = some r) (fun y => y.1) (big, G, ([] : List (List Int)), none, 0, [], 0, x4_0, a4_0, k4_0, x4_1) ⟨(HpLe.refl _), B0, (OL.nil (Rp' := (Rep.sl ri))), s4_0, r19⟩ ⟨rfl, rfl, rfl, rfl, rfl, rfl, rfl, rfl, trivial⟩ rfl rfl rfl (fun y hI hb105 => ?_)
     obtain ⟨n106, G107, v108, a109, k110, cs111, v112, v113, a114, k115, v116⟩ := y
     obtain ⟨e117, B118, o119, s120, r121⟩ := hI
     try dsimp only at e117 B118 o119 s120 r121
     refine .prune [(14, .slice a109 v108.length k110), (39, .int .i64 v112), (1, _), (3, _), (5, _), (9, _), (11, _), (38, _)] ⟨rfl, rfl, rfl, rfl, rfl, rfl, rfl, rfl, trivial⟩ (.same (bl' := [(b2, .cells #[.slice a114 v113.length k115, .int .i64 v116] 56 (0, 0)), _, _]) (sl' := [.s (.slice a109 v108.length k110) 22 1 v108.length cs111]) (Fs' := G107 :: Fs) rfl rfl rfl ?_)
     obtain ⟨m122, rfl⟩ : ∃ m, n106 = m + 1 := by cases n106 with | zero => exact absurd (show (none : Option _) = some _ from r121) (by simp) | succ m => exact ⟨m, rfl⟩
     have r123 : parity_Queries_B2 (parity_Queries_J1 x1 x3) x1 (w64 (x2 - 1)) x0_0 (parity_Queries_L2 (parity_Queries_J1 x1 x3) x1 (w64 (x2 - 1)) x0_0 m122) v108 v112 v113 v116 = some r := r121; clear r121; unfold parity_Queries_B2 at r123; try dsimp only at r123
     refine .seq (.region rfl (.q .ro (.lss rfl rfl) rfl (.re (.seq ?_))))
     refine .cond_dec rfl (fun c124 => ?_) (fun c124 => ?_)
     ·have r125 := ifT r123 c124; clear r123
      refine .skip (.seq (.block (.seq (.region rfl (.q .ro (.load_own_a 0 [_, _] rfl rfl ty56 rfl) rfl (.q .ro (.fieldAddr 0 rfl fl45_0 ty3.sz rfl) rfl (.q .ro (.load_own 2 rfl rfl ty3 rfl) rfl (.mv rfl rfl ?_))))))))
      obtain ⟨u126, hu126, r127⟩ := bind_some r125
      refine .callW (b1 := []) (b2 := [_, _, _]) (s1 := []) [_, _, _] [] .ro rfl rfl Tryz.call65 rfl rfl (tape_Draws_c (G := G107) mcs s120 hu126) rfl B118 (fun v128 bo so G129 e130 B131 h132 => ?_)
      obtain ⟨a133, k134, a135, k136, cs137, rfl, rfl, rfl, s138, o139⟩ := h132
      refine .same (bl' := [_, _, _]) (sl' := [_, _]) rfl rfl rfl (.mv rfl rfl (.q .ro (.extract rfl rfl) rfl (.q .ro (.extract rfl rfl) rfl (.q .ro (.extract rfl rfl) rfl ?_))))
      refine .alloc .ro ty56 rfl (fun b140 hb140 => ?_)
      refine .store 0 [_, _] [_, _, _, _] .ro rfl rfl rfl ty56 rfl rfl rfl rfl (.av rfl rfl (.av rfl rfl (.re (.seq (.seq (.region rfl (.mv rfl rfl (.q .ro (.neq rfl rfl) rfl (.re ?_)))))))))
      refine .cond_dec rfl (fun c141 => ?_) (fun c141 => ?_)
      ·have r142 := ifT r127 c141; clear r127
       refine .seq (.region rfl (.q .ro (.build [_, _] [] ty56 pl56 rfl rfl) rfl (.mv rfl rfl (.av rfl rfl (.store 2 [_, _] [_, _, _, _] .ro rfl rfl rfl ty56 rfl rfl rfl rfl (.av rfl rfl (.re (.prune [(11, _), (10, _), (12, _)] ⟨rfl, rfl, rfl, trivial⟩ (.own_nil 22 1 ?_)))))))))
       cases r142
       refine .pullS 2 rfl [_, _, _] rfl (.pullS 2 rfl [_, _, _] rfl (.drop 0 2 _ [_] rfl rfl ?_))
       refine .retWD 4 (.inr ⟨_, rfl⟩) [.tmp 10, .cell 11 56, .tmp 12] [_, _, _] rfl Tryz.func21 Tryz.results21 ⟨RV.tmp rfl, RV.cell_a 2 [_, _] rfl rfl ty56 rfl, RV.tmp rfl, trivial⟩ mcm mcs B131 (by subst hS0; simp [blks]) (fun G' hg => ⟨none, 0, none, 0, [], rfl, rfl, rfl, (SlR.mono hg (SlR.nil (Rp' := ri))), (OL.mono hg (OL.nil (Rp' := (Rep.sl ri))))⟩)
      ·have r143 := ifF r127 c141; clear r127
       refine .skip ?_
       refine .freezeR 0 rfl rfl o139 [_] rfl B131 (fun G144 e145 B146 s147 => ?_)
       refine .drawL (.q 0 (.q 1 (.q 2 (.e 3 1 (.e 4 1 (.e 5 1 (.q 6 .nil))))))) [_, _, _] (by kernel_rfl) (by kernel_rfl) (pick_mem [0, 2, 3] rfl) (.dq (.load_own_a 0 [_, _] rfl rfl ty56 rfl) rfl (.dq (.move rfl) rfl (.dq (.move rfl) rfl ?_)))
       refine .lit [_] [(0, _)] .d1 sl51 ty22 rfl rfl rfl rfl rfl rfl (fun b148 hb148 => ?_)
       have o149 : OL (Rep.sl ri) G144 [.slice a135 u126.2.1.length k136] ([u126.2.1] : List (List Int)) := ((OL.cons rfl (Rep.slI s147) (OL.nil (Rp' := (Rep.sl ri)))) :)
       refine .reval 57 (n' := ([u126.2.1] : List (List Int)).length) rfl rfl (.clsL (HpLe.refl _) (pick_mem [0, 2, 3] rfl) ?_)
       obtain ⟨u150, hu150, r151⟩ := bind_some r143
       refine .appO (Q := (Rep.sl ri)) 0 .d1 sl51 ty22 rfl rfl rfl rfl rfl rfl (OL.mono (HpLe.trans e130 e145) o119) o149 rfl rfl rfl B146 hu150 rfl (fun a152 k153 cs154 o155 => ?_)
       refine .clsL (HpLe.refl _) (pick_mem [0, 2, 3] rfl) (.store 1 [_, _] [_, _, _, _] .d1 rfl rfl rfl ty56 rfl rfl rfl rfl (.clsL (HpLe.refl _) (pick_mem [0, 2, 3] rfl) (.dq (.assign rfl) rfl (.draw_end (.prune [(14, _), (39, _), (1, _), (3, _), (5, _), (9, _), (11, _), (38, _)] ⟨rfl, rfl, rfl, rfl, rfl, rfl, rfl, rfl, trivial⟩ (.inBlock (.region rfl (.q .ro (.addw rfl rfl) rfl (.mv rfl rfl (.re (.drop 1 0 [_, _, _] _ rfl rfl ?_)))))))))))
       exact .arr (hb105 (m122, G144, u150, a152, k153, cs154, (w64 (v112 + 1)), u126.1.1, a133, k134, u126.1.2) ⟨(HpLe.trans (HpLe.trans e117 e130) e145), B146, o155, (SlR.mono e145 s138), r151⟩ (Nat.lt_succ_self _)) ⟨rfl, rfl, rfl, rfl, rfl, rfl, rfl, rfl, trivial⟩
     ·have r156 := ifF r123 c124; clear r123
      refine .exit rfl (.pull 2 rfl [_, _, _] rfl (.pull 1 rfl [_, _, _] rfl (.pull 2 rfl [_, _, _] rfl ?_)))
      exact .arr (hb104 (G107, v108, a109, k110, cs111, 0, v113, a114, k115, v116, x0_0) ⟨e117, B118, o119, s120, r156⟩) ⟨rfl, rfl, rfl, rfl, rfl, rfl, trivial⟩
  ·intro hb13
   refine .split 31 rfl (fun c12 => ?_) (fun c12 => ?_)
   ·refine .g_off rfl rfl rfl ?_
    refine .g_off rfl rfl rfl (.g_off rfl rfl rfl (.q .ro (.pick_t rfl rfl) rfl ?_))
    exact .arr (hb13 () trivial) ⟨dor_t c12, rfl, rfl, rfl, rfl, rfl, rfl, trivial⟩
   ·refine .g_on rfl ?_
    refine .mv rfl rfl (.g_on rfl (.mv rfl rfl (.g_on rfl (.q .ro (.geq rfl rfl) rfl (.q .ro (.pick_f rfl rfl) rfl ?_)))))
    exact .arr (hb13 () trivial) ⟨dor_f c12, rfl, rfl, rfl, rfl, rfl, rfl, trivial⟩
theorem ref02_Seeded_c {Fs : List Hp} {G : Hp} {x0 : Int} {a1 : Option Addr} {k1 : Nat} {x1 : List Int} {r : (((List Int) × Int) × Int)} (hG : G ∈ Fs) (s1 : SlR ri G a1 k1 x1) (h : ref02_Seeded x0 x1 = some r) : RetW Tryz.prog 70 #[.int .i64 x0, .slice a1 x1.length k1] Fs [] [] (fun v bo so G => ∃ a0 : Option Addr, ∃ k0 : Nat, v = .tuple #[.agg #[.slice a0 r.1.1.length k0, .int .i64 r.1.2], .int .i64 r.2] ∧ bo = [] ∧ so = [] ∧ SlR ri G a0 k0 r.1.1) := by
 unfold ref02_Seeded at h
 try dsimp only at h
 refine RetW.of (vs := [_, _]) Tryz.func70 rfl Tryz.ntmps70 [(0, _), (1, _)] ⟨rfl, rfl, trivial⟩ rfl hG fun w0 S0 hS0 B0 => ?_
 refine .seq (.region rfl ?_)
 refine .alloc .ro ty56 rfl (fun b1 hb1 => ?_)
 refine .av rfl rfl (.re (.seq (.seq (.region rfl (.mv rfl rfl (.q .ro (.lss rfl rfl) rfl (.mv rfl rfl ?_)))))))
 refine .cutR 3 (β := Unit) (fun y => [(16, .bool (decide ((x0 < 1) ∨ (2147483647 ≤ x0))))]) [(0, _), (1, _), (4, _)] (fun y => G :: Fs) (fun y => []) [_] (fun y => []) [] (fun y => True) ⟨rfl, rfl, rfl, trivial⟩ [0] rfl [] rfl ?_ ?_
 ·rintro _ _
  refine .prune [(16, .bool (decide ((x0 < 1) ∨ (2147483647 ≤ x0)))), (0, _), (1, _), (4, _)] ⟨rfl, rfl, rfl, rfl, trivial⟩ (.same (bl' := [_]) (sl' := []) (Fs' := G :: Fs) rfl rfl rfl (.re ?_))
  refine .cond_dec rfl (fun c6 => ?_) (fun c6 => ?_)
  ·have r7 := ifT h c6; clear h
   refine .seq (.region rfl (.q .ro (.build [_, _] [] ty56 pl56 rfl rfl) rfl (.store 0 [_, _] [_] .ro rfl rfl rfl ty56 rfl rfl rfl rfl (.av rfl rfl (.re ?_)))))
   cases r7
   refine .retWD 1 (.inr ⟨_, rfl⟩) [.cell 4 56, .tmp 5] [_, _] rfl Tryz.func70 Tryz.results70 ⟨RV.cell_a 0 [_, _] rfl rfl ty56 rfl, RV.tmp rfl, trivial⟩ mcm mcs B0 (by subst hS0; simp [blks]) (fun G' hg => ⟨none, 0, rfl, rfl, rfl, (SlR.mono hg (SlR.nil (Rp' := ri)))⟩)
  ·have r8 := ifF h c6; clear h
   refine .skip (.seq (.seq (.region rfl (.mv rfl rfl (.q .ro (.len_sl rfl rfl sl22) rfl (.q .ro (.gtr rfl rfl) rfl (.re ?_)))))))
   refine .cond_dec rfl (fun c9 => ?_) (fun c9 => ?_)
   ·have r10 := ifT r8 c9; clear r8
    refine .seq (.region rfl (.q .ro (.build [_, _] [] ty56 pl56 rfl rfl) rfl (.store 0 [_, _] [_] .ro rfl rfl rfl ty56 rfl rfl rfl rfl (.av rfl rfl (.re ?_)))))
    cases r10
    refine .retWD 1 (.inr ⟨_, rfl⟩) [.cell 4 56, .tmp 5] [_, _] rfl Tryz.func70 Tryz.results70 ⟨RV.cell_a 0 [_, _] rfl rfl ty56 rfl, RV.tmp rfl, trivial⟩ mcm mcs B0 (by subst hS0; simp [blks]) (fun G' hg => ⟨none, 0, rfl, rfl, rfl, (SlR.mono hg (SlR.nil (Rp' := ri)))⟩)
   ·have r11 := ifF r8 c9; clear r8
    refine .skip (.seq (.seq (.region rfl (.mv rfl rfl (.q .ro (.len_sl rfl rfl sl22) rfl (.mv rfl rfl (.re ?_)))))))
    refine .cutB (β := Int) (fun y => []) [(0, _), (1, _), (4, _)] (fun y => G :: Fs) (fun y => [(b1, .cells #[.slice none 0 0, .int .i64 y] 56 (0, 0))]) [] (fun y => []) [] (fun y => (ref02_Seeded_J3 x0 x1) y = some r) ⟨rfl, rfl, rfl, trivial⟩ [] rfl [] rfl ?_ ?_
    ·intro v52 hI
     have r54 := hI; clear hI
     refine .prune [(0, _), (1, _), (4, _)] ⟨rfl, rfl, rfl, trivial⟩ (.same (bl' := [(b1, .cells #[.slice none 0 0, .int .i64 v52] 56 (0, 0))]) (sl' := []) (Fs' := G :: Fs) rfl rfl rfl ?_)
     unfold ref02_Seeded_J3 at r54
     try dsimp only at r54
     refine .seq (.region rfl ?_)
     refine .alloc .ro ty56 rfl (fun b57 hb57 => ?_)
     refine .re (.seq (.seq (.region rfl (.mv rfl rfl (.q .ro (.len_sl rfl rfl sl22) rfl (.mv rfl rfl (.re ?_)))))))
     refine .cutB (β := List Int × Option Addr × Nat × List Value × Int × Int) (fun y => []) [(4, _), (8, _)] (fun y => G :: Fs) (fun y => [(b57, .cells #[.slice y.2.1 y.1.length y.2.2.1, .int .i64 y.2.2.2.2.1] 56 (0, 0)), (b1, .cells #[.slice none 0 0, .int .i64 y.2.2.2.2.2] 56 (0, 0))]) [] (fun y => [.s (.slice y.2.1 y.1.length y.2.2.1) 3 1 y.1.length y.2.2.2.1]) [] (fun y => OL ri G y.2.2.2.1 y.1 ∧ ref02_Seeded_J1 y.1 y.2.2.2.2.1 y.2.2.2.2.2 = some r) ⟨rfl, rfl, trivial⟩ [] rfl [] rfl ?_ ?_
     ·intro y hI
      obtain ⟨v12, a13, k14, cs15, v16, v17⟩ := y
      obtain ⟨o18, r19⟩ := hI
      try dsimp only at o18 r19
      refine .prune [(4, _), (8, _)] ⟨rfl, rfl, trivial⟩ (.same (bl' := [(b57, .cells #[.slice a13 v12.length k14, .int .i64 v16] 56 (0, 0)), (b1, .cells #[.slice none 0 0, .int .i64 v17] 56 (0, 0))]) (sl' := [.s (.slice a13 v12.length k14) 3 1 v12.length cs15]) (Fs' := G :: Fs) rfl rfl rfl ?_)
      unfold ref02_Seeded_J1 at r19
      try dsimp only at r19
      refine .seq (.region rfl (.q .ro (.load_own_a 0 [_, _] rfl rfl ty56 rfl) rfl (.store 1 [_, _] [_, _] .ro rfl rfl rfl ty56 rfl rfl rfl rfl (.av rfl rfl (.re ?_)))))
      refine .freezeR 0 rfl rfl o18 [] rfl B0 (fun G20 e21 B23 s24 => ?_)
      cases r19
      refine .retWD 2 (.inr ⟨_, rfl⟩) [.cell 4 56, .tmp 5] [_, _] rfl Tryz.func70 Tryz.results70 ⟨RV.cell_a 1 [_, _] rfl rfl ty56 rfl, RV.tmp rfl, trivial⟩ mcm mcs B23 (by subst hS0; simp [blks]) (fun G' hg => ⟨a13, k14, rfl, rfl, rfl, (SlR.mono hg s24)⟩)
     ·intro hb25
      refine .block (.own_nil 3 1 ?_)
      refine .loop2 (α := Nat × List Int × Int × List Int × Option Addr × Nat × List Value) (fun y => [(0, .int .i64 y.2.2.1), (38, .int .i64 (y.1 : Int))]) [(4, _), (8, _), (36, _), (37, _)] (fun y => []) (fun y => [(b57, .cells #[.slice y.2.2.2.2.1 y.2.2.2.1.length y.2.2.2.2.2.1, .int .i64 0] 56 (0, 0))]) [_] (fun y => [.s (.slice y.2.2.2.2.1 y.2.2.2.1.length y.2.2.2.2.2.1) 3 1 y.2.2.2.1.length y.2.2.2.2.2.2]) [] (fun y => OL ri G y.2.2.2.2.2.2 y.2.2.2.1 ∧ List.drop y.1 x1 = y.2.1 ∧ ref02_Seeded_L2 ref02_Seeded_J1 v52 y.2.1 y.2.2.1 y.2.2.2.1 = some r) (fun y => y.2.1.length) (0, x1, x0, ([] : List Int), none, 0, []) ⟨(OL.nil (Rp' := ri)), rfl, r54⟩ ⟨rfl, rfl, rfl, rfl, rfl, rfl, trivial⟩ rfl rfl rfl (fun y hI hb26 => ?_)
      obtain ⟨i27, w28, v29, v30, a31, k32, cs33⟩ := y
      obtain ⟨o34, g35, r36⟩ := hI
      try dsimp only at o34 g35 r36
      refine .prune [(0, .int .i64 v29), (38, .int .i64 (i27 : Int)), (4, _), (8, _), (36, _), (37, _)] ⟨rfl, rfl, rfl, rfl, rfl, rfl, trivial⟩ (.same (bl' := [(b57, .cells #[.slice a31 v30.length k32, .int .i64 0] 56 (0, 0)), _]) (sl' := [.s (.slice a31 v30.length k32) 3 1 v30.length cs33]) (Fs' := G :: Fs) rfl rfl rfl ?_)
      cases w28 with
      | nil =>
       rw [ref02_Seeded_L2] at r36; try dsimp only at r36
       refine .seq (.region rfl (.q .ro (.lss rfl rfl) rfl (.re (.seq ?_))))
       refine .cond_dec rfl (fun c => absurd c (drop_nil g35)) (fun _ => ?_)
       refine .exit rfl ?_
       exact .arr (hb25 (v30, a31, k32, cs33, 0, v52) ⟨o34, r36⟩) ⟨rfl, rfl, trivial⟩
      | cons x37 xs38 =>
       have r39 : ref02_Seeded_B2 ref02_Seeded_J1 v52 (ref02_Seeded_L2 ref02_Seeded_J1 v52 xs38) x37 v29 v30 = some r := r36; clear r36; unfold ref02_Seeded_B2 at r39; try dsimp only at r39
       refine .seq (.region rfl (.q .ro (.lss rfl rfl) rfl (.re (.seq ?_))))
       refine .cond_dec rfl (fun _ => ?_) (fun c => absurd (drop_lt g35) c)
       refine .skip (.seq (.block (.seq (.region rfl ?_))))
       obtain ⟨c40, p41, h42⟩ := SlR.get s1 (drop_idx g35)
       obtain rfl := h42
       refine .q .ro (.idxR s1 rfl rfl (drop_idx g35) sl22 ty3.sz) rfl (.q .ro (.load_rp p41 mcs rfl ty3 rfl) rfl (.av rfl rfl (.re (.seq (.region rfl (.mv rfl rfl (.q .ro (.mulw rfl rfl) rfl (.q .ro (.remt rfl rfl (by decide)) rfl (.av rfl rfl (.re (.drawL (.q 0 (.q 1 (.q 2 (.q 3 (.q 4 (.e 5 1 (.e 6 1 (.q 7 (.e 8 2 .nil))))))))) [_, _] (by kernel_rfl) (by kernel_rfl) (pick_mem [0, 1] rfl) (.dq (.fieldAddr 0 rfl fl56_0 ty22.sz rfl) rfl (.dq (.load_own 0 rfl rfl ty22 rfl) rfl (.dq (.move rfl) rfl (.dq (.move rfl) rfl ?_)))))))))))))))
       obtain ⟨u43, hu43, r44⟩ := bind_some r39
       refine .dq (.remt rfl rfl (nz_some hu43)) rfl ?_
       refine .lit [_] [(0, _)] .d1 sl22 ty3 rfl rfl rfl rfl rfl rfl (fun b45 hb45 => ?_)
       have o46 : OL ri G [.int .i64 (Int.tmod (Int.tmod (w64 (v29 * 48271)) 2147483647) x37)] ([(Int.tmod (Int.tmod (w64 (v29 * 48271)) 2147483647) x37)] : List Int) := ((OL.cons rfl (Rep.intI .i64 (Int.tmod (Int.tmod (w64 (v29 * 48271)) 2147483647) x37)) (OL.nil (Rp' := ri))) :)
       refine .reval 50 (n' := ([(Int.tmod (Int.tmod (w64 (v29 * 48271)) 2147483647) x37)] : List Int).length) rfl rfl (.clsL (HpLe.refl _) (pick_mem [0, 1] rfl) ?_)
       obtain ⟨u47, hu47, r48⟩ := bind_some r44
       refine .appO (Q := ri) 0 .d1 sl22 ty3 rfl rfl rfl rfl rfl rfl o34 o46 rfl rfl rfl B0 hu47 rfl (fun a49 k50 cs51 o53 => ?_)
       refine .clsL (HpLe.refl _) (pick_mem [0, 1] rfl) (.dq (.fieldAddr 0 rfl fl56_0 ty22.sz rfl) rfl (.store 0 [_, _] [_, _] .d2 rfl rfl rfl ty22 rfl rfl rfl rfl (.draw_end (.prune [(0, _), (38, _), (4, _), (8, _), (36, _), (37, _)] ⟨rfl, rfl, rfl, rfl, rfl, rfl, trivial⟩ (.inBlock (.region rfl (.q .ro (.addw rfl rfl) rfl (.mv rfl rfl (.re ?_)))))))))
       exact .arr (hb26 ((i27 + 1), xs38, (Int.tmod (w64 (v29 * 48271)) 2147483647), u47, a49, k50, cs51) ⟨o53, (drop_succ g35), r48⟩ (Nat.lt_succ_self _)) ⟨rfl, (congrArg (fun z => some (Value.int .i64 z)) (idx_wrap (SlR.len s1) g35)), rfl, rfl, rfl, rfl, trivial⟩
    ·intro hb55
     refine .block ?_
     refine .loop2 (α := Nat × List Int) (fun y => [(24, .int .i64 (y.1 : Int))]) [(0, _), (1, _), (4, _), (22, _), (23, _)] (fun y => []) (fun y => []) [_] (fun y => []) [] (fun y => List.drop y.1 x1 = y.2 ∧ ref02_Seeded_L4 (ref02_Seeded_J3 x0 x1) y.2  = some r) (fun y => y.2.length) (0, x1) ⟨rfl, r11⟩ ⟨rfl, rfl, rfl, rfl, rfl, rfl, trivial⟩ rfl rfl rfl (fun y hI hb58 => ?_)
     obtain ⟨i59, w60⟩ := y
     obtain ⟨g61, r62⟩ := hI
     try dsimp only at g61 r62
     refine .prune [(24, .int .i64 (i59 : Int)), (0, _), (1, _), (4, _), (22, _), (23, _)] ⟨rfl, rfl, rfl, rfl, rfl, rfl, trivial⟩ (.same (bl' := [_]) (sl' := []) (Fs' := G :: Fs) rfl rfl rfl ?_)
     cases w60 with
     | nil =>
      rw [ref02_Seeded_L4] at r62; try dsimp only at r62
      refine .seq (.region rfl (.q .ro (.lss rfl rfl) rfl (.re (.seq ?_))))
      refine .cond_dec rfl (fun c => absurd c (drop_nil g61)) (fun _ => ?_)
      refine .exit rfl ?_
      exact .arr (hb55 (0) r62) ⟨rfl, rfl, rfl, trivial⟩
     | cons x63 xs65 =>
      have r66 : ref02_Seeded_B4 (ref02_Seeded_J3 x0 x1) (ref02_Seeded_L4 (ref02_Seeded_J3 x0 x1) xs65) x63  = some r := r62; clear r62; unfold ref02_Seeded_B4 at r66; try dsimp only at r66
      refine .seq (.region rfl (.q .ro (.lss rfl rfl) rfl (.re (.seq ?_))))
      refine .cond_dec rfl (fun _ => ?_) (fun c => absurd (drop_lt g61) c)
      refine .skip (.seq (.block (.seq (.region rfl ?_))))
      obtain ⟨c67, p68, h69⟩ := SlR.get s1 (drop_idx g61)
      obtain rfl := h69
      refine .q .ro (.idxR s1 rfl rfl (drop_idx g61) sl22 ty3.sz) rfl (.q .ro (.load_rp p68 mcs rfl ty3 rfl) rfl (.av rfl rfl (.re (.seq (.region rfl (.mv rfl rfl (.q .ro (.lss rfl rfl) rfl (.mv rfl rfl ?_))))))))
      refine .cutR 3 (β := Unit) (fun y => [(33, .bool (decide ((x63 < 1) ∨ (2147483647 < x63))))]) [(24, _), (0, _), (1, _), (4, _), (22, _), (23, _)] (fun y => G :: Fs) (fun y => []) [_] (fun y => []) [] (fun y => True) ⟨rfl, rfl, rfl, rfl, rfl, rfl, trivial⟩ [0] rfl [] rfl ?_ ?_
      ·rintro _ _
       refine .prune [(33, .bool (decide ((x63 < 1) ∨ (2147483647 < x63)))), (24, _), (0, _), (1, _), (4, _), (22, _), (23, _)] ⟨rfl, rfl, rfl, rfl, rfl, rfl, rfl, trivial⟩ (.same (bl' := [_]) (sl' := []) (Fs' := G :: Fs) rfl rfl rfl (.re ?_))
       refine .cond_dec rfl (fun c71 => ?_) (fun c71 => ?_)
       ·have r72 := ifT r66 c71; clear r66
        refine .seq (.region rfl (.q .ro (.build [_, _] [] ty56 pl56 rfl rfl) rfl (.store 0 [_, _] [_] .ro rfl rfl rfl ty56 rfl rfl rfl rfl (.av rfl rfl (.re ?_)))))
        cases r72
        refine .retWD 1 (.inr ⟨_, rfl⟩) [.cell 4 56, .tmp 5] [_, _] rfl Tryz.func70 Tryz.results70 ⟨RV.cell_a 0 [_, _] rfl rfl ty56 rfl, RV.tmp rfl, trivial⟩ mcm mcs B0 (by subst hS0; simp [blks]) (fun G' hg => ⟨none, 0, rfl, rfl, rfl, (SlR.mono hg (SlR.nil (Rp' := ri)))⟩)
       ·have r73 := ifF r66 c71; clear r66
        refine .skip (.inBlock (.region rfl (.q .ro (.addw rfl rfl) rfl (.mv rfl rfl (.re ?_)))))
        exact .arr (hb58 ((i59 + 1), xs65) ⟨(drop_succ g61), r73⟩ (Nat.lt_succ_self _)) ⟨(congrArg (fun z => some (Value.int .i64 z)) (idx_wrap (SlR.len s1) g61)), rfl, rfl, rfl, rfl, rfl, trivial⟩
      ·intro hb74
       refine .split 30 rfl (fun c75 => ?_) (fun c75 => ?_)
       ·refine .g_off rfl rfl rfl ?_
        refine .g_off rfl rfl rfl (.q .ro (.pick_t rfl rfl) rfl ?_)
        exact .arr (hb74 () trivial) ⟨dor_t c75, rfl, rfl, rfl, rfl, rfl, rfl, trivial⟩
       ·refine .g_on rfl ?_
        refine .mv rfl rfl (.g_on rfl (.q .ro (.gtr rfl rfl) rfl (.q .ro (.pick_f rfl rfl) rfl ?_)))
        exact .arr (hb74 () trivial) ⟨dor_f c75, rfl, rfl, rfl, rfl, rfl, rfl, trivial⟩
 ·intro hb3
  refine .split 13 rfl (fun c2 => ?_) (fun c2 => ?_)
  ·refine .g_off rfl rfl rfl ?_
   refine .g_off rfl rfl rfl (.q .ro (.pick_t rfl rfl) rfl ?_)
   exact .arr (hb3 () trivial) ⟨dor_t c2, rfl, rfl, rfl, trivial⟩
  ·refine .g_on rfl ?_
   refine .mv rfl rfl (.g_on rfl (.q .ro (.geq rfl rfl) rfl (.q .ro (.pick_f rfl rfl) rfl ?_)))
   exact .arr (hb3 () trivial) ⟨dor_f c2, rfl, rfl, rfl, trivial⟩
theorem make_Seed_c {Fs : List Hp} {G : Hp} {p0 : Nat} {a0_0 : Option Addr} {k0_0 : Nat} {x0_0 : List Int} {x0_1 : Int} {a1 : Option Addr} {k1 : Nat} {x1 : List Int} {r : (((List Int) × Int) × ((List Int) × Int))} (hG : G ∈ Fs) (s0_0 : SlR ri G a0_0 k0_0 x0_0) (s1 : SlR ri G a1 k1 x1) (h : make_Seed (x0_0, x0_1) x1 = some r) : RetW Tryz.prog 22 #[.pointer (some ⟨p0, 0, none⟩), .slice a1 x1.length k1] Fs [(p0, .cells #[.slice a0_0 x0_0.length k0_0, .int .i64 x0_1] 121 (0, 0))] [] (fun v bo so G => ∃ a0 : Option Addr, ∃ k0 : Nat, ∃ a1 : Option Addr, ∃ k1 : Nat, v = .agg #[.slice a0 r.1.1.length k0, .int .i64 r.1.2] ∧ bo = [(p0, .cells #[.slice a1 r.2.1.length k1, .int .i64 r.2.2] 121 (0, 0))] ∧ so = [] ∧ SlR ri G a0 k0 r.1.1 ∧ SlR ri G a1 k1 r.2.1) := by
 unfold make_Seed at h
 try dsimp only at h
 refine RetW.of (vs := [_, _]) Tryz.func22 rfl Tryz.ntmps22 [(0, _), (1, _)] ⟨rfl, rfl, trivial⟩ rfl hG fun w0 S0 hS0 B0 => ?_
 refine .seq (.region rfl ?_)
 refine .alloc .ro ty56 rfl (fun b1 hb1 => ?_)
 refine .re (.seq (.region rfl (.mv rfl rfl ?_)))
 obtain ⟨u2, hu2, r3⟩ := bind_some h
 refine .pull 1 rfl [_, _] rfl ?_
 refine .callS (b1 := [_]) (b2 := [_]) (s1 := []) [_, _] [] .ro rfl rfl Tryz.call18 rfl rfl (make_Deck_Next_c (G := G) mcs s0_0 hu2) rfl (fun v5 bo so h4 => ?_)
 obtain ⟨a6, k7, rfl, rfl, rfl, s8⟩ := h4
 refine .same (bl' := [_, _]) (sl' := []) rfl rfl rfl (.q .ro (.addw rfl rfl) rfl (.mv rfl rfl ?_))
 obtain ⟨u9, hu9, r10⟩ := bind_some r3
 refine .callW (b1 := []) (b2 := [_, _]) (s1 := []) [_, _] [] .ro rfl rfl Tryz.call70 rfl rfl (ref02_Seeded_c (G := G) mcs s1 hu9) rfl B0 (fun v12 bo so G13 e14 B15 h11 => ?_)
 obtain ⟨a17, k18, rfl, rfl, rfl, s19⟩ := h11
 refine .same (bl' := [_, _]) (sl' := []) rfl rfl rfl (.mv rfl rfl (.q .ro (.extract rfl rfl) rfl (.q .ro (.extract rfl rfl) rfl ?_)))
 refine .alloc .ro ty56 rfl (fun b20 hb20 => ?_)
 refine .store 0 [_, _] [_, _, _] .ro rfl rfl rfl ty56 rfl rfl rfl rfl (.av rfl rfl (.re (.seq (.region rfl (.q .ro (.load_own_a 0 [_, _] rfl rfl ty56 rfl) rfl (.store 2 [_, _] [_, _, _] .ro rfl rfl rfl ty56 rfl rfl rfl rfl (.re (.prune [(4, _)] ⟨rfl, trivial⟩ ?_))))))))
 cases r10
 refine .pull 1 rfl [_, _, _] rfl (.pull 2 rfl [_, _, _] rfl (.pull 2 rfl [_, _, _] rfl ?_))
 refine .retWD 2 (.inr ⟨_, rfl⟩) [.cell 4 56] [_] rfl Tryz.func22 Tryz.results22 ⟨RV.cell_a 1 [_, _] rfl rfl ty56 rfl, trivial⟩ mcm mcs B15 (by subst hS0; simp [blks]) (fun G' hg => ⟨a17, k18, a6, k7, rfl, rfl, rfl, (SlR.mono hg s19), (SlR.mono hg (SlR.mono e14 s8))⟩)
theorem parity_Decode_c {Fs : List Hp} {G : Hp} {x0_0 : Int} {x1 : Int} {a2 : Option Addr} {k2 : Nat} {x2 : List (Bool × (List Int))} {r : (((List Int) × (List Int)) × Int)} (hG : G ∈ Fs) (s2 : SlR (Rep.pair Rep.bool (Rep.sl ri)) G a2 k2 x2) (h : parity_Decode x0_0 x1 x2 = some r) : RetW Tryz.prog 24 #[.agg #[.int .i64 x0_0], .int .i64 x1, .slice a2 x2.length k2] Fs [] [] (fun v bo so G => ∃ a0 : Option Addr, ∃ k0 : Nat, ∃ a1 : Option Addr, ∃ k1 : Nat, v = .tuple #[.agg #[.slice a0 r.1.1.length k0, .slice a1 r.1.2.length k1], .int .i64 r.2] ∧ bo = [] ∧ so = [] ∧ SlR ri G a0 k0 r.1.1 ∧ SlR ri G a1 k1 r.1.2) := by
 unfold parity_Decode at h
 try dsimp only at h
 refine RetW.of (vs := [_, _, _]) Tryz.func24 rfl Tryz.ntmps24 [(0, _), (1, _), (2, _)] ⟨rfl, rfl, rfl, trivial⟩ rfl hG fun w0 S0 hS0 B0 => ?_
 refine .seq (.region rfl ?_)
 refine .box [_] .ro rfl rfl rfl (fun b1 hb1 => ?_)
 refine .alloc .ro ty65 rfl (fun b2 hb2 => ?_)
 refine .av rfl rfl (.re (.seq (.region rfl (.q .ro (.load_own_a 1 [_] rfl rfl ty45 rfl) rfl ?_))))
 obtain ⟨u3, hu3, r4⟩ := bind_some h
 refine .callS (b1 := []) (b2 := [_, _]) (s1 := []) [_] [] .ro rfl rfl Tryz.call72 rfl rfl (residue_Of_c (G := G) mcs  hu3) rfl (fun v6 bo so h5 => ?_)
 obtain ⟨rfl, rfl, rfl⟩ := h5
 refine .same (bl' := [_, _]) (sl' := []) rfl rfl rfl (.mv rfl rfl (.q .ro (.extract rfl rfl) rfl (.q .ro (.extract rfl rfl) rfl (.av rfl rfl (.av rfl rfl (.re (.seq (.block (.seq (.region rfl (.mv rfl rfl (.q .ro (.not rfl) rfl (.av rfl rfl (.re ?_))))))))))))))
 refine .cond rfl (fun c7 => ?_) (fun c7 => ?_)
 ·have r8 := ifT r4 c7; clear r4
  refine .seq (.region rfl (.q .ro (.build [_, _] [] ty65 pl65 rfl rfl) rfl (.store 0 [_, _] [_, _] .ro rfl rfl rfl ty65 rfl rfl rfl rfl (.av rfl rfl (.re (.prune [(6, _), (7, _)] ⟨rfl, rfl, trivial⟩ ?_))))))
  cases r8
  refine .retWD 2 (.inr ⟨_, rfl⟩) [.cell 6 65, .tmp 7] [_, _] rfl Tryz.func24 Tryz.results24 ⟨RV.cell_a 0 [_, _] rfl rfl ty65 rfl, RV.tmp rfl, trivial⟩ mcm mcs B0 (by subst hS0; simp [blks]) (fun G' hg => ⟨none, 0, none, 0, rfl, rfl, rfl, (SlR.mono hg (SlR.nil (Rp' := ri))), (SlR.mono hg (SlR.nil (Rp' := ri)))⟩)
 ·have r9 := ifBF r4 c7; clear r4
  refine .seq (.region rfl (.mv rfl rfl (.q .ro (.lss rfl rfl) rfl (.mv rfl rfl ?_))))
  refine .cutR 3 (β := Unit) (fun y => [(28, .bool (decide ((x1 < 0) ∨ (64 < x1))))]) [(1, _), (2, _), (6, _), (8, _)] (fun y => G :: Fs) (fun y => []) [_, _] (fun y => []) [] (fun y => True) ⟨rfl, rfl, rfl, rfl, trivial⟩ [0, 1] rfl [] rfl ?_ ?_
  ·rintro _ _
   refine .prune [(28, .bool (decide ((x1 < 0) ∨ (64 < x1)))), (1, _), (2, _), (6, _), (8, _)] ⟨rfl, rfl, rfl, rfl, rfl, trivial⟩ (.same (bl' := [_, _]) (sl' := []) (Fs' := G :: Fs) rfl rfl rfl (.mv rfl rfl ?_))
   refine .cutR 4 (β := Unit) (fun y => [(33, .bool (decide (((x1 < 0) ∨ (64 < x1)) ∨ ((x2.length : Int) < 2))))]) [(1, _), (2, _), (6, _), (8, _)] (fun y => G :: Fs) (fun y => []) [_, _] (fun y => []) [] (fun y => True) ⟨rfl, rfl, rfl, rfl, trivial⟩ [0, 1] rfl [] rfl ?_ ?_
   ·rintro _ _
    refine .prune [(33, .bool (decide (((x1 < 0) ∨ (64 < x1)) ∨ ((x2.length : Int) < 2)))), (1, _), (2, _), (6, _), (8, _)] ⟨rfl, rfl, rfl, rfl, rfl, trivial⟩ (.same (bl' := [_, _]) (sl' := []) (Fs' := G :: Fs) rfl rfl rfl (.mv rfl rfl ?_))
    refine .cutR 4 (β := Unit) (fun y => [(38, .bool (decide ((((x1 < 0) ∨ (64 < x1)) ∨ ((x2.length : Int) < 2)) ∨ (10 < (x2.length : Int)))))]) [(1, _), (2, _), (6, _), (8, _)] (fun y => G :: Fs) (fun y => []) [_, _] (fun y => []) [] (fun y => True) ⟨rfl, rfl, rfl, rfl, trivial⟩ [0, 1] rfl [] rfl ?_ ?_
    ·rintro _ _
     refine .prune [(38, .bool (decide ((((x1 < 0) ∨ (64 < x1)) ∨ ((x2.length : Int) < 2)) ∨ (10 < (x2.length : Int))))), (1, _), (2, _), (6, _), (8, _)] ⟨rfl, rfl, rfl, rfl, rfl, trivial⟩ (.same (bl' := [_, _]) (sl' := []) (Fs' := G :: Fs) rfl rfl rfl (.av rfl rfl (.re ?_)))
     refine .cond_dec rfl (fun c22 => ?_) (fun c22 => ?_)
     ·have r23 := ifT r9 c22; clear r9
      refine .seq (.region rfl (.q .ro (.build [_, _] [] ty65 pl65 rfl rfl) rfl (.store 0 [_, _] [_, _] .ro rfl rfl rfl ty65 rfl rfl rfl rfl (.av rfl rfl (.re ?_)))))
      cases r23
      refine .retWD 2 (.inr ⟨_, rfl⟩) [.cell 6 65, .tmp 7] [_, _] rfl Tryz.func24 Tryz.results24 ⟨RV.cell_a 0 [_, _] rfl rfl ty65 rfl, RV.tmp rfl, trivial⟩ mcm mcs B0 (by subst hS0; simp [blks]) (fun G' hg => ⟨none, 0, none, 0, rfl, rfl, rfl, (SlR.mono hg (SlR.nil (Rp' := ri))), (SlR.mono hg (SlR.nil (Rp' := ri)))⟩)
     ·have r24 := ifF r9 c22; clear r9
      refine .skip (.inBlock (.seq (.region rfl (.av rfl rfl (.re (.seq (.seq (.region rfl (.mv rfl rfl (.q .ro (.len_sl rfl rfl sl60) rfl (.mv rfl rfl (.re ?_))))))))))))
      refine .cutB (β := List (List Int) × Option Addr × Nat × List Value × Int) (fun y => [(10, .slice y.2.1 y.1.length y.2.2.1)]) [(1, _), (6, _), (8, _)] (fun y => G :: Fs) (fun y => [(b1, .cells #[.int .i64 y.2.2.2.2] 45 (0, 0))]) [_] (fun y => [.s (.slice y.2.1 y.1.length y.2.2.1) 22 1 y.1.length y.2.2.2.1]) [] (fun y => OL (Rep.sl ri) G y.2.2.2.1 y.1 ∧ (parity_Decode_J1 x1 u3.1) y.1 y.2.2.2.2 = some r) ⟨rfl, rfl, rfl, trivial⟩ [0] rfl [] rfl ?_ ?_
      ·intro y hI
       obtain ⟨v12, a13, k16, cs17, v20⟩ := y
       obtain ⟨o21, r25⟩ := hI
       try dsimp only at o21 r25
       refine .prune [(10, .slice a13 v12.length k16), (1, _), (6, _), (8, _)] ⟨rfl, rfl, rfl, rfl, trivial⟩ (.same (bl' := [(b1, .cells #[.int .i64 v20] 45 (0, 0)), _]) (sl' := [.s (.slice a13 v12.length k16) 22 1 v12.length cs17]) (Fs' := G :: Fs) rfl rfl rfl ?_)
       unfold parity_Decode_J1 at r25
       try dsimp only at r25
       refine .seq (.region rfl (.mv rfl rfl (.mv rfl rfl (.mv rfl rfl ?_))))
       refine .freezeR 0 rfl rfl o21 [] rfl B0 (fun G26 e27 B28 s29 => ?_)
       obtain ⟨u30, hu30, r31⟩ := bind_some r25
       refine .callW (b1 := []) (b2 := [_, _]) (s1 := []) [_] [] .ro rfl rfl Tryz.call69 rfl rfl (parity_each_c (G := G26) mcs s29 hu30) rfl B28 (fun v32 bo so G33 e34 B35 h36 => ?_)
       obtain ⟨F37, c38, rfl, rfl, rfl, hc39, hi40⟩ := h36
       refine .same (bl' := [_, _]) (sl' := []) rfl rfl rfl ?_
       obtain ⟨u41, hu41, r42⟩ := bind_some r31
       refine .callS (b1 := []) (b2 := [_, _]) (s1 := []) [_, _, _] [] .ro rfl rfl Tryz.call68 rfl rfl (parity_sum_c (G := G33) mcs hc39 hi40 hu41) rfl (fun v43 bo so h44 => ?_)
       obtain ⟨a46, k47, cs48, rfl, rfl, rfl, o49⟩ := h44
       refine .same (bl' := [_, _]) (sl' := [_]) rfl rfl rfl (.q .ro (.build [_, _] [(0, _)] ty65 pl65 rfl rfl) rfl (.store 1 [_, _] [_, _] .ro rfl rfl rfl ty65 rfl rfl rfl rfl (.av rfl rfl (.re ?_))))
       refine .freezeR 0 rfl rfl o49 [] rfl B35 (fun G50 e52 B53 s54 => ?_)
       cases r42
       refine .retWD 2 (.inr ⟨_, rfl⟩) [.cell 6 65, .tmp 7] [_, _] rfl Tryz.func24 Tryz.results24 ⟨RV.cell_a 1 [_, _] rfl rfl ty65 rfl, RV.tmp rfl, trivial⟩ mcm mcs B53 (by subst hS0; simp [blks]) (fun G' hg => ⟨a46, k47, none, 0, rfl, rfl, rfl, (SlR.mono hg s54), (SlR.mono hg (SlR.nil (Rp' := ri)))⟩)
      ·intro hb55
       refine .block (.own_nil 22 1 ?_)
       refine .loop2 (α := Nat × (List (Bool × (List Int))) × List (List Int) × Option Addr × Nat × List Value) (fun y => [(10, .slice y.2.2.2.1 y.2.2.1.length y.2.2.2.2.1), (42, .int .i64 (y.1 : Int))]) [(1, _), (6, _), (8, _), (40, _), (41, _)] (fun y => []) (fun y => []) [_, _] (fun y => [.s (.slice y.2.2.2.1 y.2.2.1.length y.2.2.2.2.1) 22 1 y.2.2.1.length y.2.2.2.2.2]) [] (fun y => OL (Rep.sl ri) G y.2.2.2.2.2 y.2.2.1 ∧ List.drop y.1 x2 = y.2.1 ∧ parity_Decode_L2 (parity_Decode_J1 x1 u3.1) x1 u3.1 x0_0 y.2.1 y.2.2.1 = some r) (fun y => y.2.1.length) (0, x2, ([] : List (List Int)), none, 0, []) ⟨(OL.nil (Rp' := (Rep.sl ri))), rfl, r24⟩ ⟨rfl, rfl, rfl, rfl, rfl, rfl, rfl, trivial⟩ rfl rfl rfl (fun y hI hb56 => ?_)
       obtain ⟨i57, w58, v59, a61, k62, cs66⟩ := y
       obtain ⟨o67, g70, r71⟩ := hI
       try dsimp only at o67 g70 r71
       refine .prune [(10, .slice a61 v59.length k62), (42, .int .i64 (i57 : Int)), (1, _), (6, _), (8, _), (40, _), (41, _)] ⟨rfl, rfl, rfl, rfl, rfl, rfl, rfl, trivial⟩ (.same (bl' := [_, _]) (sl' := [.s (.slice a61 v59.length k62) 22 1 v59.length cs66]) (Fs' := G :: Fs) rfl rfl rfl ?_)
       cases w58 with
       | nil =>
        rw [parity_Decode_L2] at r71; try dsimp only at r71
        refine .seq (.region rfl (.q .ro (.lss rfl rfl) rfl (.re (.seq ?_))))
        refine .cond_dec rfl (fun c => absurd c (drop_nil g70)) (fun _ => ?_)
        refine .exit rfl (.pull 1 rfl [_, _] rfl ?_)
        exact .arr (hb55 (v59, a61, k62, cs66, x0_0) ⟨o67, r71⟩) ⟨rfl, rfl, rfl, rfl, trivial⟩
       | cons x74 xs75 =>
        have r76 : parity_Decode_B2 (parity_Decode_J1 x1 u3.1) x1 u3.1 x0_0 (parity_Decode_L2 (parity_Decode_J1 x1 u3.1) x1 u3.1 x0_0 xs75) x74 v59 = some r := r71; clear r71; unfold parity_Decode_B2 at r76; try dsimp only at r76
        refine .seq (.region rfl (.q .ro (.lss rfl rfl) rfl (.re (.seq ?_))))
        refine .cond_dec rfl (fun _ => ?_) (fun c => absurd (drop_lt g70) c)
        refine .skip (.seq (.block (.seq (.region rfl ?_))))
        obtain ⟨c77, p78, h79⟩ := SlR.get s2 (drop_idx g70)
        obtain ⟨_, _, rfl, rfl, a80, k81, rfl, s82⟩ := h79
        refine .q .ro (.idxR s2 rfl rfl (drop_idx g70) sl60 ty63.sz) rfl (.q .ro (.load_rp_a [_, _] p78 mcs rfl ty63 rfl) rfl ?_)
        refine .alloc .ro ty63 rfl (fun b83 hb83 => ?_)
        refine .store 0 [_, _] [_, _, _] .ro rfl rfl rfl ty63 rfl rfl rfl rfl (.re (.seq (.block (.seq (.region rfl (.q .ro (.fieldAddr 0 rfl fl63_0 ty4.sz rfl) rfl (.q .ro (.load_own 0 rfl rfl ty4 rfl) rfl (.q .ro (.not rfl) rfl (.av rfl rfl (.re ?_))))))))))
        refine .cond rfl (fun c84 => ?_) (fun c84 => ?_)
        ·have r85 := ifT r76 c84; clear r76
         refine .seq (.region rfl (.q .ro (.build [_, _] [] ty65 pl65 rfl rfl) rfl (.store 1 [_, _] [_, _, _] .ro rfl rfl rfl ty65 rfl rfl rfl rfl (.av rfl rfl (.re (.prune [(6, _), (7, _)] ⟨rfl, rfl, trivial⟩ ?_))))))
         cases r85
         refine .drop 0 1 _ [] rfl rfl ?_
         refine .retWD 3 (.inr ⟨_, rfl⟩) [.cell 6 65, .tmp 7] [_, _] rfl Tryz.func24 Tryz.results24 ⟨RV.cell_a 1 [_, _] rfl rfl ty65 rfl, RV.tmp rfl, trivial⟩ mcm mcs B0 (by subst hS0; simp [blks]) (fun G' hg => ⟨none, 0, none, 0, rfl, rfl, rfl, (SlR.mono hg (SlR.nil (Rp' := ri))), (SlR.mono hg (SlR.nil (Rp' := ri)))⟩)
        ·have r86 := ifBF r76 c84; clear r76
         refine .seq (.region rfl (.q .ro (.fieldAddr 1 rfl fl63_1 ty22.sz rfl) rfl (.q .ro (.load_own 0 rfl rfl ty22 rfl) rfl (.q .ro (.len_sl rfl rfl sl22) rfl (.mv rfl rfl (.q .ro (.neq rfl rfl) rfl (.av rfl rfl (.re ?_))))))))
         refine .cond_dec rfl (fun c87 => ?_) (fun c87 => ?_)
         ·have r88 := ifT r86 c87; clear r86
          refine .seq (.region rfl (.q .ro (.build [_, _] [] ty65 pl65 rfl rfl) rfl (.store 1 [_, _] [_, _, _] .ro rfl rfl rfl ty65 rfl rfl rfl rfl (.av rfl rfl (.re (.prune [(6, _), (7, _)] ⟨rfl, rfl, trivial⟩ ?_))))))
          cases r88
          refine .drop 0 1 _ [] rfl rfl ?_
          refine .retWD 3 (.inr ⟨_, rfl⟩) [.cell 6 65, .tmp 7] [_, _] rfl Tryz.func24 Tryz.results24 ⟨RV.cell_a 1 [_, _] rfl rfl ty65 rfl, RV.tmp rfl, trivial⟩ mcm mcs B0 (by subst hS0; simp [blks]) (fun G' hg => ⟨none, 0, none, 0, rfl, rfl, rfl, (SlR.mono hg (SlR.nil (Rp' := ri))), (SlR.mono hg (SlR.nil (Rp' := ri)))⟩)
         ·have r89 := ifF r86 c87; clear r86
          refine .seq (.region rfl (.mv rfl rfl (.q .ro (.fieldAddr 1 rfl fl63_1 ty22.sz rfl) rfl (.q .ro (.load_own 0 rfl rfl ty22 rfl) rfl ?_))))
          obtain ⟨u90, hu90, r91⟩ := bind_some r89
          refine .callS (b1 := []) (b2 := [_, _, _]) (s1 := []) [_, _] [] .ro rfl rfl Tryz.call73 rfl rfl (residue_Field_All_c (G := G) mcs s82 hu90) rfl (fun v92 bo so h93 => ?_)
          obtain ⟨rfl, rfl, rfl⟩ := h93
          refine .same (bl' := [_, _, _]) (sl' := [_]) rfl rfl rfl (.q .ro (.not rfl) rfl (.av rfl rfl (.re (.prune [(10, _), (42, _), (1, _), (6, _), (8, _), (40, _), (41, _), (12, _), (58, _)] ⟨rfl, rfl, rfl, rfl, rfl, rfl, rfl, rfl, rfl, trivial⟩ ?_))))
          refine .cond rfl (fun c94 => ?_) (fun c94 => ?_)
          ·have r95 := ifT r91 c94; clear r91
           refine .seq (.region rfl (.q .ro (.build [_, _] [] ty65 pl65 rfl rfl) rfl (.store 1 [_, _] [_, _, _] .ro rfl rfl rfl ty65 rfl rfl rfl rfl (.av rfl rfl (.re ?_)))))
           cases r95
           refine .drop 0 1 _ [] rfl rfl ?_
           refine .retWD 3 (.inr ⟨_, rfl⟩) [.cell 6 65, .tmp 7] [_, _] rfl Tryz.func24 Tryz.results24 ⟨RV.cell_a 1 [_, _] rfl rfl ty65 rfl, RV.tmp rfl, trivial⟩ mcm mcs B0 (by subst hS0; simp [blks]) (fun G' hg => ⟨none, 0, none, 0, rfl, rfl, rfl, (SlR.mono hg (SlR.nil (Rp' := ri))), (SlR.mono hg (SlR.nil (Rp' := ri)))⟩)
          ·have r96 := ifBF r91 c94; clear r91
           refine .skip (.inBlock (.region rfl (.mv rfl rfl (.q .ro (.fieldAddr 1 rfl fl63_1 ty22.sz rfl) rfl (.q .ro (.load_own 0 rfl rfl ty22 rfl) rfl ?_)))))
           refine .lit [_] [(0, _)] .ro sl51 ty22 rfl rfl rfl rfl rfl rfl (fun b97 hb97 => ?_)
           have o98 : OL (Rep.sl ri) G [.slice a80 x74.2.length k81] ([x74.2] : List (List Int)) := ((OL.cons rfl (Rep.slI s82) (OL.nil (Rp' := (Rep.sl ri)))) :)
           refine .reval 68 (n' := ([x74.2] : List (List Int)).length) rfl rfl ?_
           obtain ⟨u99, hu99, r100⟩ := bind_some r96
           refine .appO (Q := (Rep.sl ri)) 0 .ro sl51 ty22 rfl rfl rfl rfl rfl rfl o67 o98 rfl rfl rfl B0 hu99 rfl (fun a101 k102 cs103 o104 => ?_)
           refine .av rfl rfl (.re (.inBlock (.region rfl (.q .ro (.addw rfl rfl) rfl (.mv rfl rfl (.re (.drop 1 0 [_, _] _ rfl rfl ?_)))))))
           exact .arr (hb56 ((i57 + 1), xs75, u99, a101, k102, cs103) ⟨o104, (drop_succ g70), r100⟩ (Nat.lt_succ_self _)) ⟨rfl, (congrArg (fun z => some (Value.int .i64 z)) (idx_wrap (SlR.len s2) g70)), rfl, rfl, rfl, rfl, rfl, trivial⟩
    ·intro hb19
     refine .split 34 rfl (fun c18 => ?_) (fun c18 => ?_)
     ·refine .g_off rfl rfl rfl ?_
      refine .g_off rfl rfl rfl (.g_off rfl rfl rfl (.q .ro (.pick_t rfl rfl) rfl ?_))
      exact .arr (hb19 () trivial) ⟨dor_t c18, rfl, rfl, rfl, rfl, trivial⟩
     ·refine .g_on rfl ?_
      refine .mv rfl rfl (.g_on rfl (.q .ro (.len_sl rfl rfl sl60) rfl (.g_on rfl (.q .ro (.gtr rfl rfl) rfl (.q .ro (.pick_f rfl rfl) rfl ?_)))))
      exact .arr (hb19 () trivial) ⟨dor_f c18, rfl, rfl, rfl, rfl, trivial⟩
   ·intro hb15
    refine .split 29 rfl (fun c14 => ?_) (fun c14 => ?_)
    ·refine .g_off rfl rfl rfl ?_
     refine .g_off rfl rfl rfl (.g_off rfl rfl rfl (.q .ro (.pick_t rfl rfl) rfl ?_))
     exact .arr (hb15 () trivial) ⟨dor_t c14, rfl, rfl, rfl, rfl, trivial⟩
    ·refine .g_on rfl ?_
     refine .mv rfl rfl (.g_on rfl (.q .ro (.len_sl rfl rfl sl60) rfl (.g_on rfl (.q .ro (.lss rfl rfl) rfl (.q .ro (.pick_f rfl rfl) rfl ?_)))))
     exact .arr (hb15 () trivial) ⟨dor_f c14, rfl, rfl, rfl, rfl, trivial⟩
  ·intro hb11
   refine .split 25 rfl (fun c10 => ?_) (fun c10 => ?_)
   ·refine .g_off rfl rfl rfl ?_
    refine .g_off rfl rfl rfl (.q .ro (.pick_t rfl rfl) rfl ?_)
    exact .arr (hb11 () trivial) ⟨dor_t c10, rfl, rfl, rfl, rfl, trivial⟩
   ·refine .g_on rfl ?_
    refine .mv rfl rfl (.g_on rfl (.q .ro (.gtr rfl rfl) rfl (.q .ro (.pick_f rfl rfl) rfl ?_)))
    exact .arr (hb11 () trivial) ⟨dor_f c10, rfl, rfl, rfl, rfl, trivial⟩
theorem make_Field_c {Fs : List Hp} {G : Hp} {p0 : Nat} {a0_0 : Option Addr} {k0_0 : Nat} {x0_0 : List Int} {x0_1 : Int} {r : (Int × ((List Int) × Int))} (hG : G ∈ Fs) (s0_0 : SlR ri G a0_0 k0_0 x0_0) (h : make_Field (x0_0, x0_1) = some r) : RetS Tryz.prog 32 #[.pointer (some ⟨p0, 0, none⟩)] Fs [(p0, .cells #[.slice a0_0 x0_0.length k0_0, .int .i64 x0_1] 121 (0, 0))] [] (fun v bo so => ∃ a0 : Option Addr, ∃ k0 : Nat, v = .agg #[.int .i64 r.1] ∧ bo = [(p0, .cells #[.slice a0 r.2.1.length k0, .int .i64 r.2.2] 121 (0, 0))] ∧ so = [] ∧ SlR ri G a0 k0 r.2.1) := by
 unfold make_Field at h
 try dsimp only at h
 refine RetS.of (vs := [_]) Tryz.func32 rfl Tryz.ntmps32 [(0, _)] ⟨rfl, trivial⟩ rfl hG fun w0 S0 hS0 B0 => ?_
 refine .seq (.region rfl ?_)
 refine .alloc .ro ty45 rfl (fun b1 hb1 => ?_)
 refine .re (.seq (.region rfl ?_))
 refine .lit [_, _, _, _, _, _, _, _, _] [(0, _), (1, _), (2, _), (3, _), (4, _), (5, _), (6, _), (7, _), (8, _)] .ro sl22 ty3 rfl rfl rfl rfl rfl rfl (fun b2 hb2 => ?_)
 have o3 : OL ri G [.int .i64 2, .int .i64 3, .int .i64 5, .int .i64 7, .int .i64 11, .int .i64 13, .int .i64 17, .int .i64 257, .int .i64 65521] ([2, 3, 5, 7, 11, 13, 17, 257, 65521] : List Int) := ((OL.cons rfl (Rep.intI .i64 2) (OL.cons rfl (Rep.intI .i64 3) (OL.cons rfl (Rep.intI .i64 5) (OL.cons rfl (Rep.intI .i64 7) (OL.cons rfl (Rep.intI .i64 11) (OL.cons rfl (Rep.intI .i64 13) (OL.cons rfl (Rep.intI .i64 17) (OL.cons rfl (Rep.intI .i64 257) (OL.cons rfl (Rep.intI .i64 65521) (OL.nil (Rp' := ri))))))))))) :)
 refine .reval 3 (n' := ([2, 3, 5, 7, 11, 13, 17, 257, 65521] : List Int).length) rfl rfl (.mv rfl rfl ?_)
 obtain ⟨u5, hu5, r6⟩ := bind_some h
 refine .pull 1 rfl [_, _] rfl ?_
 refine .callS (b1 := [_]) (b2 := [_]) (s1 := []) [_, _] [] .ro rfl rfl Tryz.call18 rfl rfl (make_Deck_Next_c (G := G) mcs s0_0 hu5) rfl (fun v8 bo so h7 => ?_)
 obtain ⟨a9, k10, rfl, rfl, rfl, s11⟩ := h7
 refine .same (bl' := [_, _]) (sl' := [_]) rfl rfl rfl ?_
 obtain ⟨u12, hu12, r13⟩ := bind_some r6
 obtain ⟨c14, p15, h16⟩ := OL.get o3 hu12
 obtain rfl := h16
 refine .q .ro (.idxO 0 rfl rfl rfl hu12 sl22 ty3.sz) rfl (.q .ro (.loadO 0 0 rfl hu12 p15 rfl (.inl ⟨rfl, rfl⟩) ty3 rfl) rfl (.q .ro (.build [_] [(0, _)] ty45 pl45 rfl rfl) rfl (.store 1 [_] [_, _] .ro rfl rfl rfl ty45 rfl rfl rfl rfl (.re ?_))))
 cases r13
 refine .drop 0 1 _ [] rfl rfl (.pull 1 rfl [_, _] rfl ?_)
 refine .retSD 1 (.inr ⟨_, rfl⟩) [.cell 2 45] [_] rfl Tryz.func32 Tryz.results32 ⟨RV.cell_a 0 [_] rfl rfl ty45 rfl, trivial⟩ mcm ⟨a9, k10, rfl, rfl, rfl, s11⟩
theorem make_Hashing_c {Fs : List Hp} {G : Hp} {p0 : Nat} {a0_0 : Option Addr} {k0_0 : Nat} {x0_0 : List Int} {x0_1 : Int} {r : ((Int × (List (Int × Int))) × ((List Int) × Int))} (hG : G ∈ Fs) (s0_0 : SlR ri G a0_0 k0_0 x0_0) (h : make_Hashing (x0_0, x0_1) = some r) : RetW Tryz.prog 33 #[.pointer (some ⟨p0, 0, none⟩)] Fs [(p0, .cells #[.slice a0_0 x0_0.length k0_0, .int .i64 x0_1] 121 (0, 0))] [] (fun v bo so G => ∃ a0 : Option Addr, ∃ k0 : Nat, ∃ a1 : Option Addr, ∃ k1 : Nat, v = .agg #[.int .i64 r.1.1, .slice a0 r.1.2.length k0] ∧ bo = [(p0, .cells #[.slice a1 r.2.1.length k1, .int .i64 r.2.2] 121 (0, 0))] ∧ so = [] ∧ SlR (Rep.pair ri ri) G a0 k0 r.1.2 ∧ SlR ri G a1 k1 r.2.1) := by
 unfold make_Hashing at h
 try dsimp only at h
 refine RetW.of (vs := [_]) Tryz.func33 rfl Tryz.ntmps33 [(0, _)] ⟨rfl, trivial⟩ rfl hG fun w0 S0 hS0 B0 => ?_
 refine .seq (.region rfl ?_)
 refine .alloc .ro ty83 rfl (fun b1 hb1 => ?_)
 refine .re (.seq (.region rfl (.mv rfl rfl ?_)))
 obtain ⟨u2, hu2, r3⟩ := bind_some h
 refine .pull 1 rfl [_, _] rfl ?_
 refine .callS (b1 := [_]) (b2 := [_]) (s1 := []) [_, _] [] .ro rfl rfl Tryz.call18 rfl rfl (make_Deck_Next_c (G := G) mcs s0_0 hu2) rfl (fun v5 bo so h4 => ?_)
 obtain ⟨a6, k7, rfl, rfl, rfl, s8⟩ := h4
 refine .same (bl' := [_, _]) (sl' := []) rfl rfl rfl (.q .ro (.addw rfl rfl) rfl (.q .ro (.build [_, _] [(0, _)] ty83 pl83 rfl rfl) rfl ?_))
 refine .alloc .ro ty83 rfl (fun b9 hb9 => ?_)
 refine .store 0 [_, _] [_, _, _] .ro rfl rfl rfl ty83 rfl rfl rfl rfl (.re (.seq (.seq (.region rfl (.mv rfl rfl ?_)))))
 obtain ⟨u10, hu10, r11⟩ := bind_some r3
 refine .pull 1 rfl [_, _, _] rfl ?_
 refine .callS (b1 := [_]) (b2 := [_, _]) (s1 := []) [_, _] [] .ro rfl rfl Tryz.call18 rfl rfl (make_Deck_Next_c (G := G) mcs s8 hu10) rfl (fun v13 bo so h12 => ?_)
 obtain ⟨a14, k15, rfl, rfl, rfl, s16⟩ := h12
 refine .same (bl' := [_, _, _]) (sl' := []) rfl rfl rfl (.av rfl rfl (.re ?_))
 refine .cutB (β := List Int × Option Addr × Nat × Int × Int × (List (Int × Int)) × Option Addr × Nat × List Value × Int) (fun y => []) [(2, _), (3, _)] (fun y => G :: Fs) (fun y => [(p0, .cells #[.slice y.2.1 y.1.length y.2.2.1, .int .i64 y.2.2.2.1] 121 (0, 0)), (b9, .cells #[.int .i64 y.2.2.2.2.1, .slice y.2.2.2.2.2.2.1 y.2.2.2.2.2.1.length y.2.2.2.2.2.2.2.1] 83 (0, 0)), (b1, .cells #[.int .i64 y.2.2.2.2.2.2.2.2.2, .slice none 0 0] 83 (0, 0))]) [] (fun y => [.s (.slice y.2.2.2.2.2.2.1 y.2.2.2.2.2.1.length y.2.2.2.2.2.2.2.1) 168 2 y.2.2.2.2.2.1.length y.2.2.2.2.2.2.2.2.1]) [] (fun y => SlR ri G y.2.1 y.2.2.1 y.1 ∧ OL (Rep.pair ri ri) G y.2.2.2.2.2.2.2.2.1 y.2.2.2.2.2.1 ∧ make_Hashing_J1 y.1 y.2.2.2.1 y.2.2.2.2.1 y.2.2.2.2.2.1 y.2.2.2.2.2.2.2.2.2 = some r) ⟨rfl, rfl, trivial⟩ [] rfl [] rfl ?_ ?_
 ·intro y hI
  obtain ⟨v17, a19, k20, v21, v22, v23, a24, k25, cs26, v27⟩ := y
  obtain ⟨s28, o29, r30⟩ := hI
  try dsimp only at s28 o29 r30
  refine .prune [(2, _), (3, _)] ⟨rfl, rfl, trivial⟩ (.same (bl' := [(p0, .cells #[.slice a19 v17.length k20, .int .i64 v21] 121 (0, 0)), (b9, .cells #[.int .i64 v22, .slice a24 v23.length k25] 83 (0, 0)), (b1, .cells #[.int .i64 v27, .slice none 0 0] 83 (0, 0))]) (sl' := [.s (.slice a24 v23.length k25) 168 2 v23.length cs26]) (Fs' := G :: Fs) rfl rfl rfl ?_)
  unfold make_Hashing_J1 at r30
  try dsimp only at r30
  refine .seq (.region rfl (.q .ro (.load_own_a 1 [_, _] rfl rfl ty83 rfl) rfl (.store 2 [_, _] [_, _, _] .ro rfl rfl rfl ty83 rfl rfl rfl rfl (.re ?_))))
  refine .freezeR 0 rfl rfl o29 [] rfl B0 (fun G31 e32 B34 s35 => ?_)
  cases r30
  refine .pull 2 rfl [_, _, _] rfl (.pull 2 rfl [_, _, _] rfl ?_)
  refine .retWD 2 (.inr ⟨_, rfl⟩) [.cell 2 83] [_] rfl Tryz.func33 Tryz.results33 ⟨RV.cell_a 1 [_, _] rfl rfl ty83 rfl, trivial⟩ mcm mcs B34 (by subst hS0; simp [blks]) (fun G' hg => ⟨a24, k25, a19, k20, rfl, rfl, rfl, (SlR.mono hg s35), (SlR.mono hg (SlR.mono e32 s28))⟩)
 ·intro hb36
  refine .block (.own_nil 168 2 (.pull 1 rfl [_, _, _] rfl (.pull 1 rfl [_, _, _] rfl ?_)))
  refine .loop2 (α := Nat × Int × List Int × Option Addr × Nat × Int × (List (Int × Int)) × Option Addr × Nat × List Value) (fun y => [(4, .int .i64 y.2.1)]) [(0, _), (2, _), (3, _)] (fun y => []) (fun y => [(p0, .cells #[.slice y.2.2.2.1 y.2.2.1.length y.2.2.2.2.1, .int .i64 y.2.2.2.2.2.1] 121 (0, 0)), (b9, .cells #[.int .i64 (w64 (1 + u2.1)), .slice y.2.2.2.2.2.2.2.1 y.2.2.2.2.2.2.1.length y.2.2.2.2.2.2.2.2.1] 83 (0, 0))]) [_] (fun y => [.s (.slice y.2.2.2.2.2.2.2.1 y.2.2.2.2.2.2.1.length y.2.2.2.2.2.2.2.2.1) 168 2 y.2.2.2.2.2.2.1.length y.2.2.2.2.2.2.2.2.2]) [] (fun y => SlR ri G y.2.2.2.1 y.2.2.2.2.1 y.2.2.1 ∧ OL (Rep.pair ri ri) G y.2.2.2.2.2.2.2.2.2 y.2.2.2.2.2.2.1 ∧ make_Hashing_L2 make_Hashing_J1 (w64 (1 + u2.1)) y.1 y.2.1 y.2.2.1 y.2.2.2.2.2.1 y.2.2.2.2.2.2.1 = some r) (fun y => y.1) (big, u10.1, u10.2.1, a14, k15, u10.2.2, ([] : List (Int × Int)), none, 0, []) ⟨s16, (OL.nil (Rp' := (Rep.pair ri ri))), r11⟩ ⟨rfl, rfl, rfl, rfl, trivial⟩ rfl rfl rfl (fun y hI hb37 => ?_)
  obtain ⟨n38, v39, v40, a41, k42, v43, v44, a45, k46, cs47⟩ := y
  obtain ⟨s48, o49, r50⟩ := hI
  try dsimp only at s48 o49 r50
  refine .prune [(4, .int .i64 v39), (0, _), (2, _), (3, _)] ⟨rfl, rfl, rfl, rfl, trivial⟩ (.same (bl' := [(p0, .cells #[.slice a41 v40.length k42, .int .i64 v43] 121 (0, 0)), (b9, .cells #[.int .i64 (w64 (1 + u2.1)), .slice a45 v44.length k46] 83 (0, 0)), _]) (sl' := [.s (.slice a45 v44.length k46) 168 2 v44.length cs47]) (Fs' := G :: Fs) rfl rfl rfl ?_)
  obtain ⟨m51, rfl⟩ : ∃ m, n38 = m + 1 := by cases n38 with | zero => exact absurd (show (none : Option _) = some _ from r50) (by simp) | succ m => exact ⟨m, rfl⟩
  have r52 : make_Hashing_B2 make_Hashing_J1 (w64 (1 + u2.1)) (make_Hashing_L2 make_Hashing_J1 (w64 (1 + u2.1)) m51) v39 v40 v43 v44 = some r := r50; clear r50; unfold make_Hashing_B2 at r52; try dsimp only at r52
  refine .seq (.seq (.region rfl (.mv rfl rfl (.q .ro (.geq rfl rfl) rfl (.re ?_)))))
  refine .cond_dec rfl (fun c53 => ?_) (fun c53 => ?_)
  ·have r54 := ifT r52 c53; clear r52
   refine .skip (.seq (.block (.drawL (.q 0 (.q 1 (.q 2 (.q 4 (.e 3 1 (.e 5 1 (.q 6 (.e 7 1 (.e 8 1 (.q 9 (.e 10 2 .nil))))))))))) [_, _] (by kernel_rfl) (by kernel_rfl) (pick_mem [1, 2] rfl) (.dq (.fieldAddr 1 rfl fl83_1 ty81.sz rfl) rfl (.dq (.load_own 0 rfl rfl ty81 rfl) rfl (.dq (.move rfl) rfl (.dq (.move rfl) rfl ?_)))))))
   obtain ⟨u55, hu55, r56⟩ := bind_some r54
   refine .callS (b1 := [_]) (b2 := [_, _]) (s1 := []) [_, _] [] .d1 rfl rfl Tryz.call18 rfl rfl (make_Deck_Next_c (G := G) mcs s48 hu55) rfl (fun v57 bo so h58 => ?_)
   obtain ⟨a59, k60, rfl, rfl, rfl, s61⟩ := h58
   refine .same (bl' := [_, _, _]) (sl' := [_]) rfl rfl rfl (.clsL (HpLe.refl _) (pick_mem [1, 2] rfl) ?_)
   obtain ⟨u62, hu62, r63⟩ := bind_some r56
   refine .callS (b1 := [_]) (b2 := [_, _]) (s1 := []) [_, _] [] .d1 rfl rfl Tryz.call18 rfl rfl (make_Deck_Next_c (G := G) mcs s61 hu62) rfl (fun v65 bo so h66 => ?_)
   obtain ⟨a67, k68, rfl, rfl, rfl, s69⟩ := h66
   refine .same (bl' := [_, _, _]) (sl' := [_]) rfl rfl rfl (.clsL (HpLe.refl _) (pick_mem [1, 2] rfl) (.dq (.build [_, _] [(0, _), (1, _)] ty168 pl168 rfl rfl) rfl ?_))
   refine .lit [_, _] [(0, _)] .d1 sl81 ty168 rfl rfl rfl rfl rfl rfl (fun b70 hb70 => ?_)
   have o71 : OL (Rep.pair ri ri) G [.int .i64 u55.1, .int .i64 u62.1] ([(u55.1, u62.1)] : List (Int × Int)) := ((OL.cons rfl (Rep.pairI (Rep.intI .i64 u55.1) (Rep.intI .i64 u62.1)) (OL.nil (Rp' := (Rep.pair ri ri)))) :)
   refine .reval 22 (n' := ([(u55.1, u62.1)] : List (Int × Int)).length) rfl rfl (.clsL (HpLe.refl _) (pick_mem [1, 2] rfl) ?_)
   obtain ⟨u72, hu72, r73⟩ := bind_some r63
   refine .appO (Q := (Rep.pair ri ri)) 0 .d1 sl81 ty168 rfl rfl rfl rfl rfl rfl o49 o71 rfl rfl rfl B0 hu72 rfl (fun a74 k75 cs76 o77 => ?_)
   refine .clsL (HpLe.refl _) (pick_mem [1, 2] rfl) (.dq (.fieldAddr 1 rfl fl83_1 ty81.sz rfl) rfl (.store 1 [_, _] [_, _, _] .d2 rfl rfl rfl ty81 rfl rfl rfl rfl (.draw_end (.inBlock (.region rfl (.mv rfl rfl (.q .ro (.subw rfl rfl) rfl (.av rfl rfl (.re (.prune [(4, _), (0, _), (2, _), (3, _)] ⟨rfl, rfl, rfl, rfl, trivial⟩ ?_))))))))))
   exact .arr (hb37 (m51, (w64 (v39 - 1)), u62.2.1, a67, k68, u62.2.2, u72, a74, k75, cs76) ⟨s69, o77, r73⟩ (Nat.lt_succ_self _)) ⟨rfl, rfl, rfl, rfl, trivial⟩
  ·have r78 := ifF r52 c53; clear r52
   refine .exit rfl ?_
   exact .arr (hb36 (v40, a41, k42, v43, (w64 (1 + u2.1)), v44, a45, k46, cs47, 0) ⟨s48, o49, r78⟩) ⟨rfl, rfl, trivial⟩
theorem cuckoo_Check_c {Fs : List Hp} {G : Hp} {x0_0 : Int} {a0_1 : Option Addr} {k0_1 : Nat} {x0_1 : List (Int × Int)} {r : Int} (hG : G ∈ Fs) (s0_1 : SlR (Rep.pair ri ri) G a0_1 k0_1 x0_1) (h : cuckoo_Check (x0_0, x0_1) = some r) : RetS Tryz.prog 88 #[.agg #[.int .i64 x0_0, .slice a0_1 x0_1.length k0_1]] Fs [] [] (fun v bo so => v = .int .i64 r ∧ bo = [] ∧ so = []) := by
 unfold cuckoo_Check at h
 try dsimp only at h
 refine RetS.of (vs := [_]) Tryz.func88 rfl Tryz.ntmps88 [(0, _)] ⟨rfl, trivial⟩ rfl hG fun w0 S0 hS0 B0 => ?_
 refine .seq (.region rfl ?_)
 refine .box [_, _] .ro rfl rfl rfl (fun b1 hb1 => ?_)
 refine .av rfl rfl (.re (.seq (.seq (.region rfl (.q .ro (.fieldAddr 0 rfl fl83_0 ty3.sz rfl) rfl (.q .ro (.load_own 0 rfl rfl ty3 rfl) rfl (.q .ro (.lss rfl rfl) rfl (.mv rfl rfl ?_))))))))
 refine .cutR 4 (β := Unit) (fun y => [(12, .bool (decide ((x0_0 < 1) ∨ (64 < x0_0))))]) [(1, _)] (fun y => G :: Fs) (fun y => []) [_] (fun y => []) [] (fun y => True) ⟨rfl, trivial⟩ [0] rfl [] rfl ?_ ?_
 ·rintro _ _
  refine .prune [(12, .bool (decide ((x0_0 < 1) ∨ (64 < x0_0)))), (1, _)] ⟨rfl, rfl, trivial⟩ (.same (bl' := [_]) (sl' := []) (Fs' := G :: Fs) rfl rfl rfl (.mv rfl rfl ?_))
  refine .cutR 5 (β := Unit) (fun y => [(18, .bool (decide (((x0_0 < 1) ∨ (64 < x0_0)) ∨ ((x0_1.length : Int) < 1))))]) [(1, _)] (fun y => G :: Fs) (fun y => []) [_] (fun y => []) [] (fun y => True) ⟨rfl, trivial⟩ [0] rfl [] rfl ?_ ?_
  ·rintro _ _
   refine .prune [(18, .bool (decide (((x0_0 < 1) ∨ (64 < x0_0)) ∨ ((x0_1.length : Int) < 1)))), (1, _)] ⟨rfl, rfl, trivial⟩ (.same (bl' := [_]) (sl' := []) (Fs' := G :: Fs) rfl rfl rfl (.mv rfl rfl ?_))
   refine .cutR 5 (β := Unit) (fun y => [(24, .bool (decide ((((x0_0 < 1) ∨ (64 < x0_0)) ∨ ((x0_1.length : Int) < 1)) ∨ (4 < (x0_1.length : Int)))))]) [(1, _)] (fun y => G :: Fs) (fun y => []) [_] (fun y => []) [] (fun y => True) ⟨rfl, trivial⟩ [0] rfl [] rfl ?_ ?_
   ·rintro _ _
    refine .prune [(24, .bool (decide ((((x0_0 < 1) ∨ (64 < x0_0)) ∨ ((x0_1.length : Int) < 1)) ∨ (4 < (x0_1.length : Int))))), (1, _)] ⟨rfl, rfl, trivial⟩ (.same (bl' := [_]) (sl' := []) (Fs' := G :: Fs) rfl rfl rfl (.re ?_))
    refine .cond_dec rfl (fun c14 => ?_) (fun c14 => ?_)
    ·have r15 := ifT h c14; clear h
     refine .seq (.region rfl (.av rfl rfl (.re ?_)))
     cases r15
     refine .drop 1 0 [] _ rfl rfl ?_
     refine .retS (.inr ⟨_, rfl⟩) [.tmp 2] [_] rfl Tryz.func88 Tryz.results88 ⟨RV.tmp rfl, trivial⟩ mcm ⟨rfl, rfl, rfl⟩
    ·have r16 := ifF h c14; clear h
     refine .skip (.seq (.seq (.region rfl (.q .ro (.fieldAddr 1 rfl fl83_1 ty81.sz rfl) rfl (.q .ro (.load_own 0 rfl rfl ty81 rfl) rfl (.q .ro (.len_sl rfl rfl sl81) rfl (.mv rfl rfl (.re (.block ?_)))))))))
     refine .loop2 (α := Nat × (List (Int × Int))) (fun y => [(28, .int .i64 (y.1 : Int))]) [(26, _), (27, _)] (fun y => []) (fun y => []) [_] (fun y => []) [] (fun y => List.drop y.1 x0_1 = y.2 ∧ cuckoo_Check_L1 y.2  = some r) (fun y => y.2.length) (0, x0_1) ⟨rfl, r16⟩ ⟨rfl, rfl, rfl, trivial⟩ rfl rfl rfl (fun y hI hb49 => ?_)
     obtain ⟨i45, w46⟩ := y
     obtain ⟨g47, r48⟩ := hI
     try dsimp only at g47 r48
     refine .prune [(28, .int .i64 (i45 : Int)), (26, _), (27, _)] ⟨rfl, rfl, rfl, trivial⟩ (.same (bl' := [_]) (sl' := []) (Fs' := G :: Fs) rfl rfl rfl ?_)
     cases w46 with
     | nil =>
      rw [cuckoo_Check_L1] at r48; try dsimp only at r48
      refine .seq (.region rfl (.q .ro (.lss rfl rfl) rfl (.re (.seq ?_))))
      refine .cond_dec rfl (fun c => absurd c (drop_nil g47)) (fun _ => ?_)
      refine .exit rfl (.seq (.region rfl (.av rfl rfl (.re ?_))))
      cases r48
      refine .drop 1 0 [] _ rfl rfl ?_
      refine .retS (.inr ⟨_, rfl⟩) [.tmp 2] [_] rfl Tryz.func88 Tryz.results88 ⟨RV.tmp rfl, trivial⟩ mcm ⟨rfl, rfl, rfl⟩
     | cons x54 xs55 =>
      have r53 : cuckoo_Check_B1 (cuckoo_Check_L1 xs55) x54  = some r := r48; clear r48; unfold cuckoo_Check_B1 at r53; try dsimp only at r53
      refine .seq (.region rfl (.q .ro (.lss rfl rfl) rfl (.re (.seq ?_))))
      refine .cond_dec rfl (fun _ => ?_) (fun c => absurd (drop_lt g47) c)
      refine .skip (.seq (.block (.seq (.region rfl ?_))))
      obtain ⟨c56, p57, h58⟩ := SlR.get s0_1 (drop_idx g47)
      obtain ⟨_, _, rfl, rfl, rfl⟩ := h58
      refine .q .ro (.idxR s0_1 rfl rfl (drop_idx g47) sl81 ty168.sz) rfl (.q .ro (.load_rp_a [_, _] p57 mcs rfl ty168 rfl) rfl ?_)
      refine .alloc .ro ty168 rfl (fun b59 hb59 => ?_)
      refine .store 0 [_, _] [_, _] .ro rfl rfl rfl ty168 rfl rfl rfl rfl (.re (.seq (.region rfl (.q .ro (.fieldAddr 0 rfl fl168_0 ty3.sz rfl) rfl (.q .ro (.load_own 0 rfl rfl ty3 rfl) rfl (.q .ro (.lss rfl rfl) rfl (.mv rfl rfl ?_)))))))
      refine .cutR 4 (β := Unit) (fun y => [(39, .bool (decide ((x54.1 < 0) ∨ (2147483647 ≤ x54.1))))]) [(28, _), (26, _), (27, _), (4, _)] (fun y => G :: Fs) (fun y => []) [_, _] (fun y => []) [] (fun y => True) ⟨rfl, rfl, rfl, rfl, trivial⟩ [0, 1] rfl [] rfl ?_ ?_
      ·rintro _ _
       refine .prune [(39, .bool (decide ((x54.1 < 0) ∨ (2147483647 ≤ x54.1)))), (28, _), (26, _), (27, _), (4, _)] ⟨rfl, rfl, rfl, rfl, rfl, trivial⟩ (.same (bl' := [_, _]) (sl' := []) (Fs' := G :: Fs) rfl rfl rfl (.mv rfl rfl ?_))
       refine .cutR 4 (β := Unit) (fun y => [(44, .bool (decide (((x54.1 < 0) ∨ (2147483647 ≤ x54.1)) ∨ (x54.2 < 0))))]) [(28, _), (26, _), (27, _), (4, _)] (fun y => G :: Fs) (fun y => []) [_, _] (fun y => []) [] (fun y => True) ⟨rfl, rfl, rfl, rfl, trivial⟩ [0, 1] rfl [] rfl ?_ ?_
       ·rintro _ _
        refine .prune [(44, .bool (decide (((x54.1 < 0) ∨ (2147483647 ≤ x54.1)) ∨ (x54.2 < 0)))), (28, _), (26, _), (27, _), (4, _)] ⟨rfl, rfl, rfl, rfl, rfl, trivial⟩ (.same (bl' := [_, _]) (sl' := []) (Fs' := G :: Fs) rfl rfl rfl (.mv rfl rfl ?_))
        refine .cutR 4 (β := Unit) (fun y => [(49, .bool (decide ((((x54.1 < 0) ∨ (2147483647 ≤ x54.1)) ∨ (x54.2 < 0)) ∨ (2147483647 ≤ x54.2))))]) [(28, _), (26, _), (27, _)] (fun y => G :: Fs) (fun y => []) [_, _] (fun y => []) [] (fun y => True) ⟨rfl, rfl, rfl, trivial⟩ [0, 1] rfl [] rfl ?_ ?_
        ·rintro _ _
         refine .prune [(49, .bool (decide ((((x54.1 < 0) ∨ (2147483647 ≤ x54.1)) ∨ (x54.2 < 0)) ∨ (2147483647 ≤ x54.2)))), (28, _), (26, _), (27, _)] ⟨rfl, rfl, rfl, rfl, trivial⟩ (.same (bl' := [_, _]) (sl' := []) (Fs' := G :: Fs) rfl rfl rfl (.re ?_))
         refine .cond_dec rfl (fun c72 => ?_) (fun c72 => ?_)
         ·have r73 := ifT r53 c72; clear r53
          refine .seq (.region rfl (.av rfl rfl (.re ?_)))
          cases r73
          refine .drop 2 0 [] _ rfl rfl ?_
          refine .retS (.inr ⟨_, rfl⟩) [.tmp 2] [_] rfl Tryz.func88 Tryz.results88 ⟨RV.tmp rfl, trivial⟩ mcm ⟨rfl, rfl, rfl⟩
         ·have r74 := ifF r53 c72; clear r53
          refine .skip (.inBlock (.region rfl (.q .ro (.addw rfl rfl) rfl (.mv rfl rfl (.re (.drop 1 0 [_] _ rfl rfl ?_))))))
          exact .arr (hb49 ((i45 + 1), xs55) ⟨(drop_succ g47), r74⟩ (Nat.lt_succ_self _)) ⟨(congrArg (fun z => some (Value.int .i64 z)) (idx_wrap (SlR.len s0_1) g47)), rfl, rfl, trivial⟩
        ·intro hb69
         refine .split 45 rfl (fun c68 => ?_) (fun c68 => ?_)
         ·refine .g_off rfl rfl rfl ?_
          refine .g_off rfl rfl rfl (.g_off rfl rfl rfl (.q .ro (.pick_t rfl rfl) rfl ?_))
          exact .arr (hb69 () trivial) ⟨dor_t c68, rfl, rfl, rfl, trivial⟩
         ·refine .g_on rfl ?_
          refine .q .ro (.fieldAddr 1 rfl fl168_1 ty3.sz rfl) rfl (.g_on rfl (.q .ro (.load_own 0 rfl rfl ty3 rfl) rfl (.g_on rfl (.q .ro (.geq rfl rfl) rfl (.q .ro (.pick_f rfl rfl) rfl ?_)))))
          exact .arr (hb69 () trivial) ⟨dor_f c68, rfl, rfl, rfl, trivial⟩
       ·intro hb65
        refine .split 40 rfl (fun c64 => ?_) (fun c64 => ?_)
        ·refine .g_off rfl rfl rfl ?_
         refine .g_off rfl rfl rfl (.g_off rfl rfl rfl (.q .ro (.pick_t rfl rfl) rfl ?_))
         exact .arr (hb65 () trivial) ⟨dor_t c64, rfl, rfl, rfl, rfl, trivial⟩
        ·refine .g_on rfl ?_
         refine .q .ro (.fieldAddr 1 rfl fl168_1 ty3.sz rfl) rfl (.g_on rfl (.q .ro (.load_own 0 rfl rfl ty3 rfl) rfl (.g_on rfl (.q .ro (.lss rfl rfl) rfl (.q .ro (.pick_f rfl rfl) rfl ?_)))))
         exact .arr (hb65 () trivial) ⟨dor_f c64, rfl, rfl, rfl, rfl, trivial⟩
      ·intro hb61
       refine .split 35 rfl (fun c60 => ?_) (fun c60 => ?_)
       ·refine .g_off rfl rfl rfl ?_
        refine .g_off rfl rfl rfl (.g_off rfl rfl rfl (.q .ro (.pick_t rfl rfl) rfl ?_))
        exact .arr (hb61 () trivial) ⟨dor_t c60, rfl, rfl, rfl, rfl, trivial⟩
       ·refine .g_on rfl ?_
        refine .q .ro (.fieldAddr 0 rfl fl168_0 ty3.sz rfl) rfl (.g_on rfl (.q .ro (.load_own 0 rfl rfl ty3 rfl) rfl (.g_on rfl (.q .ro (.geq rfl rfl) rfl (.q .ro (.pick_f rfl rfl) rfl ?_)))))
        exact .arr (hb61 () trivial) ⟨dor_f c60, rfl, rfl, rfl, rfl, trivial⟩
   ·intro hb11
    refine .split 19 rfl (fun c10 => ?_) (fun c10 => ?_)
    ·refine .g_off rfl rfl rfl ?_
     refine .g_off rfl rfl rfl (.g_off rfl rfl rfl (.g_off rfl rfl rfl (.q .ro (.pick_t rfl rfl) rfl ?_)))
     exact .arr (hb11 () trivial) ⟨dor_t c10, rfl, trivial⟩
    ·refine .g_on rfl ?_
     refine .q .ro (.fieldAddr 1 rfl fl83_1 ty81.sz rfl) rfl (.g_on rfl (.q .ro (.load_own 0 rfl rfl ty81 rfl) rfl (.g_on rfl (.q .ro (.len_sl rfl rfl sl81) rfl (.g_on rfl (.q .ro (.gtr rfl rfl) rfl (.q .ro (.pick_f rfl rfl) rfl ?_)))))))
     exact .arr (hb11 () trivial) ⟨dor_f c10, rfl, trivial⟩
  ·intro hb7
   refine .split 13 rfl (fun c6 => ?_) (fun c6 => ?_)
   ·refine .g_off rfl rfl rfl ?_
    refine .g_off rfl rfl rfl (.g_off rfl rfl rfl (.g_off rfl rfl rfl (.q .ro (.pick_t rfl rfl) rfl ?_)))
    exact .arr (hb7 () trivial) ⟨dor_t c6, rfl, trivial⟩
   ·refine .g_on rfl ?_
    refine .q .ro (.fieldAddr 1 rfl fl83_1 ty81.sz rfl) rfl (.g_on rfl (.q .ro (.load_own 0 rfl rfl ty81 rfl) rfl (.g_on rfl (.q .ro (.len_sl rfl rfl sl81) rfl (.g_on rfl (.q .ro (.lss rfl rfl) rfl (.q .ro (.pick_f rfl rfl) rfl ?_)))))))
    exact .arr (hb7 () trivial) ⟨dor_f c6, rfl, trivial⟩
 ·intro hb3
  refine .split 8 rfl (fun c2 => ?_) (fun c2 => ?_)
  ·refine .g_off rfl rfl rfl ?_
   refine .g_off rfl rfl rfl (.g_off rfl rfl rfl (.q .ro (.pick_t rfl rfl) rfl ?_))
   exact .arr (hb3 () trivial) ⟨dor_t c2, rfl, trivial⟩
  ·refine .g_on rfl ?_
   refine .q .ro (.fieldAddr 0 rfl fl83_0 ty3.sz rfl) rfl (.g_on rfl (.q .ro (.load_own 0 rfl rfl ty3 rfl) rfl (.g_on rfl (.q .ro (.gtr rfl rfl) rfl (.q .ro (.pick_f rfl rfl) rfl ?_)))))
   exact .arr (hb3 () trivial) ⟨dor_f c2, rfl, trivial⟩
end Go.Proofs.YtfcicopgdahmcaaGreatDoor
end
