/- What the proof needs, gathered by wip/gen/shake.py. -/
import Derived.Calls
import Derived.Deep.Quiet
import Derived.Below
import Derived.Laws.AppendOwn
import Derived.WalkKit
import Derived.Laws.OwnMore
import Derived.Deep.Slices
import Derived.ChangeOld
import Derived.ArgAppend
import Derived.RangeFuncIn
import Derived.RangeFuncRecord
import Derived.RangeFuncLeaves
import Derived.Laws.MakeOwn
import Derived.IntWalk
import Derived.Laws.IdiomStrings
import Derived.Laws.Cover3
import Derived.Laws.CopyOwn
import Derived.MapKept
import Derived.RangeFuncNested
import Derived.Test.YtfcicopgdahmcaaGreatDoorRows
import Derived.LaidEql
import Derived.Stop.Asserts
import Derived.RowKitTokens
import Derived.Test.YtfcicopgdahmcaaGreatDoorCards
import Derived.LaidLaws
import Derived.Look8
import Derived.MakeChecks
import Derived.Test.YtfcicopgdahmcaaGreatDoorTie
import Derived.LaidMore
import Derived.Lay
import Derived.SevenTiedAt
import Derived.Stop.Joined
import Derived.ProofKit
import Derived.OpenShut
import Derived.ShutString
import Derived.Test.YtfcicopgdahmcaaGreatDoorTopBatchQ3

section
set_option maxHeartbeats 4000000
set_option maxRecDepth 100000
namespace Go.Proofs.YtfcicopgdahmcaaGreatDoor
open Go.RowKit
set_option linter.unusedSimpArgs false
set_option linter.unusedVariables false
set_option synthInstance.maxSize 2000
set_option synthInstance.maxHeartbeats 400000
theorem columns_Check_c {Fs : List Hp} {G : Hp} {x0_0 : Int} {x1 : Int} {x2 : Int} {x3 : Int} {a4 : Option Addr} {k4 : Nat} {x4 : List (Bool × (List Int))} {r : Int} (hG : G ∈ Fs) (s4 : SlR (Rep.pair Rep.bool (Rep.sl ri)) G a4 k4 x4) (h : columns_Check x0_0 x1 x2 x3 x4 = some r) : RetS Tryz.prog 84 #[.agg #[.int .i64 x0_0], .int .i64 x1, .int .i64 x2, .int .i64 x3, .slice a4 x4.length k4] Fs [] [] (fun v bo so => v = .int .i64 r ∧ bo = [] ∧ so = []) := by
 unfold columns_Check at h
 try dsimp only at h
 refine RetS.of (vs := [_, _, _, _, _]) Tryz.func84 rfl Tryz.ntmps84 [(0, _), (1, _), (2, _), (3, _), (4, _)] ⟨rfl, rfl, rfl, rfl, rfl, trivial⟩ rfl hG fun w0 S0 hS0 B0 => ?_
 refine .seq (.region rfl ?_)
 refine .box [_] .ro rfl rfl rfl (fun b1 hb1 => ?_)
 refine .av rfl rfl (.re (.seq (.seq (.region rfl (.mv rfl rfl (.q .ro (.lss rfl rfl) rfl (.mv rfl rfl ?_)))))))
 refine .cutR 3 (β := Unit) (fun y => [(20, .bool (decide ((x1 < 0) ∨ (64 < x1))))]) [(1, _), (2, _), (3, _), (4, _), (5, _)] (fun y => G :: Fs) (fun y => []) [_] (fun y => []) [] (fun y => True) ⟨rfl, rfl, rfl, rfl, rfl, trivial⟩ [0] rfl [] rfl ?_ ?_
 ·rintro _ _
  refine .prune [(20, .bool (decide ((x1 < 0) ∨ (64 < x1)))), (1, _), (2, _), (3, _), (4, _), (5, _)] ⟨rfl, rfl, rfl, rfl, rfl, rfl, trivial⟩ (.same (bl' := [_]) (sl' := []) (Fs' := G :: Fs) rfl rfl rfl (.re ?_))
  refine .cond_dec rfl (fun c6 => ?_) (fun c6 => ?_)
  ·have r7 := ifT h c6; clear h
   exact absurd r7 (by simp)
  ·have r8 := ifF h c6; clear h
   refine .skip (.seq (.seq (.region rfl (.mv rfl rfl (.q .ro (.len_sl rfl rfl sl60) rfl (.mv rfl rfl (.q .ro (.neq rfl rfl) rfl (.re ?_))))))))
   refine .cond_dec rfl (fun c9 => ?_) (fun c9 => ?_)
   ·have r10 := ifT r8 c9; clear r8
    exact absurd r10 (by simp)
   ·have r11 := ifF r8 c9; clear r8
    refine .skip (.seq (.region rfl (.av rfl rfl (.av rfl rfl (.re (.seq (.seq (.region rfl (.mv rfl rfl (.q .ro (.len_sl rfl rfl sl60) rfl (.mv rfl rfl (.re ?_))))))))))))
    refine .cutB (β := Int × Bool × Int) (fun y => [(11, .int .i64 y.1), (12, .bool y.2.1)]) [(3, _)] (fun y => G :: Fs) (fun y => [(b1, .cells #[.int .i64 y.2.2] 45 (0, 0))]) [] (fun y => []) [] (fun y => (columns_Check_J1 x3) y.1 y.2.1 y.2.2 = some r) ⟨rfl, trivial⟩ [] rfl [] rfl ?_ ?_
    ·intro y hI
     obtain ⟨v98, v99, v12⟩ := y
     have r13 := hI; clear hI
     try dsimp only at r13
     refine .prune [(11, .int .i64 v98), (12, .bool v99), (3, _)] ⟨rfl, rfl, rfl, trivial⟩ (.same (bl' := [(b1, .cells #[.int .i64 v12] 45 (0, 0))]) (sl' := []) (Fs' := G :: Fs) rfl rfl rfl ?_)
     unfold columns_Check_J1 at r13
     try dsimp only at r13
     refine .seq (.block (.seq (.region rfl (.mv rfl rfl (.q .ro (.not rfl) rfl (.av rfl rfl (.re ?_)))))))
     refine .cond rfl (fun c14 => ?_) (fun c14 => ?_)
     ·have r15 := ifT r13 c14; clear r13
      exact absurd r15 (by simp)
     ·have r16 := ifBF r13 c14; clear r13
      refine .seq (.region rfl (.mv rfl rfl (.mv rfl rfl (.q .ro (.lss rfl rfl) rfl (.av rfl rfl (.re ?_))))))
      refine .cond_dec rfl (fun c17 => ?_) (fun c17 => ?_)
      ·have r18 := ifT r16 c17; clear r16
       exact absurd r18 (by simp)
      ·have r19 := ifF r16 c17; clear r16
       refine .skip (.inBlock (.seq (.region rfl (.av rfl rfl (.re ?_)))))
       cases r19
       refine .drop 1 0 [] _ rfl rfl ?_
       refine .retS (.inr ⟨_, rfl⟩) [.tmp 10] [_] rfl Tryz.func84 Tryz.results84 ⟨RV.tmp rfl, trivial⟩ mcm ⟨rfl, rfl, rfl⟩
    ·intro hb20
     refine .block ?_
     refine .loop2 (α := Nat × (List (Bool × (List Int))) × Int × Bool) (fun y => [(11, .int .i64 y.2.2.1), (12, .bool y.2.2.2), (27, .int .i64 (y.1 : Int))]) [(1, _), (3, _), (5, _), (25, _), (26, _)] (fun y => []) (fun y => []) [_] (fun y => []) [] (fun y => List.drop y.1 x4 = y.2.1 ∧ columns_Check_L2 (columns_Check_J1 x3) x1 x0_0 y.2.1 y.2.2.1 y.2.2.2 = some r) (fun y => y.2.1.length) (0, x4, 0, true) ⟨rfl, r11⟩ ⟨rfl, rfl, rfl, rfl, rfl, rfl, rfl, rfl, trivial⟩ rfl rfl rfl (fun y hI hb21 => ?_)
     obtain ⟨i23, w24, v25, v26⟩ := y
     obtain ⟨g27, r28⟩ := hI
     try dsimp only at g27 r28
     refine .prune [(11, .int .i64 v25), (12, .bool v26), (27, .int .i64 (i23 : Int)), (1, _), (3, _), (5, _), (25, _), (26, _)] ⟨rfl, rfl, rfl, rfl, rfl, rfl, rfl, rfl, trivial⟩ (.same (bl' := [_]) (sl' := []) (Fs' := G :: Fs) rfl rfl rfl ?_)
     cases w24 with
     | nil =>
      rw [columns_Check_L2] at r28; try dsimp only at r28
      refine .seq (.region rfl (.q .ro (.lss rfl rfl) rfl (.re (.seq ?_))))
      refine .cond_dec rfl (fun c => absurd c (drop_nil g27)) (fun _ => ?_)
      refine .exit rfl ?_
      exact .arr (hb20 (v25, v26, x0_0) r28) ⟨rfl, rfl, rfl, trivial⟩
     | cons x29 xs30 =>
      have r31 : columns_Check_B2 (columns_Check_J1 x3) x1 x0_0 (columns_Check_L2 (columns_Check_J1 x3) x1 x0_0 xs30) x29 v25 v26 = some r := r28; clear r28; unfold columns_Check_B2 at r31; try dsimp only at r31
      refine .seq (.region rfl (.q .ro (.lss rfl rfl) rfl (.re (.seq ?_))))
      refine .cond_dec rfl (fun _ => ?_) (fun c => absurd (drop_lt g27) c)
      refine .skip (.seq (.block (.seq (.region rfl ?_))))
      obtain ⟨c32, p33, h34⟩ := SlR.get s4 (drop_idx g27)
      obtain ⟨_, _, rfl, rfl, a35, k36, rfl, s37⟩ := h34
      refine .q .ro (.idxR s4 rfl rfl (drop_idx g27) sl60 ty63.sz) rfl (.q .ro (.load_rp_a [_, _] p33 mcs rfl ty63 rfl) rfl ?_)
      refine .alloc .ro ty63 rfl (fun b38 hb38 => ?_)
      refine .store 0 [_, _] [_, _] .ro rfl rfl rfl ty63 rfl rfl rfl rfl (.re (.seq (.seq (.region rfl (.q .ro (.fieldAddr 0 rfl fl63_0 ty4.sz rfl) rfl (.q .ro (.load_own 0 rfl rfl ty4 rfl) rfl (.q .ro (.not rfl) rfl (.re ?_))))))))
      refine .cond rfl (fun c39 => ?_) (fun c39 => ?_)
      ·have r40 := ifT r31 c39; clear r31
       refine .exit rfl (.region rfl (.q .ro (.addw rfl rfl) rfl (.mv rfl rfl (.re (.drop 1 0 [_] _ rfl rfl ?_)))))
       exact .arr (hb21 ((i23 + 1), xs30, v25, v26) ⟨(drop_succ g27), r40⟩ (Nat.lt_succ_self _)) ⟨rfl, rfl, (congrArg (fun z => some (Value.int .i64 z)) (idx_wrap (SlR.len s4) g27)), rfl, rfl, rfl, rfl, rfl, trivial⟩
      ·have r41 := ifBF r31 c39; clear r31
       refine .skip (.seq (.seq (.region rfl (.q .ro (.fieldAddr 1 rfl fl63_1 ty22.sz rfl) rfl (.q .ro (.load_own 0 rfl rfl ty22 rfl) rfl (.q .ro (.len_sl rfl rfl sl22) rfl (.mv rfl rfl (.q .ro (.neq rfl rfl) rfl (.re ?_)))))))))
       refine .cond_dec rfl (fun c42 => ?_) (fun c42 => ?_)
       ·have r43 := ifT r41 c42; clear r41
        exact absurd r43 (by simp)
       ·have r44 := ifF r41 c42; clear r41
        refine .skip (.seq (.region rfl (.mv rfl rfl (.q .ro (.addw rfl rfl) rfl (.av rfl rfl (.re (.prune [(11, _), (12, _), (27, _), (1, _), (3, _), (5, _), (25, _), (26, _), (14, _)] ⟨rfl, rfl, rfl, rfl, rfl, rfl, rfl, rfl, rfl, trivial⟩ (.region rfl (.mv rfl rfl (.mv rfl rfl ?_))))))))))
        obtain ⟨u46, h47, r48⟩ := bind_some r44
        refine .cutR 6 (β := Unit) (fun y => [(48, .bool u46)]) [(11, _), (12, _), (27, _), (1, _), (3, _), (5, _), (25, _), (26, _)] (fun y => G :: Fs) (fun y => []) [_, _] (fun y => []) [] (fun y => True) ⟨rfl, rfl, rfl, rfl, rfl, rfl, rfl, rfl, trivial⟩ [0, 1] rfl [] rfl ?_ ?_
        ·rintro _ _
         refine .prune [(48, .bool u46), (11, _), (12, _), (27, _), (1, _), (3, _), (5, _), (25, _), (26, _)] ⟨rfl, rfl, rfl, rfl, rfl, rfl, rfl, rfl, rfl, trivial⟩ (.same (bl' := [_, _]) (sl' := []) (Fs' := G :: Fs) rfl rfl rfl (.av rfl rfl (.re (.inBlock (.region rfl (.q .ro (.addw rfl rfl) rfl (.mv rfl rfl (.re (.drop 1 0 [_] _ rfl rfl ?_)))))))))
         exact .arr (hb21 ((i23 + 1), xs30, (w64 (v25 + 1)), u46) ⟨(drop_succ g27), r48⟩ (Nat.lt_succ_self _)) ⟨rfl, rfl, (congrArg (fun z => some (Value.int .i64 z)) (idx_wrap (SlR.len s4) g27)), rfl, rfl, rfl, rfl, rfl, trivial⟩
        ·intro hb49
         refine .split_b 42 rfl (fun c50 => ?_) (fun c50 => ?_)
         ·have r51 := ifT h47 c50
          refine .g_on rfl (.q .ro (.fieldAddr 0 rfl fl45_0 ty3.sz rfl) rfl (.g_on rfl (.q .ro (.load_own 1 rfl rfl ty3 rfl) rfl (.g_on rfl (.q .ro (.fieldAddr 1 rfl fl63_1 ty22.sz rfl) rfl (.g_on rfl (.q .ro (.load_own 0 rfl rfl ty22 rfl) rfl (.g_on rfl ?_))))))))
          obtain ⟨u52, hu52, r53⟩ := bind_some r51
          refine .callS (b1 := []) (b2 := [_, _]) (s1 := []) [_, _] [] .ro rfl rfl Tryz.call73 rfl rfl (residue_Field_All_c (G := G) mcs s37 hu52) rfl (fun v54 bo so h55 => ?_)
          obtain ⟨rfl, rfl, rfl⟩ := h55
          refine .same (bl' := [_, _]) (sl' := []) rfl rfl rfl (.q .ro (.pick_t rfl rfl) rfl ?_)
          exact .arr (hb49 () trivial) ⟨sval r53, rfl, rfl, rfl, rfl, rfl, rfl, rfl, rfl, trivial⟩
         ·have r56 := ifBF h47 c50
          refine .g_off rfl rfl rfl (.g_off rfl rfl rfl (.g_off rfl rfl rfl (.g_off rfl rfl rfl (.g_off rfl rfl rfl (.q .ro (.pick_f rfl rfl) rfl ?_)))))
          exact .arr (hb49 () trivial) ⟨sval r56, rfl, rfl, rfl, rfl, rfl, rfl, rfl, rfl, trivial⟩
 ·intro hb3
  refine .split 17 rfl (fun c2 => ?_) (fun c2 => ?_)
  ·refine .g_off rfl rfl rfl ?_
   refine .g_off rfl rfl rfl (.q .ro (.pick_t rfl rfl) rfl ?_)
   exact .arr (hb3 () trivial) ⟨dor_t c2, rfl, rfl, rfl, rfl, rfl, trivial⟩
  ·refine .g_on rfl ?_
   refine .mv rfl rfl (.g_on rfl (.q .ro (.gtr rfl rfl) rfl (.q .ro (.pick_f rfl rfl) rfl ?_)))
   exact .arr (hb3 () trivial) ⟨dor_f c2, rfl, rfl, rfl, rfl, rfl, trivial⟩
theorem code_known_f1_i {Fs : List Hp} {G : Hp} {p1 : Value} {a1 : Option Addr} {k1 : Nat} {x1 : List (Int × Bool)} {l : (List (Int × Int))} (hG : G ∈ Fs) (hp1 : Rp G p1 [.slice a1 x1.length k1]) (s1 : SlR (Rep.pair ri Rep.bool) G a1 k1 x1) (h : code_known_f1 x1 = some l) : IterX Tryz.prog 202 [p1] Fs l.length (fun i v => ∃ x, l[i]? = some x ∧ (Yr.pair (Yr.v ri) (Yr.v ri)).r G v x) := by
 unfold code_known_f1 at h
 try dsimp only at h
 intro y 𝒢 ℰ R0 hy hR0
 refine RetG.of (vs := [_, _]) Tryz.func202 rfl Tryz.ntmps202 [(0, _), (1, _)] ⟨rfl, rfl, trivial⟩ rfl fun w0 => Cov.dup hG ?_
 have B0 : Bd w0 (blks [] [.g R0]) Fs G := Bd.fin hG
 generalize hS0 : blks [] [.g R0] = S0 at B0 ⊢
 replace h : _ = some (List.drop 0 l) := h
 refine .seq (.region rfl (.q .ro (.load_rp hp1 mcs rfl ty218 rfl) rfl (.q .ro (.len_sl rfl rfl sl218) rfl (.mv rfl rfl (.re (.block ?_))))))
 refine .loop2 (α := Nat × (List (Int × Bool)) × Guest × Nat) (fun y => [(7, .int .i64 (y.1 : Int))]) [(0, _), (5, _), (6, _)] (fun y => []) (fun y => []) [] (fun y => [.g y.2.2.1]) [] (fun y => 𝒢 y.2.2.2 y.2.2.1 ∧ y.2.2.2 ≤ l.length ∧ List.drop y.1 x1 = y.2.1 ∧ code_known_f1_L1 y.2.1 y.1  = some (List.drop y.2.2.2 l)) (fun y => y.2.1.length) (0, x1, R0, 0) ⟨hR0, (Nat.zero_le _), rfl, h⟩ ⟨rfl, rfl, rfl, rfl, trivial⟩ rfl rfl rfl (fun y hI hb30 => ?_)
 obtain ⟨i22, w23, R25, i26⟩ := y
 obtain ⟨hR27, le28, g24, r29⟩ := hI
 try dsimp only at hR27 le28 g24 r29
 refine .prune [(7, .int .i64 (i22 : Int)), (0, _), (5, _), (6, _)] ⟨rfl, rfl, rfl, rfl, trivial⟩ (.same (bl' := []) (sl' := [.g R25]) (Fs' := G :: Fs) rfl rfl rfl ?_)
 cases w23 with
 | nil =>
  rw [code_known_f1_L1] at r29; try dsimp only at r29
  refine .seq (.region rfl (.q .ro (.lss rfl rfl) rfl (.re (.seq ?_))))
  refine .cond_dec rfl (fun c => absurd c (drop_nil g24)) (fun _ => ?_)
  refine .exit rfl ?_
  have hi := yc_end r29 le28
  refine .leave (.inl rfl) [] [] rfl Tryz.func202 Tryz.results202 trivial mcm (.inl rfl) (fresh_emp _) ⟨rfl, R25, .inl (hi ▸ hR27), rfl⟩
 | cons x34 xs35 =>
  have r33 : code_known_f1_B1 (code_known_f1_L1 xs35 (i22 + 1)) x34 i22  = some (List.drop i26 l) := r29; clear r29; unfold code_known_f1_B1 at r33; try dsimp only at r33
  refine .seq (.region rfl (.q .ro (.lss rfl rfl) rfl (.re (.seq ?_))))
  refine .cond_dec rfl (fun _ => ?_) (fun c => absurd (drop_lt g24) c)
  refine .skip (.seq (.block (.seq (.region rfl (.mv rfl rfl ?_)))))
  obtain ⟨c36, p37, h38⟩ := SlR.get s1 (drop_idx g24)
  obtain ⟨_, _, rfl, rfl, rfl⟩ := h38
  refine .q .ro (.idxR s1 rfl rfl (drop_idx g24) sl218 ty220.sz) rfl (.q .ro (.load_rp_a [_, _] p37 mcs rfl ty220 rfl) rfl ?_)
  refine .alloc .ro ty220 rfl (fun b39 hb39 => ?_)
  refine .av rfl rfl (.store 0 [_, _] [_] .ro rfl rfl rfl ty220 rfl rfl rfl rfl (.re (.seq (.region rfl (.q .ro (.fieldAddr 1 rfl fl220_1 ty4.sz rfl) rfl (.q .ro (.load_own 0 rfl rfl ty4 rfl) rfl (.mv rfl rfl ?_)))))))
  refine .split_b 14 rfl (fun hc40 => ?_) (fun hc40 => ?_)
  ·have r41 := ifT r33 hc40
   refine .g_on rfl (.mv rfl rfl (.g_on rfl (.mv rfl rfl (.g_on rfl (.q .ro (.addw rfl rfl) rfl (.g_on rfl (.q .ro (.fieldAddr 0 rfl fl220_0 ty3.sz rfl) rfl (.g_on rfl (.q .ro (.load_own 0 rfl rfl ty3 rfl) rfl (.g_on rfl ?_))))))))))
   obtain ⟨h42, r43⟩ := yc_some r41; clear r41
   refine .yieldX hy ⟨_, h42, ⟨[_], _, rfl, ⟨_, rfl, ((Rep.intI .i64 (w64 ((i22 : Int) + 1))) :)⟩, ⟨_, rfl, ((Rep.intI .i64 x34.1) :)⟩⟩⟩ hR27 mcm rfl rfl rfl (fun R44 hR45 => ?_) (fun R46 hE47 => ?_)
   ·refine .g_on rfl ?_
    refine .q .ro (.not_t rfl) rfl (.q .ro (.pick_t rfl rfl) rfl (.re (.cond_false rfl (.skip (.inBlock (.region rfl (.q .ro (.addw rfl rfl) rfl (.mv rfl rfl (.re (.drop 1 0 [] _ rfl rfl ?_))))))))))
    exact .arr (hb30 ((i22 + 1), xs35, R44, (i26 + 1)) ⟨hR45, (yc_le h42), (drop_succ g24), r43⟩ (Nat.lt_succ_self _)) ⟨(congrArg (fun z => some (Value.int .i64 z)) (idx_wrap (SlR.len s1) g24)), rfl, rfl, rfl, trivial⟩
   ·refine .g_on rfl ?_
    refine .q .ro (.not_f rfl) rfl (.q .ro (.pick_t rfl rfl) rfl (.re (.cond_true rfl (.drop 1 0 [] _ rfl rfl ?_))))
    refine .leave (.inr ⟨_, rfl⟩) [] [] rfl Tryz.func202 Tryz.results202 trivial mcm (.inl rfl) (fresh_emp _) ⟨rfl, R46, .inr hE47, rfl⟩
  ·have r48 := ifBF r33 hc40
   refine .g_off rfl rfl rfl (.g_off rfl rfl rfl (.g_off rfl rfl rfl (.g_off rfl rfl rfl (.g_off rfl rfl rfl (.g_off rfl rfl rfl (.g_off rfl rfl rfl (.q .ro (.pick_f rfl rfl) rfl (.re (.prune [(7, _), (0, _), (5, _), (6, _), (22, _)] ⟨rfl, rfl, rfl, rfl, rfl, trivial⟩ (.cond_false rfl (.skip (.inBlock (.region rfl (.q .ro (.addw rfl rfl) rfl (.mv rfl rfl (.re (.drop 1 0 [] _ rfl rfl ?_)))))))))))))))))
   exact .arr (hb30 ((i22 + 1), xs35, R25, i26) ⟨hR27, le28, (drop_succ g24), r48⟩ (Nat.lt_succ_self _)) ⟨(congrArg (fun z => some (Value.int .i64 z)) (idx_wrap (SlR.len s1) g24)), rfl, rfl, rfl, trivial⟩
theorem code_known_c {Fs : List Hp} {G : Hp} {a0 : Option Addr} {k0 : Nat} {x0 : List (Int × Bool)} {r : (List (Int × Int))} (hG : G ∈ Fs) (s0 : SlR (Rep.pair ri Rep.bool) G a0 k0 x0) (h : code_known x0 = some r) : RetW Tryz.prog 199 #[.slice a0 x0.length k0] Fs [] [] (fun v bo so G => ∃ (Fi0 : FuncId) (ci0 : List Value), v = .func (.func Fi0) #[] ci0.toArray ∧ bo = [] ∧ so = [] ∧ (∀ args w, (callFunc Fi0 args).run Tryz.prog w = .ok (.enter Fi0 args) w) ∧ IterRX Tryz.prog (Yr.pair (Yr.v ri) (Yr.v ri)) Fi0 ci0 G r) := by
 unfold code_known at h
 try dsimp only at h
 refine RetW.of (vs := [_]) Tryz.func199 rfl Tryz.ntmps199 [(0, _)] ⟨rfl, trivial⟩ rfl hG fun w0 S0 hS0 B0 => ?_
 refine .seq (.region rfl ?_)
 refine .box [_] .ro rfl rfl rfl (fun b1 hb1 => ?_)
 refine .av rfl rfl (.re (.seq (.region rfl (.q .ro (.makeFunc (vf := []) (vc := [_]) rfl rfl) rfl (.av rfl rfl (.re ?_))))))
 refine .freezeBR 0 rfl [] rfl B0 (fun G2 e3 B4 p5 => ?_)
 obtain ⟨u7, hu7, r8⟩ := bind_some h
 cases r8
 refine .retW (.inr ⟨_, rfl⟩) [.tmp 2] [_] rfl Tryz.func199 Tryz.results199 ⟨RV.tmp rfl, trivial⟩ mcm mcs B4 (by subst hS0; simp [blks]) (fun G' hg => ⟨_, _, rfl, rfl, rfl, Tryz.call202, (fun Fs' G1 hle hm => code_known_f1_i (G := G1) hm (Rp.mono (HpLe.trans hg hle) p5) (SlR.mono (HpLe.trans hg hle) (SlR.mono e3 s0)) hu7)⟩)
theorem code_cells_c {Fs : List Hp} {G : Hp} {x0_0 : Int} {a1 : Option Addr} {k1 : Nat} {x1 : List (Int × Bool)} {r : (Int × Int × Int)} (hG : G ∈ Fs) (s1 : SlR (Rep.pair ri Rep.bool) G a1 k1 x1) (h : code_cells x0_0 x1 = some r) : RetS Tryz.prog 187 #[.agg #[.int .i64 x0_0], .slice a1 x1.length k1] Fs [] [] (fun v bo so => v = .tuple #[.int .i64 r.1, .int .i64 r.2.1, .int .i64 r.2.2] ∧ bo = [] ∧ so = []) := by
 unfold code_cells at h
 try dsimp only at h
 refine RetS.of (vs := [_, _]) Tryz.func187 rfl Tryz.ntmps187 [(0, _), (1, _)] ⟨rfl, rfl, trivial⟩ rfl hG fun w0 S0 hS0 B0 => ?_
 refine .marks0 (.seq (.region rfl ?_))
 refine .box [_] .ro rfl rfl rfl (fun b1 hb1 => ?_)
 refine .alloc .ro ty140 rfl (fun b2 hb2 => ?_)
 refine .alloc .ro ty3 rfl (fun b3 hb3 => ?_)
 refine .alloc .ro ty33 rfl (fun b4 hb4 => ?_)
 refine .re (.seq (.region rfl (.q .ro (.load_own_a 3 [_] rfl rfl ty45 rfl) rfl ?_)))
 obtain ⟨u5, hu5, r6⟩ := bind_some h
 refine .callS (b1 := []) (b2 := [_, _, _, _]) (s1 := []) [_] [] .ro rfl rfl Tryz.call72 rfl rfl (residue_Of_c (G := G) mcs  hu5) rfl (fun v8 bo so h7 => ?_)
 obtain ⟨rfl, rfl, rfl⟩ := h7
 refine .same (bl' := [_, _, _, _]) (sl' := [_]) rfl rfl rfl (.mv rfl rfl (.q .ro (.extract rfl rfl) rfl (.q .ro (.extract rfl rfl) rfl ?_)))
 refine .alloc .ro ty140 rfl (fun b9 hb9 => ?_)
 refine .store 0 [_] [_, _, _, _, _] .ro rfl rfl rfl ty140 rfl rfl rfl rfl (.av rfl rfl (.re (.seq (.seq (.region rfl (.mv rfl rfl (.q .ro (.not rfl) rfl (.re ?_))))))))
 refine .cond rfl (fun c10 => ?_) (fun c10 => ?_)
 ·have r11 := ifT r6 c10; clear r6
  exact absurd r11 (by simp)
 ·have r12 := ifBF r6 c10; clear r6
  refine .skip (.seq (.seq (.region rfl (.mv rfl rfl (.q .ro (.len_sl rfl rfl sl218) rfl (.q .ro (.gtr rfl rfl) rfl (.mv rfl rfl ?_)))))))
  refine .cutR 6 (β := Unit) (fun y => [(28, .bool (decide ((32 < (x1.length : Int)) ∨ (x0_0 ≤ (x1.length : Int)))))]) [(1, _), (4, _), (5, _), (6, _), (7, _)] (fun y => G :: Fs) (fun y => []) [_, _, _, _, _] (fun y => []) [_] (fun y => True) ⟨rfl, rfl, rfl, rfl, rfl, trivial⟩ [0, 1, 2, 3, 4] rfl [0] rfl ?_ ?_
  ·rintro _ _
   refine .prune [(28, .bool (decide ((32 < (x1.length : Int)) ∨ (x0_0 ≤ (x1.length : Int))))), (1, _), (4, _), (5, _), (6, _), (7, _)] ⟨rfl, rfl, rfl, rfl, rfl, rfl, trivial⟩ (.same (bl' := [_, _, _, _, _]) (sl' := [_]) (Fs' := G :: Fs) rfl rfl rfl (.re ?_))
   refine .cond_dec rfl (fun c17 => ?_) (fun c17 => ?_)
   ·have r18 := ifT r12 c17; clear r12
    exact absurd r18 (by simp)
   ·have r19 := ifF r12 c17; clear r12
    refine .skip (.seq (.region rfl ?_))
    refine .alloc .ro ty3 rfl (fun b20 hb20 => ?_)
    refine .store 0 [_] [_, _, _, _, _, _] .ro rfl rfl rfl ty3 rfl rfl rfl rfl (.re (.seq (.seq (.region rfl (.mv rfl rfl ?_)))))
    obtain ⟨u21, hu21, r22⟩ := bind_some r19
    refine .callW (b1 := []) (b2 := [_, _, _, _, _, _]) (s1 := []) [_] [] .ro rfl rfl Tryz.call199 rfl rfl (code_known_c (G := G) mcs s1 hu21) rfl B0 (fun v24 bo so G25 e26 B27 h23 => ?_)
    obtain ⟨F29, c30, rfl, rfl, rfl, hc31, hi32⟩ := h23
    refine .same (bl' := [_, _, _, _, _, _]) (sl' := [_]) rfl rfl rfl (.re ?_)
    refine .cutBD (β := MK × Int) (fun y => mks y.1.1) (fun y => []) [(4, _), (5, _), (6, _), (7, _), (9, _)] (fun y => G25 :: Fs) (fun y => [(b20, .cells #[.int .i64 y.2] 3 (0, 0))]) [_, _, _, _, _] (fun y => [.g (marksG y.1)]) [] (fun y => (code_cells_J1 u5.1) y.2 = some r) ⟨rfl, rfl, rfl, rfl, rfl, trivial⟩ [1, 2, 3, 4, 5] rfl [] rfl ?_ ?_
    ·intro y hI
     obtain ⟨mk86, v87⟩ := y
     have r89 := hI; clear hI
     try dsimp only at r89
     refine .prune [(4, _), (5, _), (6, _), (7, _), (9, _)] ⟨rfl, rfl, rfl, rfl, rfl, trivial⟩ (.same (bl' := [(b20, .cells #[.int .i64 v87] 3 (0, 0)), _, _, _, _, _]) (sl' := [.g (marksG mk86)]) (Fs' := G25 :: Fs) rfl rfl rfl ?_)
     unfold code_cells_J1 at r89
     try dsimp only at r89
     refine .seq (.drawL (.q 0 (.q 1 (.e 2 1 (.e 3 2 (.e 4 2 .nil))))) [_, _, _, _, _] (by kernel_rfl) (by kernel_rfl) (pick_mem [0, 1, 2, 3, 5] rfl) (.dq (.load_own 1 rfl rfl ty140 rfl) rfl (.dq (.load_own 0 rfl rfl ty3 rfl) rfl (.store 4 [_] [_, _, _, _, _, _] .d1 rfl rfl rfl ty140 rfl rfl rfl rfl (.clsL (HpLe.refl _) (pick_mem [0, 1, 2, 3, 5] rfl) (.store 3 [_] [_, _, _, _, _, _] .d2 rfl rfl rfl ty3 rfl rfl rfl rfl (.store 2 [_] [_, _, _, _, _, _] .d2 rfl rfl rfl ty33 rfl rfl rfl rfl (.draw_end ?_))))))))
     cases r89
     refine .out (.inr ⟨_, rfl⟩) rfl (Cov.unmarkAll _ _ ?_)
     refine .outSD 6 [.cell 4 140, .cell 5 3, .cell 6 33] [_, _, _] Tryz.func187 Tryz.results187 ⟨RV.cell 4 rfl rfl ty140 rfl, RV.cell 3 rfl rfl ty3 rfl, RV.cell 2 rfl rfl ty33 rfl, trivial⟩ mcm ⟨rfl, rfl, rfl⟩
    ·intro hb92
     refine .block (.pull 4 rfl [_, _, _, _, _, _] rfl (.pull 4 rfl [_, _, _, _, _, _] rfl (.pull 4 rfl [_, _, _, _, _, _] rfl (.pull 4 rfl [_, _, _, _, _, _] rfl (.pull 4 rfl [_, _, _, _, _, _] rfl ?_)))))
     refine .rangeX (α := Int) (β := Unit) (fun y => []) (fun y => [(b20, .cells #[.int .i64 y] 3 (0, 0)), (b9, .cells #[.int .i64 u5.1] 140 (0, 0)), (b4, .cells #[.int .i64 0] 33 (0, 0)), (b3, .cells #[.int .i64 0] 3 (0, 0)), (b2, .cells #[.int .i64 0] 140 (0, 0))]) (fun y => []) (fun _ => []) (fun _ => []) (fun _ => []) (fun _ => .skip) (fun i y => code_cells_L2 (code_cells_J1 u5.1) u5.1 (List.drop i u21) y = some r) (fun _ => False) (0)  c30 rfl rfl hc31 rfl (by simp) rfl rfl (hi32 _ G25 (HpLe.refl _) mcs) (fun _ _ hv => by obtain ⟨_, _, hv⟩ := hv; exact (Yr.len _ hv).trans rfl) (by kernel_rfl) r22 ?_ ?_ (fun _ _ h => h.elim)
     ·intro l15 tm16 D28 i34 v35 v36 hV37 hI w38 S39 hw40
      have r41 := hI; clear hI
      obtain ⟨x42, h43, h44⟩ := hV37
      refine .dup (G := G25) mcs ?_
      obtain ⟨_, _, rfl, h46, h47⟩ := h44
      obtain ⟨v48, rfl, h49⟩ := h46
      obtain ⟨rfl, _⟩ := List.cons.inj h49
      obtain ⟨v50, rfl, h51⟩ := h47
      obtain ⟨rfl, _⟩ := List.cons.inj h51
      rw [drop_cons h43] at r41
      have r52 : code_cells_B2 (code_cells_J1 u5.1) u5.1 (code_cells_L2 (code_cells_J1 u5.1) u5.1 (List.drop (i34 + 1) u21)) x42 v35 = some r := r41; clear r41; unfold code_cells_B2 at r52; try dsimp only at r52
      refine .prune [(31, .int .i64 x42.1), (32, .int .i64 x42.2), (4, _), (5, _), (6, _), (7, _), (9, _)] ⟨rfl, rfl, rfl, rfl, rfl, rfl, rfl, trivial⟩ (.same (bl' := [(b20, .cells #[.int .i64 v35] 3 (0, 0)), (b9, .cells #[.int .i64 u5.1] 140 (0, 0)), (b4, .cells #[.int .i64 0] 33 (0, 0)), (b3, .cells #[.int .i64 0] 3 (0, 0)), (b2, .cells #[.int .i64 0] 140 (0, 0)), _]) (sl' := []) (Fs' := G25 :: (G25 :: Fs)) rfl rfl rfl (.region rfl (.av rfl rfl (.re (.beginRound 5 rfl rfl [_, _, _, _, _, _] rfl (.block (.seq (.seq (.region rfl (.q .ro (.load_own 1 rfl rfl ty140 rfl) rfl (.mv rfl rfl ?_)))))))))))
      obtain ⟨u53, hu53, r54⟩ := bind_some r52
      refine .callS (b1 := []) (b2 := [_, _, _, _, _, _]) (s1 := []) [_, _] [] .ro rfl rfl Tryz.call126 rfl rfl (residue_Field_Has_c (G := G25) mcs  hu53) rfl (fun v55 bo so h56 => ?_)
      obtain ⟨rfl, rfl, rfl⟩ := h56
      refine .same (bl' := [_, _, _, _, _, _]) (sl' := []) rfl rfl rfl (.q .ro (.not rfl) rfl (.re ?_))
      refine .cond rfl (fun c57 => ?_) (fun c57 => ?_)
      ·have r58 := ifT r54 c57; clear r54
       exact absurd r58 (by simp)
      ·have r59 := ifBF r54 c57; clear r54
       refine .skip (.region rfl (.q .ro (.load_own 0 rfl rfl ty3 rfl) rfl (.q .ro (.addw rfl rfl) rfl (.store 0 [_] [_, _, _, _, _, _] .ro rfl rfl rfl ty3 rfl rfl rfl rfl (.re (.inBlock ?_))))))
       refine .round_endX ((w64 (v35 + 1))) 5 rfl rfl r59 rfl rfl (fun F hF => List.mem_cons_of_mem _ hF) (by simp)
     ·intro q60 v35 hI hb61
      have r41 := hI; clear hI
      refine .prune [(4, _), (5, _), (6, _), (7, _), (9, _)] ⟨rfl, rfl, rfl, rfl, rfl, trivial⟩ (.same (bl' := [(b20, .cells #[.int .i64 v35] 3 (0, 0)), (b9, .cells #[.int .i64 u5.1] 140 (0, 0)), (b4, .cells #[.int .i64 0] 33 (0, 0)), (b3, .cells #[.int .i64 0] 3 (0, 0)), (b2, .cells #[.int .i64 0] 140 (0, 0)), _, _]) (sl' := [_]) (Fs' := G25 :: Fs) rfl rfl rfl ?_)
      refine .mkmerge 5 rfl [_, _, _, _, _, _] rfl (fun mk62 => ?_)
      rw [List.drop_length] at r41; rw [code_cells_L2] at r41; try dsimp only at r41
      refine .inBlock ?_
      exact .arr (hb92 (mk62, v35) r41) ⟨rfl, rfl, rfl, rfl, rfl, trivial⟩
  ·intro hb14
   refine .split 22 rfl (fun c13 => ?_) (fun c13 => ?_)
   ·refine .g_off rfl rfl rfl ?_
    refine .g_off rfl rfl rfl (.g_off rfl rfl rfl (.g_off rfl rfl rfl (.g_off rfl rfl rfl (.q .ro (.pick_t rfl rfl) rfl ?_))))
    exact .arr (hb14 () trivial) ⟨dor_t c13, rfl, rfl, rfl, rfl, rfl, trivial⟩
   ·refine .g_on rfl ?_
    refine .mv rfl rfl (.g_on rfl (.q .ro (.len_sl rfl rfl sl218) rfl (.g_on rfl (.q .ro (.fieldAddr 0 rfl fl45_0 ty3.sz rfl) rfl (.g_on rfl (.q .ro (.load_own 4 rfl rfl ty3 rfl) rfl (.g_on rfl (.q .ro (.geq rfl rfl) rfl (.q .ro (.pick_f rfl rfl) rfl ?_)))))))))
    exact .arr (hb14 () trivial) ⟨dor_f c13, rfl, rfl, rfl, rfl, rfl, trivial⟩
theorem residue_Field_Sub_c {Fs : List Hp} {G : Hp} {x0 : Int} {x1 : Int} {x2 : Int} {r : Int} (hG : G ∈ Fs)  (h : residue_Field_Sub x0 x1 x2 = some r) : RetS Tryz.prog 190 #[.int .i64 x0, .int .i64 x1, .int .i64 x2] Fs [] [] (fun v bo so => v = .int .i64 r ∧ bo = [] ∧ so = []) := by
 unfold residue_Field_Sub at h
 try dsimp only at h
 refine RetS.of (vs := [_, _, _]) Tryz.func190 rfl Tryz.ntmps190 [(0, _), (1, _), (2, _)] ⟨rfl, rfl, rfl, trivial⟩ rfl hG fun w0 S0 hS0 B0 => ?_
 refine .seq (.region rfl (.av rfl rfl (.re (.seq (.region rfl (.mv rfl rfl (.mv rfl rfl (.q .ro (.subw rfl rfl) rfl (.mv rfl rfl (.q .ro (.addw rfl rfl) rfl (.mv rfl rfl ?_)))))))))))
 obtain ⟨u1, hu1, r2⟩ := bind_some h
 refine .q .ro (.remt rfl rfl (nz_some hu1)) rfl (.av rfl rfl (.re ?_))
 cases r2
 refine .retS (.inr ⟨_, rfl⟩) [.tmp 6] [_] rfl Tryz.func190 Tryz.results190 ⟨RV.tmp rfl, trivial⟩ mcm ⟨rfl, rfl, rfl⟩
theorem poly_open_c {Fs : List Hp} {G : Hp} {x0_0 : Int} {a1 : Option Addr} {k1 : Nat} {x1 : List (List Int)} {r : (Int × Int)} (hG : G ∈ Fs) (s1 : SlR (Rep.sl ri) G a1 k1 x1) (h : poly_open x0_0 x1 = some r) : RetS Tryz.prog 194 #[.agg #[.int .i64 x0_0], .slice a1 x1.length k1] Fs [] [] (fun v bo so => v = .tuple #[.int .i64 r.1, .int .i64 r.2] ∧ bo = [] ∧ so = []) := by
 unfold poly_open at h
 try dsimp only at h
 refine RetS.of (vs := [_, _]) Tryz.func194 rfl Tryz.ntmps194 [(0, _), (1, _)] ⟨rfl, rfl, trivial⟩ rfl hG fun w0 S0 hS0 B0 => ?_
 refine .seq (.region rfl ?_)
 refine .box [_] .ro rfl rfl rfl (fun b1 hb1 => ?_)
 refine .av rfl rfl (.av rfl rfl (.re (.seq (.region rfl (.q .ro (.load_own_a 0 [_] rfl rfl ty45 rfl) rfl ?_)))))
 obtain ⟨u2, hu2, r3⟩ := bind_some h
 refine .callS (b1 := []) (b2 := [_]) (s1 := []) [_] [] .ro rfl rfl Tryz.call72 rfl rfl (residue_Of_c (G := G) mcs  hu2) rfl (fun v5 bo so h4 => ?_)
 obtain ⟨rfl, rfl, rfl⟩ := h4
 refine .same (bl' := [_]) (sl' := []) rfl rfl rfl (.mv rfl rfl (.q .ro (.extract rfl rfl) rfl (.q .ro (.extract rfl rfl) rfl (.av rfl rfl (.av rfl rfl (.re (.seq (.seq (.region rfl (.mv rfl rfl (.q .ro (.not rfl) rfl (.re ?_))))))))))))
 refine .cond rfl (fun c6 => ?_) (fun c6 => ?_)
 ·have r7 := ifT r3 c6; clear r3
  exact absurd r7 (by simp)
 ·have r8 := ifBF r3 c6; clear r3
  refine .skip (.seq (.region rfl (.av rfl rfl (.re (.seq (.seq (.region rfl (.mv rfl rfl (.q .ro (.len_sl rfl rfl sl51) rfl (.mv rfl rfl (.re (.prune [(6, _), (8, _), (18, _), (19, _), (20, _)] ⟨rfl, rfl, rfl, rfl, rfl, trivial⟩ ?_))))))))))))
  refine .cutB (β := Bool × Int) (fun y => [(8, .bool y.1)]) [(6, _)] (fun y => G :: Fs) (fun y => [(b1, .cells #[.int .i64 y.2] 45 (0, 0))]) [] (fun y => []) [] (fun y => (poly_open_J1 u2.1) y.1 y.2 = some r) ⟨rfl, trivial⟩ [] rfl [] rfl ?_ ?_
  ·intro y hI
   obtain ⟨v66, v67⟩ := y
   have r69 := hI; clear hI
   try dsimp only at r69
   refine .prune [(8, .bool v66), (6, _)] ⟨rfl, rfl, trivial⟩ (.same (bl' := [(b1, .cells #[.int .i64 v67] 45 (0, 0))]) (sl' := []) (Fs' := G :: Fs) rfl rfl rfl ?_)
   unfold poly_open_J1 at r69
   try dsimp only at r69
   refine .seq (.seq (.region rfl (.mv rfl rfl (.re ?_))))
   refine .cond rfl (fun c71 => ?_) (fun c71 => ?_)
   ·have r72 := ifT r69 c71; clear r69
    exact absurd r72 (by simp)
   ·have r73 := ifBF r69 c71; clear r69
    refine .skip (.seq (.region rfl (.mv rfl rfl (.av rfl rfl (.av rfl rfl (.re ?_))))))
    cases r73
    refine .drop 1 0 [] _ rfl rfl ?_
    refine .retS (.inr ⟨_, rfl⟩) [.tmp 4, .tmp 5] [_, _] rfl Tryz.func194 Tryz.results194 ⟨RV.tmp rfl, RV.tmp rfl, trivial⟩ mcm ⟨rfl, rfl, rfl⟩
  ·intro hb74
   refine .block ?_
   refine .loop2 (α := Nat × List (List Int) × Bool) (fun y => [(8, .bool y.2.2), (20, .int .i64 (y.1 : Int))]) [(6, _), (18, _), (19, _)] (fun y => []) (fun y => []) [_] (fun y => []) [] (fun y => List.drop y.1 x1 = y.2.1 ∧ poly_open_L2 (poly_open_J1 u2.1) u2.1 x0_0 y.2.1 y.2.2 = some r) (fun y => y.2.1.length) (0, x1, false) ⟨rfl, r8⟩ ⟨rfl, rfl, rfl, rfl, rfl, trivial⟩ rfl rfl rfl (fun y hI hb10 => ?_)
   obtain ⟨i11, w12, v13⟩ := y
   obtain ⟨g14, r15⟩ := hI
   try dsimp only at g14 r15
   refine .prune [(8, .bool v13), (20, .int .i64 (i11 : Int)), (6, _), (18, _), (19, _)] ⟨rfl, rfl, rfl, rfl, rfl, trivial⟩ (.same (bl' := [_]) (sl' := []) (Fs' := G :: Fs) rfl rfl rfl ?_)
   cases w12 with
   | nil =>
    rw [poly_open_L2] at r15; try dsimp only at r15
    refine .seq (.region rfl (.q .ro (.lss rfl rfl) rfl (.re (.seq ?_))))
    refine .cond_dec rfl (fun c => absurd c (drop_nil g14)) (fun _ => ?_)
    refine .exit rfl ?_
    exact .arr (hb74 (v13, x0_0) r15) ⟨rfl, rfl, trivial⟩
   | cons x16 xs17 =>
    have r18 : poly_open_B2 (poly_open_J1 u2.1) u2.1 x0_0 (poly_open_L2 (poly_open_J1 u2.1) u2.1 x0_0 xs17) x16 v13 = some r := r15; clear r15; unfold poly_open_B2 at r18; try dsimp only at r18
    refine .seq (.region rfl (.q .ro (.lss rfl rfl) rfl (.re (.seq ?_))))
    refine .cond_dec rfl (fun _ => ?_) (fun c => absurd (drop_lt g14) c)
    refine .skip (.seq (.block (.seq (.region rfl ?_))))
    obtain ⟨c19, p20, h21⟩ := SlR.get s1 (drop_idx g14)
    obtain ⟨a23, k24, rfl, s25⟩ := h21
    refine .q .ro (.idxR s1 rfl rfl (drop_idx g14) sl51 ty22.sz) rfl (.q .ro (.load_rp p20 mcs rfl ty22 rfl) rfl (.av rfl rfl (.re (.seq (.seq (.region rfl (.mv rfl rfl (.mv rfl rfl ?_))))))))
    obtain ⟨u26, hu26, r27⟩ := bind_some r18
    refine .callS (b1 := []) (b2 := [_]) (s1 := []) [_, _] [] .ro rfl rfl Tryz.call73 rfl rfl (residue_Field_All_c (G := G) mcs s25 hu26) rfl (fun v28 bo so h29 => ?_)
    obtain ⟨rfl, rfl, rfl⟩ := h29
    refine .same (bl' := [_]) (sl' := []) rfl rfl rfl (.q .ro (.not rfl) rfl (.re ?_))
    refine .cond rfl (fun c30 => ?_) (fun c30 => ?_)
    ·have r31 := ifT r27 c30; clear r27
     exact absurd r31 (by simp)
    ·have r32 := ifBF r27 c30; clear r27
     refine .skip (.region rfl (.mv rfl rfl (.mv rfl rfl ?_)))
     refine .cutR 4 (β := Unit) (fun y => [(33, .bool (decide ((v13 = true) ∨ (512 < (x16.length : Int)))))]) [(8, _), (20, _), (6, _), (18, _), (19, _)] (fun y => G :: Fs) (fun y => []) [_] (fun y => []) [] (fun y => True) ⟨rfl, rfl, rfl, rfl, rfl, trivial⟩ [0] rfl [] rfl ?_ ?_
     ·rintro _ _
      refine .prune [(33, .bool (decide ((v13 = true) ∨ (512 < (x16.length : Int))))), (8, _), (20, _), (6, _), (18, _), (19, _)] ⟨rfl, rfl, rfl, rfl, rfl, rfl, trivial⟩ (.same (bl' := [_]) (sl' := []) (Fs' := G :: Fs) rfl rfl rfl (.av rfl rfl (.re (.inBlock (.region rfl (.q .ro (.addw rfl rfl) rfl (.mv rfl rfl (.re ?_))))))))
      exact .arr (hb10 ((i11 + 1), xs17, (decide ((v13 = true) ∨ (512 < (x16.length : Int))))) ⟨(drop_succ g14), r32⟩ (Nat.lt_succ_self _)) ⟨rfl, (congrArg (fun z => some (Value.int .i64 z)) (idx_wrap (SlR.len s1) g14)), rfl, rfl, rfl, trivial⟩
     ·intro hb33
      refine .split_b 29 rfl (fun c34 => ?_) (fun c34 => ?_)
      ·refine .g_off rfl rfl rfl ?_
       refine .g_off rfl rfl rfl (.g_off rfl rfl rfl (.q .ro (.pick_t rfl rfl) rfl ?_))
       exact .arr (hb33 () trivial) ⟨dor_t c34, rfl, rfl, rfl, rfl, rfl, trivial⟩
      ·refine .g_on rfl ?_
       refine .mv rfl rfl (.g_on rfl (.q .ro (.len_sl rfl rfl sl22) rfl (.g_on rfl (.q .ro (.gtr rfl rfl) rfl (.q .ro (.pick_f rfl rfl) rfl ?_)))))
       exact .arr (hb33 () trivial) ⟨dor_f (bne_of c34), rfl, rfl, rfl, rfl, rfl, trivial⟩
theorem residue_Trim_c {Fs : List Hp} {G : Hp} {a0 : Option Addr} {k0 : Nat} {x0 : List Int} {r : (List Int)} (hG : G ∈ Fs) (s0 : SlR ri G a0 k0 x0) (h : residue_Trim x0 = some r) : RetS Tryz.prog 196 #[.slice a0 x0.length k0] Fs [] [] (fun v bo so => ∃ a0 : Option Addr, ∃ k0 : Nat, v = .slice a0 r.length k0 ∧ bo = [] ∧ so = [] ∧ SlR ri G a0 k0 r) := by
 unfold residue_Trim at h
 try dsimp only at h
 refine RetS.of (vs := [_]) Tryz.func196 rfl Tryz.ntmps196 [(0, _)] ⟨rfl, trivial⟩ rfl hG fun w0 S0 hS0 B0 => ?_
 refine .seq (.region rfl (.av rfl rfl (.re (.seq (.region rfl (.mv rfl rfl (.q .ro (.len_sl rfl rfl sl22) rfl (.av rfl rfl (.re (.seq ?_))))))))))
 refine .cutB (β := Int) (fun y => [(3, .int .i64 y)]) [(0, _)] (fun y => G :: Fs) (fun y => []) [] (fun y => []) [] (fun y => (residue_Trim_J1 x0) y = some r) ⟨rfl, trivial⟩ [] rfl [] rfl ?_ ?_
 ·intro v55 hI
  have r57 := hI; clear hI
  refine .prune [(3, .int .i64 v55), (0, _)] ⟨rfl, rfl, trivial⟩ (.same (bl' := []) (sl' := []) (Fs' := G :: Fs) rfl rfl rfl ?_)
  unfold residue_Trim_J1 at r57
  try dsimp only at r57
  refine .seq (.region rfl (.mv rfl rfl (.mv rfl rfl ?_)))
  obtain ⟨u59, hu59, r60⟩ := bind_some r57
  obtain ⟨a61, k62, h63, s64⟩ := SlR.sub s0 hu59
  refine .q .ro (.sliceR s0 rfl hu59 sl22 ty3.sz (fun _ => .no) (fun h => .yes' rfl h) h63) rfl (.av rfl rfl (.re ?_))
  cases r60
  refine .retS (.inr ⟨_, rfl⟩) [.tmp 2] [_] rfl Tryz.func196 Tryz.results196 ⟨RV.tmp rfl, trivial⟩ mcm ⟨a61, k62, rfl, rfl, rfl, s64⟩
 ·intro hb65
  refine .block ?_
  refine .loop2 (α := Nat × Int) (fun y => [(3, .int .i64 y.2)]) [(0, _)] (fun y => []) (fun y => []) [] (fun y => []) [] (fun y => residue_Trim_L2 (residue_Trim_J1 x0) x0 y.1 y.2 = some r) (fun y => y.1) (big, (x0.length : Int)) h ⟨rfl, rfl, trivial⟩ rfl rfl rfl (fun y hI hb94 => ?_)
  obtain ⟨n90, v92⟩ := y
  have r93 := hI; clear hI
  try dsimp only at r93
  refine .prune [(3, .int .i64 v92), (0, _)] ⟨rfl, rfl, trivial⟩ (.same (bl' := []) (sl' := []) (Fs' := G :: Fs) rfl rfl rfl ?_)
  obtain ⟨m97, rfl⟩ : ∃ m, n90 = m + 1 := by cases n90 with | zero => exact absurd (show (none : Option _) = some _ from r93) (by simp) | succ m => exact ⟨m, rfl⟩
  have r96 : residue_Trim_B2 (residue_Trim_J1 x0) x0 (residue_Trim_L2 (residue_Trim_J1 x0) x0 m97) v92 = some r := r93; clear r93; unfold residue_Trim_B2 at r96; try dsimp only at r96
  refine .seq (.seq (.region rfl (.mv rfl rfl (.q .ro (.gtr rfl rfl) rfl (.mv rfl rfl ?_)))))
  obtain ⟨u10, h11, r12⟩ := bind_some r96
  refine .cutR 7 (β := Unit) (fun y => [(15, .bool u10)]) [(3, _), (0, _)] (fun y => G :: Fs) (fun y => []) [] (fun y => []) [] (fun y => True) ⟨rfl, rfl, trivial⟩ [] rfl [] rfl ?_ ?_
  ·rintro _ _
   refine .prune [(15, .bool u10), (3, _), (0, _)] ⟨rfl, rfl, rfl, trivial⟩ (.same (bl' := []) (sl' := []) (Fs' := G :: Fs) rfl rfl rfl (.re ?_))
   refine .cond rfl (fun c13 => ?_) (fun c13 => ?_)
   ·have r14 := ifT r12 c13; clear r12
    refine .skip (.block (.region rfl (.mv rfl rfl (.q .ro (.subw rfl rfl) rfl (.av rfl rfl (.re (.inBlock ?_)))))))
    exact .arr (hb94 (m97, (w64 (v92 - 1))) r14 (Nat.lt_succ_self _)) ⟨rfl, rfl, trivial⟩
   ·have r15 := ifBF r12 c13; clear r12
    refine .exit rfl ?_
    exact .arr (hb65 (v92) r15) ⟨rfl, rfl, trivial⟩
  ·intro hb16
   refine .split 8 rfl (fun c17 => ?_) (fun c17 => ?_)
   ·have r18 := ifT h11 c17
    refine .g_on rfl (.mv rfl rfl (.g_on rfl (.mv rfl rfl (.g_on rfl (.q .ro (.subw rfl rfl) rfl (.g_on rfl ?_))))))
    obtain ⟨u19, hu19, r20⟩ := bind_some r18
    obtain ⟨c21, p23, h24⟩ := SlR.get s0 hu19
    obtain rfl := h24
    refine .q .ro (.idxR s0 rfl rfl hu19 sl22 ty3.sz) rfl (.g_on rfl (.q .ro (.load_rp p23 mcs rfl ty3 rfl) rfl (.g_on rfl (.q .ro (.eql rfl rfl) rfl (.q .ro (.pick_t rfl rfl) rfl ?_)))))
    exact .arr (hb16 () trivial) ⟨sval r20, rfl, rfl, trivial⟩
   ·have r25 := ifF h11 c17
    refine .g_off rfl rfl rfl (.g_off rfl rfl rfl (.g_off rfl rfl rfl (.g_off rfl rfl rfl (.g_off rfl rfl rfl (.g_off rfl rfl rfl (.q .ro (.pick_f rfl rfl) rfl ?_))))))
    exact .arr (hb16 () trivial) ⟨sval r25, rfl, rfl, trivial⟩
theorem residue_Trim_p_c {Fs : List Hp} {G : Hp} {a0 : Option Addr} {k0 : Nat} {x0 : List Int} {cc0 : List Value} {bb0 : Option Nat} {pre0 post0 : List Value} {r : ((Int × Int) × (List Int))} (hG : G ∈ Fs) (vva0 : VA a0 bb0 x0.length k0 pre0 cc0) (oo0 : OL ri G cc0 x0) (h : residue_Trim_p x0 = some r) : RetS Tryz.prog 196 #[.slice a0 x0.length k0] Fs [] [.g (viewG bb0 3 pre0 cc0 post0)] (fun v bo so => ∃ pq0 : Value, ∃ lc0 : List Value, v = pq0 ∧ bo = [] ∧ so = [.g (viewG bb0 3 pre0 lc0 post0)] ∧ PartV a0 1 pq0 r.1.1.toNat (r.1.2 - r.1.1).toNat ∧ OL ri G lc0 r.2 ∧ r.2.length = x0.length) := by
 unfold residue_Trim_p at h
 try dsimp only at h
 refine RetS.of (vs := [_]) Tryz.func196 rfl Tryz.ntmps196 [(0, _)] ⟨rfl, trivial⟩ rfl hG fun w0 S0 hS0 B0 => ?_
 refine .seq (.region rfl (.av rfl rfl (.re (.seq (.region rfl (.mv rfl rfl (.q .ro (.len_sl rfl rfl sl22) rfl (.av rfl rfl (.re (.seq ?_))))))))))
 refine .cutB (β := Int) (fun y => [(3, .int .i64 y)]) [(0, _)] (fun y => G :: Fs) (fun y => []) [] (fun y => []) [_] (fun y => (residue_Trim_p_J1 x0) y = some r) ⟨rfl, trivial⟩ [] rfl [0] rfl ?_ ?_
 ·intro v56 hI
  have r58 := hI; clear hI
  refine .prune [(3, .int .i64 v56), (0, _)] ⟨rfl, rfl, trivial⟩ (.same (bl' := []) (sl' := [_]) (Fs' := G :: Fs) rfl rfl rfl ?_)
  unfold residue_Trim_p_J1 at r58
  try dsimp only at r58
  refine .seq (.region rfl (.mv rfl rfl (.mv rfl rfl ?_)))
  obtain ⟨u60, hu60, r61⟩ := bind_some r58
  refine .q .ro (.sliceP rfl (PartV.all vva0.1) hu60 sl22 ty3.sz (fun _ => .no) (fun h => .yes' rfl h)) rfl (.av rfl rfl (.re ?_))
  cases r61
  refine .retS (.inr ⟨_, rfl⟩) [.tmp 2] [_] rfl Tryz.func196 Tryz.results196 ⟨RV.tmp rfl, trivial⟩ mcm ⟨_, cc0, rfl, rfl, rfl, (PartV.psub (PartV.all vva0.1) hu60), oo0, rfl⟩
 ·intro hb62
  refine .block ?_
  refine .loop2 (α := Nat × Int) (fun y => [(3, .int .i64 y.2)]) [(0, _)] (fun y => []) (fun y => []) [] (fun y => []) [_] (fun y => residue_Trim_p_L2 (residue_Trim_p_J1 x0) x0 y.1 y.2 = some r) (fun y => y.1) (big, (x0.length : Int)) h ⟨rfl, rfl, trivial⟩ rfl rfl rfl (fun y hI hb91 => ?_)
  obtain ⟨n87, v89⟩ := y
  have r90 := hI; clear hI
  try dsimp only at r90
  refine .prune [(3, .int .i64 v89), (0, _)] ⟨rfl, rfl, trivial⟩ (.same (bl' := []) (sl' := [_]) (Fs' := G :: Fs) rfl rfl rfl ?_)
  obtain ⟨m94, rfl⟩ : ∃ m, n87 = m + 1 := by cases n87 with | zero => exact absurd (show (none : Option _) = some _ from r90) (by simp) | succ m => exact ⟨m, rfl⟩
  have r93 : residue_Trim_p_B2 (residue_Trim_p_J1 x0) x0 (residue_Trim_p_L2 (residue_Trim_p_J1 x0) x0 m94) v89 = some r := r90; clear r90; unfold residue_Trim_p_B2 at r93; try dsimp only at r93
  refine .seq (.seq (.region rfl (.mv rfl rfl (.q .ro (.gtr rfl rfl) rfl (.mv rfl rfl ?_)))))
  obtain ⟨u10, h11, r12⟩ := bind_some r93
  refine .cutR 7 (β := Unit) (fun y => [(15, .bool u10)]) [(3, _), (0, _)] (fun y => G :: Fs) (fun y => []) [] (fun y => []) [_] (fun y => True) ⟨rfl, rfl, trivial⟩ [] rfl [0] rfl ?_ ?_
  ·rintro _ _
   refine .prune [(15, .bool u10), (3, _), (0, _)] ⟨rfl, rfl, rfl, trivial⟩ (.same (bl' := []) (sl' := [_]) (Fs' := G :: Fs) rfl rfl rfl (.re ?_))
   refine .cond rfl (fun c13 => ?_) (fun c13 => ?_)
   ·have r14 := ifT r12 c13; clear r12
    refine .skip (.block (.region rfl (.mv rfl rfl (.q .ro (.subw rfl rfl) rfl (.av rfl rfl (.re (.inBlock ?_)))))))
    exact .arr (hb91 (m94, (w64 (v89 - 1))) r14 (Nat.lt_succ_self _)) ⟨rfl, rfl, trivial⟩
   ·have r15 := ifBF r12 c13; clear r12
    refine .exit rfl ?_
    exact .arr (hb62 (v89) r15) ⟨rfl, rfl, trivial⟩
  ·intro hb16
   refine .split 8 rfl (fun c17 => ?_) (fun c17 => ?_)
   ·have r18 := ifT h11 c17
    refine .g_on rfl (.mv rfl rfl (.g_on rfl (.mv rfl rfl (.g_on rfl (.q .ro (.subw rfl rfl) rfl (.g_on rfl ?_))))))
    obtain ⟨u19, hu19, r20⟩ := bind_some r18
    obtain ⟨c21, p23, h24⟩ := OL.get oo0 hu19
    obtain rfl := h24
    refine .q .ro (.idxV 0 rfl vva0 oo0 rfl rfl hu19 sl22 ty3.sz rfl rfl) rfl (.g_on rfl (.q .ro (.loadV 0 0 rfl vva0 oo0 rfl rfl hu19 p23 rfl (.inl ⟨rfl, rfl⟩) ty3 rfl) rfl (.g_on rfl (.q .ro (.eql rfl rfl) rfl (.q .ro (.pick_t rfl rfl) rfl ?_)))))
    exact .arr (hb16 () trivial) ⟨sval r20, rfl, rfl, trivial⟩
   ·have r25 := ifF h11 c17
    refine .g_off rfl rfl rfl (.g_off rfl rfl rfl (.g_off rfl rfl rfl (.g_off rfl rfl rfl (.g_off rfl rfl rfl (.g_off rfl rfl rfl (.q .ro (.pick_f rfl rfl) rfl ?_))))))
    exact .arr (hb16 () trivial) ⟨sval r25, rfl, rfl, trivial⟩
theorem poly_own_c {Fs : List Hp} {G : Hp} {a0 : Option Addr} {k0 : Nat} {x0 : List Int} {r : (List Int)} (hG : G ∈ Fs) (s0 : SlR ri G a0 k0 x0) (h : poly_own x0 = some r) : RetS Tryz.prog 195 #[.slice a0 x0.length k0] Fs [] [] (fun v bo so => ∃ (oa0 : Option Addr) (ok0 : Nat) (oc0 : List Value), v = .slice oa0 r.length ok0 ∧ bo = [] ∧ so = [.s (.slice oa0 r.length ok0) 3 1 r.length oc0] ∧ OL ri G oc0 r) := by
 unfold poly_own at h
 try dsimp only at h
 refine RetS.of (vs := [_]) Tryz.func195 rfl Tryz.ntmps195 [(0, _)] ⟨rfl, trivial⟩ rfl hG fun w0 S0 hS0 B0 => ?_
 refine .seq (.region rfl (.av rfl rfl (.re (.seq (.region rfl (.mv rfl rfl ?_))))))
 obtain ⟨u1, hu1, r2⟩ := bind_some h
 refine .callS (b1 := []) (b2 := []) (s1 := []) [_] [] .ro rfl rfl Tryz.call196 rfl rfl (residue_Trim_c (G := G) mcs s0 hu1) rfl (fun v4 bo so h3 => ?_)
 obtain ⟨a5, k6, rfl, rfl, rfl, s7⟩ := h3
 refine .same (bl' := []) (sl' := []) rfl rfl rfl (.own_nil 3 1 ?_)
 obtain ⟨u13, hu13, r14⟩ := bind_some r2
 refine .appR (Q := ri) 0 .ro sl22 ty3 rfl rfl rfl rfl rfl (OL.nil (Rp' := ri)) rfl rfl s7 rfl mcs hu13 rfl (fun a9 k10 cs11 o12 => ?_)
 refine .av rfl rfl (.re ?_)
 cases r14
 refine .retS (.inr ⟨_, rfl⟩) [.tmp 2] [_] rfl Tryz.func195 Tryz.results195 ⟨RV.tmp rfl, trivial⟩ mcm ⟨a9, k10, cs11, rfl, rfl, rfl, o12⟩
theorem residue_Field_Inverse_c {Fs : List Hp} {G : Hp} {x0 : Int} {x1 : Int} {r : Int} (hG : G ∈ Fs)  (h : residue_Field_Inverse x0 x1 = some r) : RetS Tryz.prog 197 #[.int .i64 x0, .int .i64 x1] Fs [] [] (fun v bo so => v = .int .i64 r ∧ bo = [] ∧ so = []) := by
 unfold residue_Field_Inverse at h
 try dsimp only at h
 refine RetS.of (vs := [_, _]) Tryz.func197 rfl Tryz.ntmps197 [(0, _), (1, _)] ⟨rfl, rfl, trivial⟩ rfl hG fun w0 S0 hS0 B0 => ?_
 refine .seq (.region rfl (.av rfl rfl (.re (.seq (.region rfl (.mv rfl rfl (.mv rfl rfl (.av rfl rfl (.av rfl rfl (.av rfl rfl (.av rfl rfl (.re (.seq (.block ?_))))))))))))))
 refine .loop2 (α := Nat × Int × Int × Int × Int) (fun y => [(5, .int .i64 y.2.1), (6, .int .i64 y.2.2.1), (7, .int .i64 y.2.2.2.1), (8, .int .i64 y.2.2.2.2)]) [(0, _)] (fun y => []) (fun y => []) [] (fun y => []) [] (fun y => residue_Field_Inverse_L1 x0 y.1 y.2.1 y.2.2.1 y.2.2.2.1 y.2.2.2.2 = some r) (fun y => y.1) (big, x0, x1, 0, 1) h ⟨rfl, rfl, rfl, rfl, rfl, trivial⟩ rfl rfl rfl (fun y hI hb22 => ?_)
 obtain ⟨n15, v17, v18, v19, v20⟩ := y
 have r21 := hI; clear hI
 try dsimp only at r21
 refine .prune [(5, .int .i64 v17), (6, .int .i64 v18), (7, .int .i64 v19), (8, .int .i64 v20), (0, _)] ⟨rfl, rfl, rfl, rfl, rfl, trivial⟩ (.same (bl' := []) (sl' := []) (Fs' := G :: Fs) rfl rfl rfl ?_)
 obtain ⟨m25, rfl⟩ : ∃ m, n15 = m + 1 := by cases n15 with | zero => exact absurd (show (none : Option _) = some _ from r21) (by simp) | succ m => exact ⟨m, rfl⟩
 have r24 : residue_Field_Inverse_B1 x0 (residue_Field_Inverse_L1 x0 m25) v17 v18 v19 v20 = some r := r21; clear r21; unfold residue_Field_Inverse_B1 at r24; try dsimp only at r24
 refine .seq (.seq (.region rfl (.mv rfl rfl (.q .ro (.neq rfl rfl) rfl (.re ?_)))))
 refine .cond_dec rfl (fun c26 => ?_) (fun c26 => ?_)
 ·have r27 := ifT r24 c26; clear r24
  refine .skip (.block (.seq (.region rfl (.mv rfl rfl (.mv rfl rfl ?_)))))
  obtain ⟨u28, hu28, r29⟩ := bind_some r27
  refine .q .ro (.quow rfl rfl (nz_some hu28)) rfl (.av rfl rfl (.re (.region rfl (.mv rfl rfl (.mv rfl rfl (.mv rfl rfl (.mv rfl rfl (.q .ro (.mulw rfl rfl) rfl (.q .ro (.subw rfl rfl) rfl (.mv rfl rfl (.mv rfl rfl (.mv rfl rfl (.mv rfl rfl (.q .ro (.mulw rfl rfl) rfl (.q .ro (.subw rfl rfl) rfl (.av rfl rfl (.av rfl rfl (.av rfl rfl (.av rfl rfl (.re (.prune [(5, _), (6, _), (7, _), (8, _), (0, _)] ⟨rfl, rfl, rfl, rfl, rfl, trivial⟩ (.inBlock ?_))))))))))))))))))))))
  exact .arr (hb22 (m25, v18, (w64 (v17 - (w64 ((w64 (Int.tdiv v17 v18)) * v18)))), v20, (w64 (v19 - (w64 ((w64 (Int.tdiv v17 v18)) * v20))))) r29 (Nat.lt_succ_self _)) ⟨rfl, rfl, rfl, rfl, rfl, trivial⟩
 ·have r30 := ifF r24 c26; clear r24
  refine .exit rfl (.seq (.region rfl (.mv rfl rfl (.mv rfl rfl ?_))))
  obtain ⟨u31, hu31, r32⟩ := bind_some r30
  refine .q .ro (.remt rfl rfl (nz_some hu31)) rfl (.mv rfl rfl (.q .ro (.addw rfl rfl) rfl (.mv rfl rfl ?_)))
  obtain ⟨u33, hu33, r34⟩ := bind_some r32
  refine .q .ro (.remt rfl rfl (nz_some hu33)) rfl (.av rfl rfl (.re (.prune [(4, _)] ⟨rfl, trivial⟩ ?_)))
  cases r34
  refine .retS (.inr ⟨_, rfl⟩) [.tmp 4] [_] rfl Tryz.func197 Tryz.results197 ⟨RV.tmp rfl, trivial⟩ mcm ⟨rfl, rfl, rfl⟩
theorem poly_times_c {Fs : List Hp} {G : Hp} {x0 : Int} {a1 : Option Addr} {k1 : Nat} {x1 : List Int} {a2 : Option Addr} {k2 : Nat} {x2 : List Int} {r : (List Int)} (hG : G ∈ Fs) (s1 : SlR ri G a1 k1 x1) (s2 : SlR ri G a2 k2 x2) (h : poly_times x0 x1 x2 = some r) : RetS Tryz.prog 200 #[.int .i64 x0, .slice a1 x1.length k1, .slice a2 x2.length k2] Fs [] [] (fun v bo so => ∃ (oa0 : Option Addr) (ok0 : Nat) (oc0 : List Value), v = .slice oa0 r.length ok0 ∧ bo = [] ∧ so = [.s (.slice oa0 r.length ok0) 3 1 r.length oc0] ∧ OL ri G oc0 r) := by
 unfold poly_times at h
 try dsimp only at h
 refine RetS.of (vs := [_, _, _]) Tryz.func200 rfl Tryz.ntmps200 [(0, _), (1, _), (2, _)] ⟨rfl, rfl, rfl, trivial⟩ rfl hG fun w0 S0 hS0 B0 => ?_
 refine .seq (.region rfl (.av rfl rfl (.re (.seq (.region rfl (.mv rfl rfl (.q .ro (.len_sl rfl rfl sl22) rfl (.mv rfl rfl (.q .ro (.len_sl rfl rfl sl22) rfl (.q .ro (.addw rfl rfl) rfl (.q .ro (.subw rfl rfl) rfl ?_)))))))))))
 obtain ⟨u1, hu1, r2⟩ := bind_some h
 refine .makeR (G := G) (Q := ri) .ro sl22 ty3 rfl rfl rfl ((Rep.intI .i64 0) :) rfl rfl hu1 rfl rfl (fun b3 cs4 hb3 o5 => ?_)
 refine .av rfl rfl (.re (.seq (.seq (.region rfl (.mv rfl rfl (.q .ro (.len_sl rfl rfl sl22) rfl (.mv rfl rfl (.re (.block ?_)))))))))
 refine .loop2 (α := Nat × List Int × List Int × Option Addr × Nat × List Value) (fun y => [(7, .slice y.2.2.2.1 y.2.2.1.length y.2.2.2.2.1), (19, .int .i64 (y.1 : Int))]) [(0, _), (2, _), (17, _), (18, _)] (fun y => []) (fun y => []) [] (fun y => [.s (.slice y.2.2.2.1 y.2.2.1.length y.2.2.2.2.1) 3 1 y.2.2.1.length y.2.2.2.2.2]) [] (fun y => OL ri G y.2.2.2.2.2 y.2.2.1 ∧ List.drop y.1 x1 = y.2.1 ∧ poly_times_L1 x0 x2 y.2.1 y.1 y.2.2.1 = some r) (fun y => y.2.1.length) (0, x1, u1, (some ⟨b3, 0, none⟩), u1.length, cs4) ⟨o5, rfl, r2⟩ ⟨rfl, rfl, rfl, rfl, rfl, rfl, trivial⟩ rfl rfl rfl (fun y hI hb56 => ?_)
 obtain ⟨i46, w47, v49, a50, k51, cs52⟩ := y
 obtain ⟨o53, g48, r55⟩ := hI
 try dsimp only at o53 g48 r55
 refine .prune [(7, .slice a50 v49.length k51), (19, .int .i64 (i46 : Int)), (0, _), (2, _), (17, _), (18, _)] ⟨rfl, rfl, rfl, rfl, rfl, rfl, trivial⟩ (.same (bl' := []) (sl' := [.s (.slice a50 v49.length k51) 3 1 v49.length cs52]) (Fs' := G :: Fs) rfl rfl rfl ?_)
 cases w47 with
 | nil =>
  rw [poly_times_L1] at r55; try dsimp only at r55
  refine .seq (.region rfl (.q .ro (.lss rfl rfl) rfl (.re (.seq ?_))))
  refine .cond_dec rfl (fun c => absurd c (drop_nil g48)) (fun _ => ?_)
  refine .exit rfl (.seq (.region rfl (.mv rfl rfl (.av rfl rfl (.re ?_)))))
  cases r55
  refine .retS (.inr ⟨_, rfl⟩) [.tmp 6] [_] rfl Tryz.func200 Tryz.results200 ⟨RV.tmp rfl, trivial⟩ mcm ⟨a50, k51, cs52, rfl, rfl, rfl, o53⟩
 | cons x62 xs63 =>
  have r61 : poly_times_B1 x0 x2 (poly_times_L1 x0 x2 xs63 (i46 + 1)) x62 i46 v49 = some r := r55; clear r55; unfold poly_times_B1 at r61; try dsimp only at r61
  refine .seq (.region rfl (.q .ro (.lss rfl rfl) rfl (.re (.seq ?_))))
  refine .cond_dec rfl (fun _ => ?_) (fun c => absurd (drop_lt g48) c)
  refine .skip (.seq (.block (.seq (.region rfl (.mv rfl rfl ?_)))))
  obtain ⟨c64, p65, h66⟩ := SlR.get s1 (drop_idx g48)
  obtain rfl := h66
  refine .q .ro (.idxR s1 rfl rfl (drop_idx g48) sl22 ty3.sz) rfl (.q .ro (.load_rp p65 mcs rfl ty3 rfl) rfl (.av rfl rfl (.av rfl rfl (.re (.region rfl (.mv rfl rfl (.mv rfl rfl (.mv rfl rfl ?_))))))))
  refine .owncap 0 rfl (fun h67 => ?_)
  obtain ⟨u68, hu68, r69⟩ := bind_some r61
  refine .q .ro (.sliceP rfl (PartV.all h67) hu68 sl22 ty3.sz (fun h => .yes' rfl h) (fun _ => .no)) rfl (.mv rfl rfl (.mv rfl rfl ?_))
  refine .toV 0 rfl (fun vb70 po71 va72 vb73 => ?_)
  obtain ⟨u74, hu74, r75⟩ := bind_some r69
  refine .lendP 0 27 rfl va72 o53 (PartV.psub (PartV.all h67) hu68) rfl hu74 rfl (fun a76 k77 h78 o79 va80 => ?_)
  obtain ⟨u82, hu82, r83⟩ := bind_some r75
  refine .callS (b1 := []) (b2 := []) (s1 := [_]) [_, _, _, _] [] .ro rfl rfl Tryz.call67 rfl rfl (residue_Field_AddTimes_c (G := G) mcs va80 o79 s2 hu82) rfl (fun v85 bo so h84 => ?_)
  obtain ⟨cs86, rfl, rfl, rfl, o87, hl88⟩ := h84
  refine .same (bl' := []) (sl' := [_]) rfl rfl rfl ?_
  refine .backP 0 rfl va72 o53 rfl hu74 o87 hl88 (fun cs90 hl92 o91 va93 => ?_)
  refine .ofV 0 rfl vb73 hl92 o91 rfl (.reval 7 hl92 rfl (.reval 25 hl92 rfl (.re (.prune [(7, _), (19, _), (0, _), (2, _), (17, _), (18, _)] ⟨rfl, rfl, rfl, rfl, rfl, rfl, trivial⟩ (.inBlock (.region rfl (.q .ro (.addw rfl rfl) rfl (.mv rfl rfl (.re ?_)))))))))
  exact .arr (hb56 ((i46 + 1), xs63, (lcpy v49 u68.1 u74.length u82), a50, k51, cs90) ⟨o91, (drop_succ g48), r83⟩ (Nat.lt_succ_self _)) ⟨rfl, (congrArg (fun z => some (Value.int .i64 z)) (idx_wrap (SlR.len s1) g48)), rfl, rfl, rfl, rfl, trivial⟩
theorem poly_Interpolate_c {Fs : List Hp} {G : Hp} {x0_0 : Int} {a1 : Option Addr} {k1 : Nat} {x1 : List (Int × Int)} {r : ((List Int) × Int)} (hG : G ∈ Fs) (s1 : SlR (Rep.pair ri ri) G a1 k1 x1) (h : poly_Interpolate x0_0 x1 = some r) : RetS Tryz.prog 188 #[.agg #[.int .i64 x0_0], .slice a1 x1.length k1] Fs [] [] (fun v bo so => ∃ (oa0 : Option Addr) (ok0 : Nat) (oc0 : List Value), v = .tuple #[.slice oa0 r.1.length ok0, .int .i64 r.2] ∧ bo = [] ∧ so = [.s (.slice oa0 r.1.length ok0) 3 1 r.1.length oc0] ∧ OL ri G oc0 r.1) := by
 unfold poly_Interpolate at h
 try dsimp only at h
 refine RetS.of (vs := [_, _]) Tryz.func188 rfl Tryz.ntmps188 [(0, _), (1, _)] ⟨rfl, rfl, trivial⟩ rfl hG fun w0 S0 hS0 B0 => ?_
 refine .seq (.region rfl ?_)
 refine .box [_] .ro rfl rfl rfl (fun b1 hb1 => ?_)
 refine .av rfl rfl (.av rfl rfl (.re (.seq (.region rfl (.av rfl rfl (.av rfl rfl (.re (.seq (.seq (.region rfl (.mv rfl rfl (.q .ro (.len_sl rfl rfl sl81) rfl (.mv rfl rfl (.re ?_))))))))))))))
 refine .cutB (β := List Int × Option Addr × Nat × List Value × List Int × Option Addr × Nat × List Value × Int) (fun y => [(6, .slice y.2.1 y.1.length y.2.2.1), (7, .slice y.2.2.2.2.2.1 y.2.2.2.2.1.length y.2.2.2.2.2.2.1)]) [(2, _)] (fun y => G :: Fs) (fun y => [(b1, .cells #[.int .i64 y.2.2.2.2.2.2.2.2] 45 (0, 0))]) [] (fun y => [.s (.slice y.2.1 y.1.length y.2.2.1) 3 1 y.1.length y.2.2.2.1, .s (.slice y.2.2.2.2.2.1 y.2.2.2.2.1.length y.2.2.2.2.2.2.1) 3 1 y.2.2.2.2.1.length y.2.2.2.2.2.2.2.1]) [] (fun y => OL ri G y.2.2.2.1 y.1 ∧ OL ri G y.2.2.2.2.2.2.2.1 y.2.2.2.2.1 ∧ poly_Interpolate_J5 y.1 y.2.2.2.2.1 y.2.2.2.2.2.2.2.2 = some r) ⟨rfl, trivial⟩ [] rfl [] rfl ?_ ?_
 ·intro y hI
  obtain ⟨v10, a11, k12, cs13, v14, a15, k16, cs17, v18⟩ := y
  obtain ⟨o19, o20, r21⟩ := hI
  try dsimp only at o19 o20 r21
  refine .prune [(6, .slice a11 v10.length k12), (7, .slice a15 v14.length k16), (2, _)] ⟨rfl, rfl, rfl, trivial⟩ (.same (bl' := [(b1, .cells #[.int .i64 v18] 45 (0, 0))]) (sl' := [.s (.slice a11 v10.length k12) 3 1 v10.length cs13, .s (.slice a15 v14.length k16) 3 1 v14.length cs17]) (Fs' := G :: Fs) rfl rfl rfl ?_)
  unfold poly_Interpolate_J5 at r21
  try dsimp only at r21
  refine .seq (.region rfl (.q .ro (.load_own_a 0 [_] rfl rfl ty45 rfl) rfl (.mv rfl rfl (.mv rfl rfl ?_))))
  refine .freezeR 0 rfl rfl o19 [_] rfl B0 (fun G23 e24 B25 s26 => ?_)
  refine .freezeR 0 rfl rfl (OL.mono e24 o20) [] rfl B25 (fun G27 e28 B29 s30 => ?_)
  refine .lit [_, _] [(0, _), (1, _)] .ro sl51 ty22 rfl rfl rfl rfl rfl rfl (fun b31 hb31 => ?_)
  have o32 : OL (Rep.sl ri) G27 [.slice a11 v10.length k12, .slice a15 v14.length k16] ([v10, v14] : List (List Int)) := ((OL.cons rfl (Rep.slI (SlR.mono e28 s26)) (OL.cons rfl (Rep.slI s30) (OL.nil (Rp' := (Rep.sl ri))))) :)
  refine .reval 42 (n' := ([v10, v14] : List (List Int)).length) rfl rfl ?_
  refine .freezeR 0 rfl rfl o32 [] rfl B29 (fun G33 e34 B35 s36 => ?_)
  obtain ⟨u37, hu37, r38⟩ := bind_some r21
  refine .callS (b1 := []) (b2 := [_]) (s1 := []) [_, _] [] .ro rfl rfl Tryz.call194 rfl rfl (poly_open_c (G := G33) mcs s36 hu37) rfl (fun v39 bo so h40 => ?_)
  obtain ⟨rfl, rfl, rfl⟩ := h40
  refine .same (bl' := [_]) (sl' := []) rfl rfl rfl (.mv rfl rfl (.q .ro (.extract rfl rfl) rfl (.q .ro (.extract rfl rfl) rfl (.av rfl rfl (.av rfl rfl (.re (.seq (.seq (.region rfl (.mv rfl rfl (.q .ro (.neq rfl rfl) rfl (.re ?_))))))))))))
  refine .cond_dec rfl (fun c41 => ?_) (fun c41 => ?_)
  ·have r42 := ifT r38 c41; clear r38
   exact absurd r42 (by simp)
  ·have r43 := ifF r38 c41; clear r38
   refine .skip (.seq (.region rfl ?_))
   refine .mkMap (Value.int .i64) (Value.bool) .ro rfl (fun b44 hb44 => ?_)
   refine .av rfl rfl (.re (.prune [(6, _), (7, _), (10, _), (12, _)] ⟨rfl, rfl, rfl, rfl, trivial⟩ (.seq (.seq (.region rfl (.mv rfl rfl (.q .ro (.len_sl rfl rfl sl22) rfl (.mv rfl rfl (.re ?_)))))))))
   refine .cutB (β := (List (Int × Bool)) × Int) (fun y => []) [(6, _), (7, _), (10, _)] (fun y => G33 :: Fs) (fun y => [(b44, mObj (Value.int .i64) (Value.bool) y.1), (b1, .cells #[.int .i64 y.2] 45 (0, 0))]) [] (fun y => []) [] (fun y => (poly_Interpolate_J3 v10 v14 u37.1) y.1 y.2 = some r) ⟨rfl, rfl, rfl, trivial⟩ [] rfl [] rfl ?_ ?_
   ·intro y hI
    obtain ⟨v46, v47⟩ := y
    have r48 := hI; clear hI
    try dsimp only at r48
    refine .prune [(6, _), (7, _), (10, _)] ⟨rfl, rfl, rfl, trivial⟩ (.same (bl' := [(b44, mObj (Value.int .i64) (Value.bool) v46), (b1, .cells #[.int .i64 v47] 45 (0, 0))]) (sl' := []) (Fs' := G33 :: Fs) rfl rfl rfl ?_)
    unfold poly_Interpolate_J3 at r48
    try dsimp only at r48
    refine .seq (.region rfl (.av rfl rfl (.re (.seq (.region rfl ?_)))))
    refine .lit [_] [(0, _)] .ro sl22 ty3 rfl rfl rfl rfl rfl rfl (fun b49 hb49 => ?_)
    have o50 : OL ri G33 [.int .i64 1] ([1] : List Int) := ((OL.cons rfl (Rep.intI .i64 1) (OL.nil (Rp' := ri))) :)
    refine .reval 62 (n' := ([1] : List Int).length) rfl rfl (.av rfl rfl (.re (.seq (.seq (.region rfl (.mv rfl rfl (.q .ro (.len_sl rfl rfl sl22) rfl (.mv rfl rfl (.re ?_)))))))))
    refine .cutB (β := Hp × List Int × Option Addr × Nat × List Value × (List (Int × Bool)) × Int) (fun y => [(15, .slice y.2.2.1 y.2.1.length y.2.2.2.1)]) [] (fun y => y.1 :: Fs) (fun y => [(b44, mObj (Value.int .i64) (Value.bool) y.2.2.2.2.2.1), (b1, .cells #[.int .i64 y.2.2.2.2.2.2] 45 (0, 0))]) [] (fun y => [.s (.slice y.2.2.1 y.2.1.length y.2.2.2.1) 3 1 y.2.1.length y.2.2.2.2.1]) [] (fun y => HpLe G33 y.1 ∧ Bd w0 S0 Fs y.1 ∧ OL ri y.1 y.2.2.2.2.1 y.2.1 ∧ poly_Interpolate_J1 y.2.1 y.2.2.2.2.2.1 y.2.2.2.2.2.2 = some r) trivial [] rfl [] rfl ?_ ?_
    ·intro y hI
     obtain ⟨G52, v53, a54, k55, cs56, v57, v58⟩ := y
     obtain ⟨e59, B60, o61, r62⟩ := hI
     try dsimp only at e59 B60 o61 r62
     refine .prune [(15, .slice a54 v53.length k55)] ⟨rfl, trivial⟩ (.same (bl' := [(b44, mObj (Value.int .i64) (Value.bool) v57), (b1, .cells #[.int .i64 v58] 45 (0, 0))]) (sl' := [.s (.slice a54 v53.length k55) 3 1 v53.length cs56]) (Fs' := G52 :: Fs) rfl rfl rfl ?_)
     unfold poly_Interpolate_J1 at r62
     try dsimp only at r62
     refine .seq (.region rfl (.mv rfl rfl ?_))
     refine .freezeR 0 rfl rfl o61 [] rfl B60 (fun G63 e65 B66 s68 => ?_)
     obtain ⟨u69, hu69, r70⟩ := bind_some r62
     refine .callS (b1 := []) (b2 := [_, _]) (s1 := []) [_] [] .ro rfl rfl Tryz.call195 rfl rfl (poly_own_c (G := G63) mcs s68 hu69) rfl (fun v71 bo so h72 => ?_)
     obtain ⟨a73, k74, cs75, rfl, rfl, rfl, o76⟩ := h72
     refine .same (bl' := [_, _]) (sl' := [_]) rfl rfl rfl (.av rfl rfl (.av rfl rfl (.re ?_)))
     cases r70
     refine .drop 2 0 [] _ rfl rfl ?_
     refine .retS (.inr ⟨_, rfl⟩) [.tmp 4, .tmp 5] [_, _] rfl Tryz.func188 Tryz.results188 ⟨RV.tmp rfl, RV.tmp rfl, trivial⟩ mcm ⟨a73, k74, cs75, rfl, rfl, rfl, (OL.flat (Rep.flat_int _) o76)⟩
    ·intro hb78
     refine .block (.own_nil 3 1 (.pullS 1 rfl [_, _] rfl (.pullS 1 rfl [_, _] rfl ?_)))
     refine .loop2 (α := Nat × List Int × Hp × List Int × Option Addr × Nat × List Value × List Int × Option Addr × Nat × List Value) (fun y => [(15, .slice y.2.2.2.2.1 y.2.2.2.1.length y.2.2.2.2.2.1), (16, .slice y.2.2.2.2.2.2.2.2.1 y.2.2.2.2.2.2.2.1.length y.2.2.2.2.2.2.2.2.2.1), (65, .int .i64 (y.1 : Int))]) [(7, _), (10, _), (63, _), (64, _)] (fun y => [y.2.2.1]) (fun y => []) [_, _] (fun y => [.s (.slice y.2.2.2.2.1 y.2.2.2.1.length y.2.2.2.2.2.1) 3 1 y.2.2.2.1.length y.2.2.2.2.2.2.1, .s (.slice y.2.2.2.2.2.2.2.2.1 y.2.2.2.2.2.2.2.1.length y.2.2.2.2.2.2.2.2.2.1) 3 1 y.2.2.2.2.2.2.2.1.length y.2.2.2.2.2.2.2.2.2.2]) [] (fun y => HpLe G33 y.2.2.1 ∧ Bd w0 S0 Fs y.2.2.1 ∧ OL ri y.2.2.1 y.2.2.2.2.2.2.1 y.2.2.2.1 ∧ OL ri y.2.2.1 y.2.2.2.2.2.2.2.2.2.2 y.2.2.2.2.2.2.2.1 ∧ List.drop y.1 v10 = y.2.1 ∧ poly_Interpolate_L2 poly_Interpolate_J1 v14 u37.1 v46 v47 y.2.1 y.1 y.2.2.2.1 y.2.2.2.2.2.2.2.1 = some r) (fun y => y.2.1.length) (0, v10, G33, ([] : List Int), none, 0, [], ([1] : List Int), (some ⟨b49, 0, none⟩), 1, [.int .i64 1]) ⟨(HpLe.refl _), B35, (OL.nil (Rp' := ri)), o50, rfl, r48⟩ ⟨rfl, rfl, rfl, rfl, rfl, rfl, rfl, trivial⟩ rfl rfl rfl (fun y hI hb80 => ?_)
     obtain ⟨i82, w83, G84, v85, a86, k87, cs88, v89, a90, k91, cs92⟩ := y
     obtain ⟨e93, B94, o95, o96, g97, r98⟩ := hI
     try dsimp only at e93 B94 o95 o96 g97 r98
     refine .prune [(15, .slice a86 v85.length k87), (16, .slice a90 v89.length k91), (65, .int .i64 (i82 : Int)), (7, _), (10, _), (63, _), (64, _)] ⟨rfl, rfl, rfl, rfl, rfl, rfl, rfl, trivial⟩ (.same (bl' := [_, _]) (sl' := [.s (.slice a86 v85.length k87) 3 1 v85.length cs88, .s (.slice a90 v89.length k91) 3 1 v89.length cs92]) (Fs' := G84 :: Fs) rfl rfl rfl ?_)
     cases w83 with
     | nil =>
      rw [poly_Interpolate_L2] at r98; try dsimp only at r98
      refine .seq (.region rfl (.q .ro (.lss rfl rfl) rfl (.re (.seq ?_))))
      refine .cond_dec rfl (fun c => absurd c (drop_nil g97)) (fun _ => ?_)
      refine .exit rfl (.pullS 1 rfl [_, _] rfl (.drop 0 1 _ [_] rfl rfl ?_))
      exact .arr (hb78 (G84, v85, a86, k87, cs88, v46, v47) ⟨e93, B94, o95, r98⟩) ⟨rfl, trivial⟩
     | cons x99 xs100 =>
      have r101 : poly_Interpolate_B2 poly_Interpolate_J1 v14 u37.1 v46 v47 (poly_Interpolate_L2 poly_Interpolate_J1 v14 u37.1 v46 v47 xs100 (i82 + 1)) x99 i82 v85 v89 = some r := r98; clear r98; unfold poly_Interpolate_B2 at r101; try dsimp only at r101
      refine .seq (.region rfl (.q .ro (.lss rfl rfl) rfl (.re (.seq ?_))))
      refine .cond_dec rfl (fun _ => ?_) (fun c => absurd (drop_lt g97) c)
      refine .skip (.seq (.block (.seq (.region rfl (.mv rfl rfl ?_)))))
      obtain ⟨c102, p103, h104⟩ := SlR.get (SlR.mono (HpLe.trans (HpLe.trans e28 e34) e93) s26) (drop_idx g97)
      obtain rfl := h104
      refine .q .ro (.idxR (SlR.mono (HpLe.trans (HpLe.trans e28 e34) e93) s26) rfl rfl (drop_idx g97) sl22 ty3.sz) rfl (.q .ro (.load_rp p103 mcs rfl ty3 rfl) rfl (.av rfl rfl (.av rfl rfl (.re (.seq ?_)))))
      refine .freezeR 0 rfl rfl o95 [_] rfl B94 (fun G105 e106 B107 s108 => ?_)
      refine .freezeR 0 rfl rfl (OL.mono e106 o96) [] rfl B107 (fun G109 e110 B111 s112 => ?_)
      refine .drawL (.q 0 (.q 1 (.q 2 (.q 3 (.q 4 (.q 5 (.q 6 (.q 7 (.q 8 (.q 11 (.q 12 (.q 13 (.q 14 (.e 9 1 (.e 10 1 (.e 15 1 (.e 16 1 (.e 17 1 (.q 18 .nil))))))))))))))))))) [_, _] (by kernel_rfl) (by kernel_rfl) (pick_mem [0, 1] rfl) (.dq (.move rfl) rfl (.dq (.move rfl) rfl (.dq (.move rfl) rfl (.dq (.move rfl) rfl ?_))))
      obtain ⟨u113, hu113, r114⟩ := bind_some r101
      obtain ⟨c115, p116, h117⟩ := SlR.get (SlR.mono (HpLe.trans (HpLe.trans (HpLe.trans e34 e93) e106) e110) s30) hu113
      obtain rfl := h117
      refine .dq (.idxR (SlR.mono (HpLe.trans (HpLe.trans (HpLe.trans e34 e93) e106) e110) s30) rfl rfl hu113 sl22 ty3.sz) rfl (.dq (.load_rp p116 mcs rfl ty3 rfl) rfl (.dq (.move rfl) rfl (.dq (.move rfl) rfl (.dq (.move rfl) rfl (.dq (.move rfl) rfl (.dq (.move rfl) rfl (.dq (.move rfl) rfl (.dq (.move rfl) rfl ?_))))))))
      obtain ⟨u118, hu118, r119⟩ := bind_some r114
      refine .callS (b1 := []) (b2 := [_, _]) (s1 := []) [_, _, _] [] .d1 rfl rfl Tryz.call79 rfl rfl (residue_Field_Value_c (G := G109) mcs (SlR.mono e110 s108) hu118) rfl (fun v120 bo so h121 => ?_)
      obtain ⟨rfl, rfl, rfl⟩ := h121
      refine .same (bl' := [_, _]) (sl' := []) rfl rfl rfl (.clsL (HpLe.refl _) (pick_mem [0, 1] rfl) ?_)
      obtain ⟨u122, hu122, r123⟩ := bind_some r119
      refine .callS (b1 := []) (b2 := [_, _]) (s1 := []) [_, _, _] [] .d1 rfl rfl Tryz.call190 rfl rfl (residue_Field_Sub_c (G := G109) mcs  hu122) rfl (fun v124 bo so h125 => ?_)
      obtain ⟨rfl, rfl, rfl⟩ := h125
      refine .same (bl' := [_, _]) (sl' := []) rfl rfl rfl (.clsL (HpLe.refl _) (pick_mem [0, 1] rfl) ?_)
      obtain ⟨u126, hu126, r127⟩ := bind_some r123
      refine .callS (b1 := []) (b2 := [_, _]) (s1 := []) [_, _, _] [] .d1 rfl rfl Tryz.call79 rfl rfl (residue_Field_Value_c (G := G109) mcs s112 hu126) rfl (fun v128 bo so h129 => ?_)
      obtain ⟨rfl, rfl, rfl⟩ := h129
      refine .same (bl' := [_, _]) (sl' := []) rfl rfl rfl (.clsL (HpLe.refl _) (pick_mem [0, 1] rfl) ?_)
      obtain ⟨u130, hu130, r131⟩ := bind_some r127
      refine .callS (b1 := []) (b2 := [_, _]) (s1 := []) [_, _] [] .d1 rfl rfl Tryz.call197 rfl rfl (residue_Field_Inverse_c (G := G109) mcs  hu130) rfl (fun v132 bo so h133 => ?_)
      obtain ⟨rfl, rfl, rfl⟩ := h133
      refine .same (bl' := [_, _]) (sl' := []) rfl rfl rfl (.clsL (HpLe.refl _) (pick_mem [0, 1] rfl) ?_)
      obtain ⟨u134, hu134, r135⟩ := bind_some r131
      refine .callS (b1 := []) (b2 := [_, _]) (s1 := []) [_, _, _] [] .d1 rfl rfl Tryz.call77 rfl rfl (residue_Field_Mul_c (G := G109) mcs  hu134) rfl (fun v136 bo so h137 => ?_)
      obtain ⟨rfl, rfl, rfl⟩ := h137
      refine .same (bl' := [_, _]) (sl' := []) rfl rfl rfl (.clsL (HpLe.refl _) (pick_mem [0, 1] rfl) (.dq (.assign rfl) rfl (.draw_end (.prune [(15, _), (16, _), (65, _), (7, _), (10, _), (63, _), (64, _), (18, _), (19, _)] ⟨rfl, rfl, rfl, rfl, rfl, rfl, rfl, rfl, rfl, trivial⟩ (.seq (.region rfl (.mv rfl rfl (.q .ro (.len_sl rfl rfl sl22) rfl ?_))))))))
      obtain ⟨u138, hu138, r139⟩ := bind_some r135
      refine .makeR (G := G109) (Q := ri) .ro sl22 ty3 rfl rfl rfl ((Rep.intI .i64 0) :) rfl rfl hu138 rfl rfl (fun b140 cs141 hb140 o142 => ?_)
      refine .av rfl rfl (.re (.seq (.region rfl (.mv rfl rfl (.mv rfl rfl ?_)))))
      refine .owncap 0 rfl (fun h143 => ?_)
      obtain ⟨u144, hu144, r145⟩ := bind_some r139
      refine .copyG 0 (Q := ri) .ro sl22 ty3.sz rfl o142 hu144 rfl (PartV.all h143) rfl (SrcV.rd (SlR.mono e110 s108) mcs) rfl (fun cs146 hlcs146 o147 => ?_)
      refine .reval 90 hlcs146 rfl (.reval 20 hlcs146 rfl (.reval 91 hlcs146 rfl (.re (.seq (.region rfl (.mv rfl rfl (.mv rfl rfl (.mv rfl rfl (.mv rfl rfl ?_)))))))))
      refine .toV 0 rfl (fun vb148 po149 va150 vb151 => ?_)
      obtain ⟨u152, hu152, r153⟩ := bind_some r145
      refine .callS (b1 := []) (b2 := [_, _]) (s1 := [_]) [_, _, _, _] [] .ro rfl rfl Tryz.call67 rfl rfl (residue_Field_AddTimes_c (G := G109) mcs va150 o147 s112 hu152) rfl (fun v154 bo so h155 => ?_)
      obtain ⟨cs156, rfl, rfl, rfl, o157, hl158⟩ := h155
      refine .same (bl' := [_, _]) (sl' := [_]) rfl rfl rfl (.ofV 0 rfl vb151 hl158 o157 rfl (.reval 90 hl158 rfl (.reval 20 hl158 rfl (.reval 91 hl158 rfl (.reval 95 hl158 rfl (.re (.prune [(16, _), (65, _), (7, _), (10, _), (63, _), (64, _), (18, _), (20, _)] ⟨rfl, rfl, rfl, rfl, rfl, rfl, rfl, rfl, trivial⟩ (.seq (.region rfl (.mv rfl rfl (.av rfl rfl (.re (.region rfl (.mv rfl rfl (.mv rfl rfl (.mv rfl rfl (.mv rfl rfl ?_)))))))))))))))))
      obtain ⟨u159, hu159, r160⟩ := bind_some r153
      refine .callS (b1 := []) (b2 := [_, _]) (s1 := []) [_, _, _] [] .ro rfl rfl Tryz.call190 rfl rfl (residue_Field_Sub_c (G := G109) mcs  hu159) rfl (fun v161 bo so h162 => ?_)
      obtain ⟨rfl, rfl, rfl⟩ := h162
      refine .same (bl' := [_, _]) (sl' := [_]) rfl rfl rfl ?_
      refine .lit [_, _] [(0, _), (1, _)] .ro sl22 ty3 rfl rfl rfl rfl rfl rfl (fun b163 hb163 => ?_)
      have o164 : OL ri G109 [.int .i64 u159, .int .i64 1] ([u159, 1] : List Int) := ((OL.cons rfl (Rep.intI .i64 u159) (OL.cons rfl (Rep.intI .i64 1) (OL.nil (Rp' := ri)))) :)
      refine .reval 105 (n' := ([u159, 1] : List Int).length) rfl rfl ?_
      refine .freezeR 0 rfl rfl o164 [_] rfl B111 (fun G165 e166 B167 s169 => ?_)
      obtain ⟨u170, hu170, r171⟩ := bind_some r160
      refine .callS (b1 := []) (b2 := [_, _]) (s1 := []) [_, _, _] [] .ro rfl rfl Tryz.call200 rfl rfl (poly_times_c (G := G165) mcs (SlR.mono e166 s112) s169 hu170) rfl (fun v172 bo so h173 => ?_)
      obtain ⟨a174, k175, cs176, rfl, rfl, rfl, o177⟩ := h173
      refine .same (bl' := [_, _]) (sl' := [_, _]) rfl rfl rfl (.av rfl rfl (.re (.inBlock (.region rfl (.q .ro (.addw rfl rfl) rfl (.mv rfl rfl (.re (.pullS 1 rfl [_, _] rfl ?_))))))))
      exact .arr (hb80 ((i82 + 1), xs100, G165, u152, (some ⟨b140, 0, none⟩), u138.length, cs156, u170, a174, k175, cs176) ⟨(HpLe.trans (HpLe.trans (HpLe.trans e93 e106) e110) e166), B167, (OL.mono e166 o157), o177, (drop_succ g97), r171⟩ (Nat.lt_succ_self _)) ⟨rfl, rfl, (congrArg (fun z => some (Value.int .i64 z)) (idx_wrap (SlR.len (SlR.mono (HpLe.trans e28 e34) s26)) g97)), rfl, rfl, rfl, rfl, trivial⟩
   ·intro hb178
    refine .block ?_
    refine .loop2 (α := Nat × List Int × (List (Int × Bool))) (fun y => [(52, .int .i64 (y.1 : Int))]) [(6, _), (7, _), (10, _), (12, _), (50, _), (51, _)] (fun y => []) (fun y => [(b44, mObj (Value.int .i64) (Value.bool) y.2.2)]) [_] (fun y => []) [] (fun y => List.drop y.1 v10 = y.2.1 ∧ poly_Interpolate_L4 (poly_Interpolate_J3 v10 v14 u37.1) v18 y.2.1 y.2.2 = some r) (fun y => y.2.1.length) (0, v10, ([] : List (Int × Bool))) ⟨rfl, r43⟩ ⟨rfl, rfl, rfl, rfl, rfl, rfl, rfl, trivial⟩ rfl rfl rfl (fun y hI hb179 => ?_)
    obtain ⟨i180, w181, v182⟩ := y
    obtain ⟨g183, r184⟩ := hI
    try dsimp only at g183 r184
    refine .prune [(52, .int .i64 (i180 : Int)), (6, _), (7, _), (10, _), (12, _), (50, _), (51, _)] ⟨rfl, rfl, rfl, rfl, rfl, rfl, rfl, trivial⟩ (.same (bl' := [(b44, mObj (Value.int .i64) (Value.bool) v182), _]) (sl' := []) (Fs' := G33 :: Fs) rfl rfl rfl ?_)
    cases w181 with
    | nil =>
     rw [poly_Interpolate_L4] at r184; try dsimp only at r184
     refine .seq (.region rfl (.q .ro (.lss rfl rfl) rfl (.re (.seq ?_))))
     refine .cond_dec rfl (fun c => absurd c (drop_nil g183)) (fun _ => ?_)
     refine .exit rfl ?_
     exact .arr (hb178 (v182, v18) r184) ⟨rfl, rfl, rfl, trivial⟩
    | cons x185 xs186 =>
     have r187 : poly_Interpolate_B4 (poly_Interpolate_J3 v10 v14 u37.1) v18 (poly_Interpolate_L4 (poly_Interpolate_J3 v10 v14 u37.1) v18 xs186) x185 v182 = some r := r184; clear r184; unfold poly_Interpolate_B4 at r187; try dsimp only at r187
     refine .seq (.region rfl (.q .ro (.lss rfl rfl) rfl (.re (.seq ?_))))
     refine .cond_dec rfl (fun _ => ?_) (fun c => absurd (drop_lt g183) c)
     refine .skip (.seq (.block (.seq (.region rfl ?_))))
     obtain ⟨c189, p191, h192⟩ := SlR.get (SlR.mono (HpLe.trans e28 e34) s26) (drop_idx g183)
     obtain rfl := h192
     refine .q .ro (.idxR (SlR.mono (HpLe.trans e28 e34) s26) rfl rfl (drop_idx g183) sl22 ty3.sz) rfl (.q .ro (.load_rp p191 mcs rfl ty3 rfl) rfl (.av rfl rfl (.re (.seq (.seq (.region rfl (.mv rfl rfl (.mv rfl rfl (.q .ro (.mapGet 0 (f := Value.int .i64) (g := Value.bool) (l := v182) (x := x185) (z := false) rfl rfl rfl Tryz.underlying303 Tryz.underlying3 ik_int ij_int (by kernel_rfl)) rfl (.re ?_))))))))))
     refine .cond rfl (fun c193 => ?_) (fun c193 => ?_)
     ·have r196 := ifT r187 c193; clear r187
      exact absurd r196 (by simp)
     ·have r198 := ifBF r187 c193; clear r187
      refine .skip (.region rfl (.mv rfl rfl (.mv rfl rfl (.mapPut 0 (f := Value.int .i64) (g := Value.bool) (l := v182) (x := x185) (y := true) (.inl rfl) .ro rfl rfl rfl rfl Tryz.underlying303 Tryz.underlying3 ik_int ij_int _ rfl (.re (.inBlock (.region rfl (.q .ro (.addw rfl rfl) rfl (.mv rfl rfl (.re ?_))))))))))
      exact .arr (hb179 ((i180 + 1), xs186, (mput v182 x185 true)) ⟨(drop_succ g183), r198⟩ (Nat.lt_succ_self _)) ⟨(congrArg (fun z => some (Value.int .i64 z)) (idx_wrap (SlR.len (SlR.mono (HpLe.trans e28 e34) s26)) g183)), rfl, rfl, rfl, rfl, rfl, rfl, trivial⟩
 ·intro hb199
  refine .block (.own_nil 3 1 (.own_nil 3 1 (.pullS 1 rfl [_, _] rfl ?_)))
  refine .loop2 (α := Nat × (List (Int × Int)) × List Int × Option Addr × Nat × List Value × List Int × Option Addr × Nat × List Value) (fun y => [(6, .slice y.2.2.2.1 y.2.2.1.length y.2.2.2.2.1), (7, .slice y.2.2.2.2.2.2.2.1 y.2.2.2.2.2.2.1.length y.2.2.2.2.2.2.2.2.1), (23, .int .i64 (y.1 : Int))]) [(2, _), (21, _), (22, _)] (fun y => []) (fun y => []) [_] (fun y => [.s (.slice y.2.2.2.1 y.2.2.1.length y.2.2.2.2.1) 3 1 y.2.2.1.length y.2.2.2.2.2.1, .s (.slice y.2.2.2.2.2.2.2.1 y.2.2.2.2.2.2.1.length y.2.2.2.2.2.2.2.2.1) 3 1 y.2.2.2.2.2.2.1.length y.2.2.2.2.2.2.2.2.2]) [] (fun y => OL ri G y.2.2.2.2.2.1 y.2.2.1 ∧ OL ri G y.2.2.2.2.2.2.2.2.2 y.2.2.2.2.2.2.1 ∧ List.drop y.1 x1 = y.2.1 ∧ poly_Interpolate_L6 poly_Interpolate_J5 x0_0 y.2.1 y.2.2.1 y.2.2.2.2.2.2.1 = some r) (fun y => y.2.1.length) (0, x1, ([] : List Int), none, 0, [], ([] : List Int), none, 0, []) ⟨(OL.nil (Rp' := ri)), (OL.nil (Rp' := ri)), rfl, h⟩ ⟨rfl, rfl, rfl, rfl, rfl, rfl, trivial⟩ rfl rfl rfl (fun y hI hb201 => ?_)
  obtain ⟨i202, w203, v204, a205, k206, cs207, v208, a209, k210, cs211⟩ := y
  obtain ⟨o212, o213, g214, r215⟩ := hI
  try dsimp only at o212 o213 g214 r215
  refine .prune [(6, .slice a205 v204.length k206), (7, .slice a209 v208.length k210), (23, .int .i64 (i202 : Int)), (2, _), (21, _), (22, _)] ⟨rfl, rfl, rfl, rfl, rfl, rfl, trivial⟩ (.same (bl' := [_]) (sl' := [.s (.slice a205 v204.length k206) 3 1 v204.length cs207, .s (.slice a209 v208.length k210) 3 1 v208.length cs211]) (Fs' := G :: Fs) rfl rfl rfl ?_)
  cases w203 with
  | nil =>
   rw [poly_Interpolate_L6] at r215; try dsimp only at r215
   refine .seq (.region rfl (.q .ro (.lss rfl rfl) rfl (.re (.seq ?_))))
   refine .cond_dec rfl (fun c => absurd c (drop_nil g214)) (fun _ => ?_)
   refine .exit rfl ?_
   exact .arr (hb199 (v204, a205, k206, cs207, v208, a209, k210, cs211, x0_0) ⟨o212, o213, r215⟩) ⟨rfl, rfl, rfl, trivial⟩
  | cons x216 xs217 =>
   have r218 : poly_Interpolate_B6 poly_Interpolate_J5 x0_0 (poly_Interpolate_L6 poly_Interpolate_J5 x0_0 xs217) x216 v204 v208 = some r := r215; clear r215; unfold poly_Interpolate_B6 at r218; try dsimp only at r218
   refine .seq (.region rfl (.q .ro (.lss rfl rfl) rfl (.re (.seq ?_))))
   refine .cond_dec rfl (fun _ => ?_) (fun c => absurd (drop_lt g214) c)
   refine .skip (.seq (.block (.seq (.region rfl ?_))))
   obtain ⟨c219, p220, h221⟩ := SlR.get s1 (drop_idx g214)
   obtain ⟨_, _, rfl, rfl, rfl⟩ := h221
   refine .q .ro (.idxR s1 rfl rfl (drop_idx g214) sl81 ty168.sz) rfl (.q .ro (.load_rp_a [_, _] p220 mcs rfl ty168 rfl) rfl ?_)
   refine .alloc .ro ty168 rfl (fun b222 hb222 => ?_)
   refine .store 0 [_, _] [_, _] .ro rfl rfl rfl ty168 rfl rfl rfl rfl (.re (.drawL (.q 0 (.q 1 (.q 2 (.q 5 (.q 6 (.q 7 (.alt (.e 3 1 (.alt (.e 4 1 (.e 8 1 (.e 9 1 (.q 10 (.q 11 .nil))))) (.e 8 1 (.e 4 1 (.e 9 1 (.q 10 (.q 11 .nil))))))) (.e 8 1 (.e 3 1 (.e 4 1 (.e 9 1 (.q 10 (.q 11 .nil))))))))))))) [_, _] (by kernel_rfl) (by kernel_rfl) (pick_mem [0, 1] rfl) ?_))
   obtain ⟨u223, hu223, r224⟩ := bind_some r218
   obtain ⟨u225, hu225, r226⟩ := bind_some r224
   refine .dq (.move rfl) rfl (.dq (.fieldAddr 0 rfl fl168_0 ty3.sz rfl) rfl (.dq (.load_own 0 rfl rfl ty3 rfl) rfl (.dq (.move rfl) rfl (.dq (.fieldAddr 1 rfl fl168_1 ty3.sz rfl) rfl (.dq (.load_own 0 rfl rfl ty3 rfl) rfl ?_)))))
   refine .alt ?_ ?_
   ·refine .lit [_] [(0, _)] .d1 sl22 ty3 rfl rfl rfl rfl rfl rfl (fun b227 hb227 => ?_)
    have o228 : OL ri G [.int .i64 x216.1] ([x216.1] : List Int) := ((OL.cons rfl (Rep.intI .i64 x216.1) (OL.nil (Rp' := ri))) :)
    refine .reval 30 (n' := ([x216.1] : List Int).length) rfl rfl (.clsL (HpLe.refl _) (pick_mem [0, 1] rfl) ?_)
    refine .alt ?_ ?_
    ·refine .appO (Q := ri) 0 .d1 sl22 ty3 rfl rfl rfl rfl rfl rfl o212 o228 rfl rfl rfl B0 hu223 rfl (fun a229 k230 cs231 o232 => ?_)
     refine .clsL (HpLe.refl _) (pick_mem [0, 1] rfl) ?_
     refine .lit [_] [(0, _)] .d1 sl22 ty3 rfl rfl rfl rfl rfl rfl (fun b233 hb233 => ?_)
     have o234 : OL ri G [.int .i64 x216.2] ([x216.2] : List Int) := ((OL.cons rfl (Rep.intI .i64 x216.2) (OL.nil (Rp' := ri))) :)
     refine .reval 35 (n' := ([x216.2] : List Int).length) rfl rfl (.clsL (HpLe.refl _) (pick_mem [0, 1] rfl) ?_)
     refine .appO (Q := ri) 1 .d1 sl22 ty3 rfl rfl rfl rfl rfl rfl o213 o234 rfl rfl rfl B0 hu225 rfl (fun a235 k236 cs237 o238 => ?_)
     refine .clsL (HpLe.refl _) (pick_mem [0, 1] rfl) (.dq (.assign rfl) rfl (.dq (.assign rfl) rfl (.draw_end (.prune [(6, _), (7, _), (23, _), (2, _), (21, _), (22, _)] ⟨rfl, rfl, rfl, rfl, rfl, rfl, trivial⟩ (.inBlock (.region rfl (.q .ro (.addw rfl rfl) rfl (.mv rfl rfl (.re (.drop 1 0 [_] _ rfl rfl ?_))))))))))
     exact .arr (hb201 ((i202 + 1), xs217, u223, a229, k230, cs231, u225, a235, k236, cs237) ⟨o232, o238, (drop_succ g214), r226⟩ (Nat.lt_succ_self _)) ⟨rfl, rfl, (congrArg (fun z => some (Value.int .i64 z)) (idx_wrap (SlR.len s1) g214)), rfl, rfl, rfl, trivial⟩
    ·refine .lit [_] [(0, _)] .d1 sl22 ty3 rfl rfl rfl rfl rfl rfl (fun b239 hb239 => ?_)
     have o240 : OL ri G [.int .i64 x216.2] ([x216.2] : List Int) := ((OL.cons rfl (Rep.intI .i64 x216.2) (OL.nil (Rp' := ri))) :)
     refine .reval 35 (n' := ([x216.2] : List Int).length) rfl rfl (.clsL (HpLe.refl _) (pick_mem [0, 1] rfl) (.pullS 1 rfl [_, _, _, _] rfl ?_))
     refine .appO (Q := ri) 1 .d1 sl22 ty3 rfl rfl rfl rfl rfl rfl o212 o228 rfl rfl rfl B0 hu223 rfl (fun a241 k242 cs243 o244 => ?_)
     refine .clsL (HpLe.refl _) (pick_mem [0, 1] rfl) ?_
     refine .appO (Q := ri) 1 .d1 sl22 ty3 rfl rfl rfl rfl rfl rfl o213 o240 rfl rfl rfl B0 hu225 rfl (fun a245 k246 cs247 o248 => ?_)
     refine .clsL (HpLe.refl _) (pick_mem [0, 1] rfl) (.dq (.assign rfl) rfl (.dq (.assign rfl) rfl (.draw_end (.prune [(6, _), (7, _), (23, _), (2, _), (21, _), (22, _)] ⟨rfl, rfl, rfl, rfl, rfl, rfl, trivial⟩ (.inBlock (.region rfl (.q .ro (.addw rfl rfl) rfl (.mv rfl rfl (.re (.drop 1 0 [_] _ rfl rfl ?_))))))))))
     exact .arr (hb201 ((i202 + 1), xs217, u223, a241, k242, cs243, u225, a245, k246, cs247) ⟨o244, o248, (drop_succ g214), r226⟩ (Nat.lt_succ_self _)) ⟨rfl, rfl, (congrArg (fun z => some (Value.int .i64 z)) (idx_wrap (SlR.len s1) g214)), rfl, rfl, rfl, trivial⟩
   ·refine .lit [_] [(0, _)] .d1 sl22 ty3 rfl rfl rfl rfl rfl rfl (fun b249 hb249 => ?_)
    have o250 : OL ri G [.int .i64 x216.2] ([x216.2] : List Int) := ((OL.cons rfl (Rep.intI .i64 x216.2) (OL.nil (Rp' := ri))) :)
    refine .reval 35 (n' := ([x216.2] : List Int).length) rfl rfl (.clsL (HpLe.refl _) (pick_mem [0, 1] rfl) ?_)
    refine .lit [_] [(0, _)] .d1 sl22 ty3 rfl rfl rfl rfl rfl rfl (fun b251 hb251 => ?_)
    have o252 : OL ri G [.int .i64 x216.1] ([x216.1] : List Int) := ((OL.cons rfl (Rep.intI .i64 x216.1) (OL.nil (Rp' := ri))) :)
    refine .reval 30 (n' := ([x216.1] : List Int).length) rfl rfl (.clsL (HpLe.refl _) (pick_mem [0, 1] rfl) ?_)
    refine .appO (Q := ri) 1 .d1 sl22 ty3 rfl rfl rfl rfl rfl rfl o212 o252 rfl rfl rfl B0 hu223 rfl (fun a253 k254 cs255 o256 => ?_)
    refine .clsL (HpLe.refl _) (pick_mem [0, 1] rfl) ?_
    refine .appO (Q := ri) 1 .d1 sl22 ty3 rfl rfl rfl rfl rfl rfl o213 o250 rfl rfl rfl B0 hu225 rfl (fun a257 k258 cs259 o260 => ?_)
    refine .clsL (HpLe.refl _) (pick_mem [0, 1] rfl) (.dq (.assign rfl) rfl (.dq (.assign rfl) rfl (.draw_end (.prune [(6, _), (7, _), (23, _), (2, _), (21, _), (22, _)] ⟨rfl, rfl, rfl, rfl, rfl, rfl, trivial⟩ (.inBlock (.region rfl (.q .ro (.addw rfl rfl) rfl (.mv rfl rfl (.re (.drop 1 0 [_] _ rfl rfl ?_))))))))))
    exact .arr (hb201 ((i202 + 1), xs217, u223, a253, k254, cs255, u225, a257, k258, cs259) ⟨o256, o260, (drop_succ g214), r226⟩ (Nat.lt_succ_self _)) ⟨rfl, rfl, (congrArg (fun z => some (Value.int .i64 z)) (idx_wrap (SlR.len s1) g214)), rfl, rfl, rfl, trivial⟩
theorem code_first_c {Fs : List Hp} {G : Hp} {a0 : Option Addr} {k0 : Nat} {x0 : List (Int × Bool)} {x1 : Int} {r : (List (Int × Int))} (hG : G ∈ Fs) (s0 : SlR (Rep.pair ri Rep.bool) G a0 k0 x0) (h : code_first x0 x1 = some r) : RetS Tryz.prog 189 #[.slice a0 x0.length k0, .int .i64 x1] Fs [] [] (fun v bo so => ∃ (oa0 : Option Addr) (ok0 : Nat) (oc0 : List Value), v = .slice oa0 r.length ok0 ∧ bo = [] ∧ so = [.s (.slice oa0 r.length ok0) 168 2 r.length oc0] ∧ OL (Rep.pair ri ri) G oc0 r) := by
 unfold code_first at h
 try dsimp only at h
 refine RetS.of (vs := [_, _]) Tryz.func189 rfl Tryz.ntmps189 [(0, _), (1, _)] ⟨rfl, rfl, trivial⟩ rfl hG fun w0 S0 hS0 B0 => ?_
 refine .marks0 (.seq (.region rfl ?_))
 refine .box [_] .ro rfl rfl rfl (fun b1 hb1 => ?_)
 refine .av rfl rfl (.re (.seq (.region rfl ?_)))
 refine .alloc .ro ty81 rfl (fun b2 hb2 => ?_)
 refine .re (.seq (.seq (.region rfl (.mv rfl rfl ?_))))
 obtain ⟨u3, hu3, r4⟩ := bind_some h
 refine .callW (b1 := []) (b2 := [_, _]) (s1 := []) [_] [] .ro rfl rfl Tryz.call199 rfl rfl (code_known_c (G := G) mcs s0 hu3) rfl B0 (fun v6 bo so G7 e8 B9 h5 => ?_)
 obtain ⟨F11, c12, rfl, rfl, rfl, hc13, hi14⟩ := h5
 refine .same (bl' := [_, _]) (sl' := [_]) rfl rfl rfl (.re ?_)
 refine .cutBD (β := MK × (List (Int × Int)) × Option Addr × Nat × List Value) (fun y => mks y.1.1) (fun y => []) [(5, _)] (fun y => G7 :: Fs) (fun y => [(b2, .cells #[.slice y.2.2.1 y.2.1.length y.2.2.2.1] 81 (0, 0))]) [_] (fun y => [.g (marksG y.1), .s (.slice y.2.2.1 y.2.1.length y.2.2.2.1) 168 2 y.2.1.length y.2.2.2.2]) [] (fun y => OL (Rep.pair ri ri) G7 y.2.2.2.2 y.2.1 ∧ code_first_J1 y.2.1 = some r) ⟨rfl, trivial⟩ [1] rfl [] rfl ?_ ?_
 ·intro y hI
  obtain ⟨mk94, v95, a96, k97, cs98⟩ := y
  obtain ⟨o99, r10⟩ := hI
  try dsimp only at o99 r10
  refine .prune [(5, _)] ⟨rfl, trivial⟩ (.same (bl' := [(b2, .cells #[.slice a96 v95.length k97] 81 (0, 0)), _]) (sl' := [.g (marksG mk94), .s (.slice a96 v95.length k97) 168 2 v95.length cs98]) (Fs' := G7 :: Fs) rfl rfl rfl ?_)
  unfold code_first_J1 at r10
  try dsimp only at r10
  refine .seq (.region rfl (.q .ro (.load_own 0 rfl rfl ty81 rfl) rfl (.av rfl rfl (.re ?_))))
  cases r10
  refine .drop 2 0 [] _ rfl rfl ?_
  refine .out (.inr ⟨_, rfl⟩) rfl (Cov.unmarkAll _ _ ?_)
  refine .outS [.tmp 4] [_] Tryz.func189 Tryz.results189 ⟨RV.tmp rfl, trivial⟩ mcm ⟨a96, k97, cs98, rfl, rfl, rfl, (OL.flat (Rep.flat_pair (Rep.flat_int _) (Rep.flat_int _)) o99)⟩
 ·intro hb15
  refine .block (.own_nil 168 2 (.pull 1 rfl [_, _] rfl (.pull 1 rfl [_, _] rfl ?_)))
  refine .rangeX (α := (List (Int × Int)) × Option Addr × Nat × List Value) (β := Unit) (fun y => []) (fun y => [(b2, .cells #[.slice y.2.1 y.1.length y.2.2.1] 81 (0, 0)), (b1, .cells #[.int .i64 x1] 3 (0, 0))]) (fun y => [.s (.slice y.2.1 y.1.length y.2.2.1) 168 2 y.1.length y.2.2.2]) (fun _ => []) (fun _ => []) (fun _ => []) (fun _ => .skip) (fun i y => OL (Rep.pair ri ri) G7 y.2.2.2 y.1 ∧ code_first_L2 code_first_J1 x1 (List.drop i u3) y.1 = some r) (fun _ => False) (([] : List (Int × Int)), none, 0, [])  c12 rfl rfl hc13 rfl (by simp) rfl rfl (hi14 _ G7 (HpLe.refl _) mcs) (fun _ _ hv => by obtain ⟨_, _, hv⟩ := hv; exact (Yr.len _ hv).trans rfl) (by kernel_rfl) ⟨(OL.nil (Rp' := (Rep.pair ri ri))), r4⟩ ?_ ?_ (fun _ _ h => h.elim)
  ·intro l16 tm17 D18 i19 y v20 hV21 hI w22 S23 hw24
   obtain ⟨v25, a26, k27, cs28⟩ := y
   obtain ⟨o29, r30⟩ := hI
   try dsimp only at o29 r30
   obtain ⟨x31, h32, h33⟩ := hV21
   refine .dup (G := G7) mcs ?_
   obtain ⟨_, _, rfl, h34, h35⟩ := h33
   obtain ⟨v36, rfl, h37⟩ := h34
   obtain ⟨rfl, _⟩ := List.cons.inj h37
   obtain ⟨v38, rfl, h39⟩ := h35
   obtain ⟨rfl, _⟩ := List.cons.inj h39
   rw [drop_cons h32] at r30
   have r40 : code_first_B2 code_first_J1 x1 (code_first_L2 code_first_J1 x1 (List.drop (i19 + 1) u3)) x31 v25 = some r := r30; clear r30; unfold code_first_B2 at r40; try dsimp only at r40
   refine .prune [(10, .int .i64 x31.1), (11, .int .i64 x31.2), (3, _), (5, _)] ⟨rfl, rfl, rfl, rfl, trivial⟩ (.same (bl' := [(b2, .cells #[.slice a26 v25.length k27] 81 (0, 0)), (b1, .cells #[.int .i64 x1] 3 (0, 0)), _]) (sl' := [.s (.slice a26 v25.length k27) 168 2 v25.length cs28]) (Fs' := G7 :: (G7 :: Fs)) rfl rfl rfl (.seq (.region rfl (.av rfl rfl (.re (.region rfl (.av rfl rfl (.re (.beginRound 2 rfl rfl [_, _, _] rfl (.block (.seq (.seq (.region rfl (.q .ro (.load_own 0 rfl rfl ty81 rfl) rfl (.q .ro (.len_sl rfl rfl sl81) rfl (.q .ro (.load_own 1 rfl rfl ty3 rfl) rfl (.q .ro (.eql rfl rfl) rfl (.re ?_))))))))))))))))))
   refine .cond_dec rfl (fun c41 => ?_) (fun c41 => ?_)
   ·have r42 := ifT r40 c41; clear r40
    exact absurd r42 (by simp)
   ·have r43 := ifF r40 c41; clear r40
    refine .skip (.region rfl (.q .ro (.load_own 0 rfl rfl ty81 rfl) rfl (.mv rfl rfl (.mv rfl rfl (.q .ro (.build [_, _] [(0, _), (1, _)] ty168 pl168 rfl rfl) rfl ?_)))))
    refine .lit [_, _] [(0, _)] .ro sl81 ty168 rfl rfl rfl rfl rfl rfl (fun b44 hb44 => ?_)
    have o45 : OL (Rep.pair ri ri) G7 [.int .i64 x31.1, .int .i64 x31.2] ([x31] : List (Int × Int)) := ((OL.cons rfl (Rep.pairI (Rep.intI .i64 x31.1) (Rep.intI .i64 x31.2)) (OL.nil (Rp' := (Rep.pair ri ri)))) :)
    refine .reval 20 (n' := ([x31] : List (Int × Int)).length) rfl rfl ?_
    obtain ⟨u46, hu46, r47⟩ := bind_some r43
    refine .appO (Q := (Rep.pair ri ri)) 0 .ro sl81 ty168 rfl rfl rfl rfl rfl rfl o29 o45 rfl rfl rfl (Bd.fin mcs) hu46 rfl (fun a48 k49 cs50 o51 => ?_)
    refine .store 0 [_] [_, _, _] .ro rfl rfl rfl ty81 rfl rfl rfl rfl (.re (.prune [] trivial (.inBlock ?_)))
    refine .round_endX (u46, a48, k49, cs50) 2 rfl rfl ⟨o51, r47⟩ rfl rfl (fun F hF => List.mem_cons_of_mem _ hF) (by simp)
  ·intro q52 y hI hb53
   obtain ⟨v25, a26, k27, cs28⟩ := y
   obtain ⟨o29, r30⟩ := hI
   try dsimp only at o29 r30
   refine .prune [(5, _)] ⟨rfl, trivial⟩ (.same (bl' := [(b2, .cells #[.slice a26 v25.length k27] 81 (0, 0)), (b1, .cells #[.int .i64 x1] 3 (0, 0)), _]) (sl' := [.s (.slice a26 v25.length k27) 168 2 v25.length cs28, _]) (Fs' := G7 :: Fs) rfl rfl rfl (.pullS 1 rfl [_, _] rfl ?_))
   refine .mkmerge 2 rfl [_, _] rfl (fun mk54 => ?_)
   rw [List.drop_length] at r30; rw [code_first_L2] at r30; try dsimp only at r30
   refine .inBlock ?_
   exact .arr (hb15 (mk54, v25, a26, k27, cs28) ⟨o29, r30⟩) ⟨rfl, trivial⟩
theorem code_Fill_c {Fs : List Hp} {G : Hp} {x0_0 : Int} {a1 : Option Addr} {k1 : Nat} {x1 : List (Int × Bool)} {x2 : Int} {r : ((List Int) × Int)} (hG : G ∈ Fs) (s1 : SlR (Rep.pair ri Rep.bool) G a1 k1 x1) (h : code_Fill x0_0 x1 x2 = some r) : RetS Tryz.prog 170 #[.agg #[.int .i64 x0_0], .slice a1 x1.length k1, .int .i64 x2] Fs [] [] (fun v bo so => ∃ (oa0 : Option Addr) (ok0 : Nat) (oc0 : List Value), v = .tuple #[.slice oa0 r.1.length ok0, .int .i64 r.2] ∧ bo = [] ∧ so = [.s (.slice oa0 r.1.length ok0) 3 1 r.1.length oc0] ∧ OL ri G oc0 r.1) := by
 unfold code_Fill at h
 try dsimp only at h
 refine RetS.of (vs := [_, _, _]) Tryz.func170 rfl Tryz.ntmps170 [(0, _), (1, _), (2, _)] ⟨rfl, rfl, rfl, trivial⟩ rfl hG fun w0 S0 hS0 B0 => ?_
 refine .seq (.region rfl ?_)
 refine .box [_] .ro rfl rfl rfl (fun b1 hb1 => ?_)
 refine .av rfl rfl (.av rfl rfl (.re (.seq (.region rfl (.q .ro (.load_own_a 0 [_] rfl rfl ty45 rfl) rfl (.mv rfl rfl ?_))))))
 obtain ⟨u2, hu2, r3⟩ := bind_some h
 refine .callS (b1 := []) (b2 := [_]) (s1 := []) [_, _] [] .ro rfl rfl Tryz.call187 rfl rfl (code_cells_c (G := G) mcs s1 hu2) rfl (fun v5 bo so h4 => ?_)
 obtain ⟨rfl, rfl, rfl⟩ := h4
 refine .same (bl' := [_]) (sl' := []) rfl rfl rfl (.mv rfl rfl (.q .ro (.extract rfl rfl) rfl (.q .ro (.extract rfl rfl) rfl (.q .ro (.extract rfl rfl) rfl (.av rfl rfl (.av rfl rfl (.av rfl rfl (.re (.seq (.block (.seq (.region rfl (.mv rfl rfl (.q .ro (.neq rfl rfl) rfl (.av rfl rfl (.re (.prune [(1, _), (2, _), (3, _), (9, _), (10, _), (18, _)] ⟨rfl, rfl, rfl, rfl, rfl, rfl, trivial⟩ ?_)))))))))))))))))
 refine .cond_dec rfl (fun c6 => ?_) (fun c6 => ?_)
 ·have r7 := ifT r3 c6; clear r3
  exact absurd r7 (by simp)
 ·have r8 := ifF r3 c6; clear r3
  refine .seq (.region rfl (.mv rfl rfl (.q .ro (.lss rfl rfl) rfl (.mv rfl rfl ?_))))
  refine .cutR 5 (β := Unit) (fun y => [(30, .bool (decide ((x2 < 1) ∨ ((x1.length : Int) < x2))))]) [(1, _), (2, _), (3, _), (9, _)] (fun y => G :: Fs) (fun y => []) [_] (fun y => []) [] (fun y => True) ⟨rfl, rfl, rfl, rfl, trivial⟩ [0] rfl [] rfl ?_ ?_
  ·rintro _ _
   refine .prune [(30, .bool (decide ((x2 < 1) ∨ ((x1.length : Int) < x2)))), (1, _), (2, _), (3, _), (9, _)] ⟨rfl, rfl, rfl, rfl, rfl, trivial⟩ (.same (bl' := [_]) (sl' := []) (Fs' := G :: Fs) rfl rfl rfl (.av rfl rfl (.re ?_)))
   refine .cond_dec rfl (fun c13 => ?_) (fun c13 => ?_)
   ·have r14 := ifT r8 c13; clear r8
    exact absurd r14 (by simp)
   ·have r15 := ifF r8 c13; clear r8
    refine .seq (.region rfl (.mv rfl rfl (.mv rfl rfl (.q .ro (.lss rfl rfl) rfl (.av rfl rfl (.re ?_))))))
    refine .cond_dec rfl (fun c16 => ?_) (fun c16 => ?_)
    ·have r17 := ifT r15 c16; clear r15
     exact absurd r17 (by simp)
    ·have r18 := ifF r15 c16; clear r15
     refine .skip (.inBlock (.seq (.drawL (.q 0 (.q 1 (.q 2 (.e 3 1 (.e 4 1 (.q 5 (.q 6 (.q 7 (.q 8 .nil))))))))) [_] (by kernel_rfl) (by kernel_rfl) (pick_mem [0] rfl) (.dq (.load_own_a 0 [_] rfl rfl ty45 rfl) rfl (.dq (.move rfl) rfl (.dq (.move rfl) rfl ?_))))))
     obtain ⟨u19, hu19, r20⟩ := bind_some r18
     refine .callS (b1 := []) (b2 := [_]) (s1 := []) [_, _] [] .d1 rfl rfl Tryz.call189 rfl rfl (code_first_c (G := G) mcs s1 hu19) rfl (fun v22 bo so h21 => ?_)
     obtain ⟨a24, k25, cs26, rfl, rfl, rfl, o27⟩ := h21
     refine .same (bl' := [_]) (sl' := [_]) rfl rfl rfl (.clsL (HpLe.refl _) (pick_mem [0] rfl) ?_)
     refine .freezeR 0 rfl rfl o27 [] rfl B0 (fun G28 e29 B30 s31 => ?_)
     obtain ⟨u33, hu33, r34⟩ := bind_some r20
     refine .callS (b1 := []) (b2 := [_]) (s1 := []) [_, _] [] .d1 rfl rfl Tryz.call188 rfl rfl (poly_Interpolate_c (G := G28) mcs s31 hu33) rfl (fun v36 bo so h35 => ?_)
     obtain ⟨a38, k39, cs40, rfl, rfl, rfl, o41⟩ := h35
     refine .same (bl' := [_]) (sl' := [_]) rfl rfl rfl (.clsL e29 (pick_mem [0] rfl) (.dq (.extract rfl rfl) rfl (.dq (.extract rfl rfl) rfl (.dq (.assign rfl) rfl (.dq (.assign rfl) rfl (.draw_end (.prune [(6, _), (7, _)] ⟨rfl, rfl, trivial⟩ ?_)))))))
     cases r34
     refine .drop 1 0 [] _ rfl rfl ?_
     refine .retS (.inr ⟨_, rfl⟩) [.tmp 6, .tmp 7] [_, _] rfl Tryz.func170 Tryz.results170 ⟨RV.tmp rfl, RV.tmp rfl, trivial⟩ mcm ⟨a38, k39, cs40, rfl, rfl, rfl, (OL.flat (Rep.flat_int _) o41)⟩
  ·intro hb10
   refine .split 25 rfl (fun c9 => ?_) (fun c9 => ?_)
   ·refine .g_off rfl rfl rfl ?_
    refine .g_off rfl rfl rfl (.g_off rfl rfl rfl (.g_off rfl rfl rfl (.q .ro (.pick_t rfl rfl) rfl ?_)))
    exact .arr (hb10 () trivial) ⟨dor_t c9, rfl, rfl, rfl, rfl, trivial⟩
   ·refine .g_on rfl ?_
    refine .mv rfl rfl (.g_on rfl (.mv rfl rfl (.g_on rfl (.q .ro (.len_sl rfl rfl sl218) rfl (.g_on rfl (.q .ro (.gtr rfl rfl) rfl (.q .ro (.pick_f rfl rfl) rfl ?_)))))))
    exact .arr (hb10 () trivial) ⟨dor_f c9, rfl, rfl, rfl, rfl, trivial⟩
theorem unique_Radius_c {Fs : List Hp} {G : Hp} {x0 : Int} {x1 : Int} {r : (Int × Int)} (hG : G ∈ Fs)  (h : unique_Radius x0 x1 = some r) : RetS Tryz.prog 172 #[.int .i64 x0, .int .i64 x1] Fs [] [] (fun v bo so => v = .tuple #[.int .i64 r.1, .int .i64 r.2] ∧ bo = [] ∧ so = []) := by
 unfold unique_Radius at h
 try dsimp only at h
 refine RetS.of (vs := [_, _]) Tryz.func172 rfl Tryz.ntmps172 [(0, _), (1, _)] ⟨rfl, rfl, trivial⟩ rfl hG fun w0 S0 hS0 B0 => ?_
 refine .seq (.region rfl (.av rfl rfl (.av rfl rfl (.re (.seq (.seq (.region rfl (.mv rfl rfl (.q .ro (.lss rfl rfl) rfl (.mv rfl rfl ?_))))))))))
 refine .cutR 3 (β := Unit) (fun y => [(11, .bool (decide ((x1 < 1) ∨ (x0 < 0))))]) [(0, _), (1, _)] (fun y => G :: Fs) (fun y => []) [] (fun y => []) [] (fun y => True) ⟨rfl, rfl, trivial⟩ [] rfl [] rfl ?_ ?_
 ·rintro _ _
  refine .prune [(11, .bool (decide ((x1 < 1) ∨ (x0 < 0)))), (0, _), (1, _)] ⟨rfl, rfl, rfl, trivial⟩ (.same (bl' := []) (sl' := []) (Fs' := G :: Fs) rfl rfl rfl (.mv rfl rfl ?_))
  refine .cutR 3 (β := Unit) (fun y => [(15, .bool (decide (((x1 < 1) ∨ (x0 < 0)) ∨ (32 < x0))))]) [(0, _), (1, _)] (fun y => G :: Fs) (fun y => []) [] (fun y => []) [] (fun y => True) ⟨rfl, rfl, trivial⟩ [] rfl [] rfl ?_ ?_
  ·rintro _ _
   refine .prune [(15, .bool (decide (((x1 < 1) ∨ (x0 < 0)) ∨ (32 < x0)))), (0, _), (1, _)] ⟨rfl, rfl, rfl, trivial⟩ (.same (bl' := []) (sl' := []) (Fs' := G :: Fs) rfl rfl rfl (.re ?_))
   refine .cond_dec rfl (fun c9 => ?_) (fun c9 => ?_)
   ·have r10 := ifT h c9; clear h
    exact absurd r10 (by simp)
   ·have r11 := ifF h c9; clear h
    refine .skip (.seq (.seq (.region rfl (.mv rfl rfl (.mv rfl rfl (.q .ro (.lss rfl rfl) rfl (.re ?_)))))))
    refine .cond_dec rfl (fun c12 => ?_) (fun c12 => ?_)
    ·have r13 := ifT r11 c12; clear r11
     exact absurd r13 (by simp)
    ·have r14 := ifF r11 c12; clear r11
     refine .skip (.seq (.region rfl (.mv rfl rfl (.mv rfl rfl (.q .ro (.subw rfl rfl) rfl (.q .ro (.quow rfl rfl (by decide)) rfl (.av rfl rfl (.av rfl rfl (.re ?_)))))))))
     cases r14
     refine .retS (.inr ⟨_, rfl⟩) [.tmp 4, .tmp 5] [_, _] rfl Tryz.func172 Tryz.results172 ⟨RV.tmp rfl, RV.tmp rfl, trivial⟩ mcm ⟨rfl, rfl, rfl⟩
  ·intro hb6
   refine .split 12 rfl (fun c5 => ?_) (fun c5 => ?_)
   ·refine .g_off rfl rfl rfl ?_
    refine .g_off rfl rfl rfl (.q .ro (.pick_t rfl rfl) rfl ?_)
    exact .arr (hb6 () trivial) ⟨dor_t c5, rfl, rfl, trivial⟩
   ·refine .g_on rfl ?_
    refine .mv rfl rfl (.g_on rfl (.q .ro (.gtr rfl rfl) rfl (.q .ro (.pick_f rfl rfl) rfl ?_)))
    exact .arr (hb6 () trivial) ⟨dor_f c5, rfl, rfl, trivial⟩
 ·intro hb2
  refine .split 8 rfl (fun c1 => ?_) (fun c1 => ?_)
  ·refine .g_off rfl rfl rfl ?_
   refine .g_off rfl rfl rfl (.q .ro (.pick_t rfl rfl) rfl ?_)
   exact .arr (hb2 () trivial) ⟨dor_t c1, rfl, rfl, trivial⟩
  ·refine .g_on rfl ?_
   refine .mv rfl rfl (.g_on rfl (.q .ro (.lss rfl rfl) rfl (.q .ro (.pick_f rfl rfl) rfl ?_)))
   exact .arr (hb2 () trivial) ⟨dor_f c1, rfl, rfl, trivial⟩
theorem unique_count_c {Fs : List Hp} {G : Hp} {a0 : Option Addr} {k0 : Nat} {x0 : List (Int × Bool)} {r : Int} (hG : G ∈ Fs) (s0 : SlR (Rep.pair ri Rep.bool) G a0 k0 x0) (h : unique_count x0 = some r) : RetS Tryz.prog 173 #[.slice a0 x0.length k0] Fs [] [] (fun v bo so => v = .int .i64 r ∧ bo = [] ∧ so = []) := by
 unfold unique_count at h
 try dsimp only at h
 refine RetS.of (vs := [_]) Tryz.func173 rfl Tryz.ntmps173 [(0, _)] ⟨rfl, trivial⟩ rfl hG fun w0 S0 hS0 B0 => ?_
 refine .seq (.region rfl (.av rfl rfl (.re (.seq (.region rfl (.av rfl rfl (.re (.seq (.seq (.region rfl (.mv rfl rfl (.q .ro (.len_sl rfl rfl sl218) rfl (.mv rfl rfl (.re (.block ?_)))))))))))))))
 refine .loop2 (α := Nat × (List (Int × Bool)) × Int) (fun y => [(3, .int .i64 y.2.2), (8, .int .i64 (y.1 : Int))]) [(6, _), (7, _)] (fun y => []) (fun y => []) [] (fun y => []) [] (fun y => List.drop y.1 x0 = y.2.1 ∧ unique_count_L1 y.2.1 y.2.2 = some r) (fun y => y.2.1.length) (0, x0, 0) ⟨rfl, h⟩ ⟨rfl, rfl, rfl, rfl, trivial⟩ rfl rfl rfl (fun y hI hb22 => ?_)
 obtain ⟨i17, w18, v20⟩ := y
 obtain ⟨g19, r21⟩ := hI
 try dsimp only at g19 r21
 refine .prune [(3, .int .i64 v20), (8, .int .i64 (i17 : Int)), (6, _), (7, _)] ⟨rfl, rfl, rfl, rfl, trivial⟩ (.same (bl' := []) (sl' := []) (Fs' := G :: Fs) rfl rfl rfl ?_)
 cases w18 with
 | nil =>
  rw [unique_count_L1] at r21; try dsimp only at r21
  refine .seq (.region rfl (.q .ro (.lss rfl rfl) rfl (.re (.seq ?_))))
  refine .cond_dec rfl (fun c => absurd c (drop_nil g19)) (fun _ => ?_)
  refine .exit rfl (.seq (.region rfl (.mv rfl rfl (.av rfl rfl (.re ?_)))))
  cases r21
  refine .retS (.inr ⟨_, rfl⟩) [.tmp 2] [_] rfl Tryz.func173 Tryz.results173 ⟨RV.tmp rfl, trivial⟩ mcm ⟨rfl, rfl, rfl⟩
 | cons x26 xs27 =>
  have r25 : unique_count_B1 (unique_count_L1 xs27) x26 v20 = some r := r21; clear r21; unfold unique_count_B1 at r25; try dsimp only at r25
  refine .seq (.region rfl (.q .ro (.lss rfl rfl) rfl (.re (.seq ?_))))
  refine .cond_dec rfl (fun _ => ?_) (fun c => absurd (drop_lt g19) c)
  refine .skip (.seq (.block (.seq (.region rfl ?_))))
  obtain ⟨c28, p29, h30⟩ := SlR.get s0 (drop_idx g19)
  obtain ⟨_, _, rfl, rfl, rfl⟩ := h30
  refine .q .ro (.idxR s0 rfl rfl (drop_idx g19) sl218 ty220.sz) rfl (.q .ro (.load_rp_a [_, _] p29 mcs rfl ty220 rfl) rfl ?_)
  refine .alloc .ro ty220 rfl (fun b31 hb31 => ?_)
  refine .store 0 [_, _] [_] .ro rfl rfl rfl ty220 rfl rfl rfl rfl (.re (.seq (.region rfl (.q .ro (.fieldAddr 1 rfl fl220_1 ty4.sz rfl) rfl (.q .ro (.load_own 0 rfl rfl ty4 rfl) rfl (.re ?_))))))
  refine .cond rfl (fun c32 => ?_) (fun c32 => ?_)
  ·have r33 := ifT r25 c32; clear r25
   refine .region rfl (.mv rfl rfl (.q .ro (.addw rfl rfl) rfl (.av rfl rfl (.re (.inBlock (.region rfl (.q .ro (.addw rfl rfl) rfl (.mv rfl rfl (.re (.drop 1 0 [] _ rfl rfl ?_))))))))))
   exact .arr (hb22 ((i17 + 1), xs27, (w64 (v20 + 1))) ⟨(drop_succ g19), r33⟩ (Nat.lt_succ_self _)) ⟨rfl, (congrArg (fun z => some (Value.int .i64 z)) (idx_wrap (SlR.len s0) g19)), rfl, rfl, trivial⟩
  ·have r34 := ifBF r25 c32; clear r25
   refine .skip (.inBlock (.region rfl (.q .ro (.addw rfl rfl) rfl (.mv rfl rfl (.re (.drop 1 0 [] _ rfl rfl ?_))))))
   exact .arr (hb22 ((i17 + 1), xs27, v20) ⟨(drop_succ g19), r34⟩ (Nat.lt_succ_self _)) ⟨rfl, (congrArg (fun z => some (Value.int .i64 z)) (idx_wrap (SlR.len s0) g19)), rfl, rfl, trivial⟩
theorem unique_Key_c {Fs : List Hp} {G : Hp} {x0_0 : Int} {a1 : Option Addr} {k1 : Nat} {x1 : List (Int × Bool)} {x2 : Int} {x3 : Int} {r : ((Int × Int × Int × (List Int) × (List Int)) × Int)} (hG : G ∈ Fs) (s1 : SlR (Rep.pair ri Rep.bool) G a1 k1 x1) (h : unique_Key x0_0 x1 x2 x3 = some r) : RetW Tryz.prog 174 #[.agg #[.int .i64 x0_0], .slice a1 x1.length k1, .int .i64 x2, .int .i64 x3] Fs [] [] (fun v bo so G => ∃ a0 : Option Addr, ∃ k0 : Nat, ∃ a1 : Option Addr, ∃ k1 : Nat, v = .tuple #[.agg #[.int .i64 r.1.1, .int .i64 r.1.2.1, .int .i64 r.1.2.2.1, .slice a0 r.1.2.2.2.1.length k0, .slice a1 r.1.2.2.2.2.length k1], .int .i64 r.2] ∧ bo = [] ∧ so = [] ∧ SlR ri G a0 k0 r.1.2.2.2.1 ∧ SlR ri G a1 k1 r.1.2.2.2.2) := by
 unfold unique_Key at h
 try dsimp only at h
 refine RetW.of (vs := [_, _, _, _]) Tryz.func174 rfl Tryz.ntmps174 [(0, _), (1, _), (2, _), (3, _)] ⟨rfl, rfl, rfl, rfl, trivial⟩ rfl hG fun w0 S0 hS0 B0 => ?_
 refine .seq (.region rfl ?_)
 refine .box [_] .ro rfl rfl rfl (fun b1 hb1 => ?_)
 refine .alloc .ro ty256 rfl (fun b2 hb2 => ?_)
 refine .av rfl rfl (.re (.seq (.seq (.region rfl (.q .ro (.load_own_a 1 [_] rfl rfl ty45 rfl) rfl (.mv rfl rfl (.mv rfl rfl ?_)))))))
 obtain ⟨u3, hu3, r4⟩ := bind_some h
 refine .callS (b1 := []) (b2 := [_, _]) (s1 := []) [_, _, _] [] .ro rfl rfl Tryz.call170 rfl rfl (code_Fill_c (G := G) mcs s1 hu3) rfl (fun v6 bo so h5 => ?_)
 obtain ⟨a8, k9, cs10, rfl, rfl, rfl, o11⟩ := h5
 refine .same (bl' := [_, _]) (sl' := [_]) rfl rfl rfl (.mv rfl rfl (.q .ro (.extract rfl rfl) rfl (.q .ro (.extract rfl rfl) rfl (.av rfl rfl (.av rfl rfl (.re (.seq (.region rfl (.mv rfl rfl (.q .ro (.neq rfl rfl) rfl (.mv rfl rfl ?_)))))))))))
 refine .cutR 3 (β := Unit) (fun y => [(32, .bool (decide ((u3.2 ≠ 0) ∧ (u3.2 ≠ 11))))]) [(1, _), (2, _), (3, _), (4, _), (8, _), (11, _)] (fun y => G :: Fs) (fun y => []) [_, _] (fun y => []) [_] (fun y => True) ⟨rfl, rfl, rfl, rfl, rfl, rfl, trivial⟩ [0, 1] rfl [0] rfl ?_ ?_
 ·rintro _ _
  refine .prune [(32, .bool (decide ((u3.2 ≠ 0) ∧ (u3.2 ≠ 11)))), (1, _), (2, _), (3, _), (4, _), (8, _), (11, _)] ⟨rfl, rfl, rfl, rfl, rfl, rfl, rfl, trivial⟩ (.same (bl' := [_, _]) (sl' := [_]) (Fs' := G :: Fs) rfl rfl rfl (.re ?_))
  refine .cond_dec rfl (fun c16 => ?_) (fun c16 => ?_)
  ·have r17 := ifT r4 c16; clear r4
   exact absurd r17 (by simp)
  ·have r18 := ifF r4 c16; clear r4
   refine .skip (.seq (.seq (.region rfl (.mv rfl rfl (.q .ro (.lss rfl rfl) rfl (.mv rfl rfl ?_))))))
   refine .cutR 3 (β := Unit) (fun y => [(40, .bool (decide ((x3 < 0) ∨ (32 < x3))))]) [(1, _), (2, _), (3, _), (4, _), (8, _)] (fun y => G :: Fs) (fun y => []) [_, _] (fun y => []) [_] (fun y => True) ⟨rfl, rfl, rfl, rfl, rfl, trivial⟩ [0, 1] rfl [0] rfl ?_ ?_
   ·rintro _ _
    refine .prune [(40, .bool (decide ((x3 < 0) ∨ (32 < x3)))), (1, _), (2, _), (3, _), (4, _), (8, _)] ⟨rfl, rfl, rfl, rfl, rfl, rfl, trivial⟩ (.same (bl' := [_, _]) (sl' := [_]) (Fs' := G :: Fs) rfl rfl rfl (.mv rfl rfl ?_))
    refine .cutR 6 (β := Unit) (fun y => [(47, .bool (decide (((x3 < 0) ∨ (32 < x3)) ∨ (32 < (w64 (x2 + (w64 (2 * x3))))))))]) [(1, _), (2, _), (3, _), (4, _), (8, _)] (fun y => G :: Fs) (fun y => []) [_, _] (fun y => []) [_] (fun y => True) ⟨rfl, rfl, rfl, rfl, rfl, trivial⟩ [0, 1] rfl [0] rfl ?_ ?_
    ·rintro _ _
     refine .prune [(47, .bool (decide (((x3 < 0) ∨ (32 < x3)) ∨ (32 < (w64 (x2 + (w64 (2 * x3)))))))), (1, _), (2, _), (3, _), (4, _), (8, _)] ⟨rfl, rfl, rfl, rfl, rfl, rfl, trivial⟩ (.same (bl' := [_, _]) (sl' := [_]) (Fs' := G :: Fs) rfl rfl rfl (.re ?_))
     refine .cond_dec rfl (fun c27 => ?_) (fun c27 => ?_)
     ·have r28 := ifT r18 c27; clear r18
      exact absurd r28 (by simp)
     ·have r29 := ifF r18 c27; clear r18
      refine .skip (.seq (.region rfl (.q .ro (.fieldAddr 0 rfl fl45_0 ty3.sz rfl) rfl (.q .ro (.load_own 1 rfl rfl ty3 rfl) rfl (.av rfl rfl (.re (.seq (.region rfl (.q .ro (.load_own_a 1 [_] rfl rfl ty45 rfl) rfl (.mv rfl rfl (.mv rfl rfl (.q .ro (.mulw rfl rfl) rfl (.q .ro (.addw rfl rfl) rfl (.q .ro (.build [_, _, _, _, _] [(0, _), (2, _)] ty256 pl256 rfl rfl) rfl ?_))))))))))))))
      refine .alloc .ro ty256 rfl (fun b30 hb30 => ?_)
      refine .store 0 [_, _, _, _, _] [_, _, _] .ro rfl rfl rfl ty256 rfl rfl rfl rfl (.re (.seq (.seq (.region rfl (.mv rfl rfl (.q .ro (.len_sl rfl rfl sl218) rfl (.mv rfl rfl (.re ?_))))))))
      refine .cutB (β := Hp × Int × Int × Int × List Int × Option Addr × Nat × List Value × List Int × Option Addr × Nat × List Value × Int × Int × Int × Int) (fun y => []) [(8, _), (13, _)] (fun y => y.1 :: Fs) (fun y => [(b30, .cells #[.int .i64 y.2.1, .int .i64 y.2.2.1, .int .i64 y.2.2.2.1, .slice y.2.2.2.2.2.1 y.2.2.2.2.1.length y.2.2.2.2.2.2.1, .slice y.2.2.2.2.2.2.2.2.2.1 y.2.2.2.2.2.2.2.2.1.length y.2.2.2.2.2.2.2.2.2.2.1] 256 (0, 0)), (b2, .cells #[.int .i64 y.2.2.2.2.2.2.2.2.2.2.2.2.1, .int .i64 y.2.2.2.2.2.2.2.2.2.2.2.2.2.1, .int .i64 y.2.2.2.2.2.2.2.2.2.2.2.2.2.2.1, .slice none 0 0, .slice none 0 0] 256 (0, 0)), (b1, .cells #[.int .i64 y.2.2.2.2.2.2.2.2.2.2.2.2.2.2.2] 45 (0, 0))]) [] (fun y => [.s (.slice y.2.2.2.2.2.1 y.2.2.2.2.1.length y.2.2.2.2.2.2.1) 3 1 y.2.2.2.2.1.length y.2.2.2.2.2.2.2.1, .s (.slice y.2.2.2.2.2.2.2.2.2.1 y.2.2.2.2.2.2.2.2.1.length y.2.2.2.2.2.2.2.2.2.2.1) 3 1 y.2.2.2.2.2.2.2.2.1.length y.2.2.2.2.2.2.2.2.2.2.2.1]) [_] (fun y => HpLe G y.1 ∧ Bd w0 S0 Fs y.1 ∧ OL ri y.1 y.2.2.2.2.2.2.2.1 y.2.2.2.2.1 ∧ OL ri y.1 y.2.2.2.2.2.2.2.2.2.2.2.1 y.2.2.2.2.2.2.2.2.1 ∧ unique_Key_J1 y.2.1 y.2.2.1 y.2.2.2.1 y.2.2.2.2.1 y.2.2.2.2.2.2.2.2.1 y.2.2.2.2.2.2.2.2.2.2.2.2.1 y.2.2.2.2.2.2.2.2.2.2.2.2.2.1 y.2.2.2.2.2.2.2.2.2.2.2.2.2.2.1 y.2.2.2.2.2.2.2.2.2.2.2.2.2.2.2 = some r) ⟨rfl, rfl, trivial⟩ [] rfl [0] rfl ?_ ?_
      ·intro y hI
       obtain ⟨G14, v15, v21, v25, v26, a31, k32, cs33, v34, a35, k36, cs37, v38, v39, v40, v41⟩ := y
       obtain ⟨e42, B43, o44, o46, r47⟩ := hI
       try dsimp only at e42 B43 o44 o46 r47
       refine .prune [(8, _), (13, _)] ⟨rfl, rfl, trivial⟩ (.same (bl' := [(b30, .cells #[.int .i64 v15, .int .i64 v21, .int .i64 v25, .slice a31 v26.length k32, .slice a35 v34.length k36] 256 (0, 0)), (b2, .cells #[.int .i64 v38, .int .i64 v39, .int .i64 v40, .slice none 0 0, .slice none 0 0] 256 (0, 0)), (b1, .cells #[.int .i64 v41] 45 (0, 0))]) (sl' := [.s (.slice a31 v26.length k32) 3 1 v26.length cs33, .s (.slice a35 v34.length k36) 3 1 v34.length cs37, _]) (Fs' := G14 :: Fs) rfl rfl rfl ?_)
       unfold unique_Key_J1 at r47
       try dsimp only at r47
       refine .seq (.region rfl (.q .ro (.load_own_a 0 [_, _, _, _, _] rfl rfl ty256 rfl) rfl (.store 1 [_, _, _, _, _] [_, _, _] .ro rfl rfl rfl ty256 rfl rfl rfl rfl (.av rfl rfl (.re ?_)))))
       refine .freezeR 0 rfl rfl o44 [_, _] rfl B43 (fun G48 e49 B50 s51 => ?_)
       refine .freezeR 0 rfl rfl (OL.mono e49 o46) [_] rfl B50 (fun G52 e53 B54 s55 => ?_)
       cases r47
       refine .drop 0 1 _ [] rfl rfl ?_
       refine .retWD 3 (.inr ⟨_, rfl⟩) [.cell 8 256, .tmp 9] [_, _] rfl Tryz.func174 Tryz.results174 ⟨RV.cell_a 1 [_, _, _, _, _] rfl rfl ty256 rfl, RV.tmp rfl, trivial⟩ mcm mcs B54 (by subst hS0; simp [blks]) (fun G' hg => ⟨a31, k32, a35, k36, rfl, rfl, rfl, (SlR.mono hg (SlR.mono e53 s51)), (SlR.mono hg s55)⟩)
      ·intro hb56
       refine .block (.own_nil 3 1 (.own_nil 3 1 (.pull 2 rfl [_, _, _] rfl (.pull 2 rfl [_, _, _] rfl (.pull 2 rfl [_, _, _] rfl (.pullS 1 rfl [_, _, _] rfl ?_))))))
       refine .loop2 (α := Nat × (List (Int × Bool)) × Hp × Int × Int × Int × List Int × Option Addr × Nat × List Value × List Int × Option Addr × Nat × List Value × Int × Int × Int × Int) (fun y => [(59, .int .i64 (y.1 : Int))]) [(2, _), (3, _), (8, _), (12, _), (13, _), (57, _), (58, _)] (fun y => [y.2.2.1]) (fun y => [(b30, .cells #[.int .i64 y.2.2.2.1, .int .i64 y.2.2.2.2.1, .int .i64 y.2.2.2.2.2.1, .slice y.2.2.2.2.2.2.2.1 y.2.2.2.2.2.2.1.length y.2.2.2.2.2.2.2.2.1, .slice y.2.2.2.2.2.2.2.2.2.2.2.1 y.2.2.2.2.2.2.2.2.2.2.1.length y.2.2.2.2.2.2.2.2.2.2.2.2.1] 256 (0, 0)), (b2, .cells #[.int .i64 y.2.2.2.2.2.2.2.2.2.2.2.2.2.2.1, .int .i64 y.2.2.2.2.2.2.2.2.2.2.2.2.2.2.2.1, .int .i64 y.2.2.2.2.2.2.2.2.2.2.2.2.2.2.2.2.1, .slice none 0 0, .slice none 0 0] 256 (0, 0)), (b1, .cells #[.int .i64 y.2.2.2.2.2.2.2.2.2.2.2.2.2.2.2.2.2] 45 (0, 0))]) [] (fun y => [.s (.slice y.2.2.2.2.2.2.2.1 y.2.2.2.2.2.2.1.length y.2.2.2.2.2.2.2.2.1) 3 1 y.2.2.2.2.2.2.1.length y.2.2.2.2.2.2.2.2.2.1, .s (.slice y.2.2.2.2.2.2.2.2.2.2.2.1 y.2.2.2.2.2.2.2.2.2.2.1.length y.2.2.2.2.2.2.2.2.2.2.2.2.1) 3 1 y.2.2.2.2.2.2.2.2.2.2.1.length y.2.2.2.2.2.2.2.2.2.2.2.2.2.1]) [_] (fun y => HpLe G y.2.2.1 ∧ Bd w0 S0 Fs y.2.2.1 ∧ OL ri y.2.2.1 y.2.2.2.2.2.2.2.2.2.1 y.2.2.2.2.2.2.1 ∧ OL ri y.2.2.1 y.2.2.2.2.2.2.2.2.2.2.2.2.2.1 y.2.2.2.2.2.2.2.2.2.2.1 ∧ List.drop y.1 x1 = y.2.1 ∧ unique_Key_L6 unique_Key_J1 x2 x3 x0_0 y.2.1 y.1 y.2.2.2.1 y.2.2.2.2.1 y.2.2.2.2.2.1 y.2.2.2.2.2.2.1 y.2.2.2.2.2.2.2.2.2.2.1 y.2.2.2.2.2.2.2.2.2.2.2.2.2.2.1 y.2.2.2.2.2.2.2.2.2.2.2.2.2.2.2.1 y.2.2.2.2.2.2.2.2.2.2.2.2.2.2.2.2.1 y.2.2.2.2.2.2.2.2.2.2.2.2.2.2.2.2.2 = some r) (fun y => y.2.1.length) (0, x1, G, x0_0, 0, (w64 (x2 + (w64 (2 * x3)))), ([] : List Int), none, 0, [], ([] : List Int), none, 0, [], 0, 0, 0, x0_0) ⟨(HpLe.refl _), B0, (OL.nil (Rp' := ri)), (OL.nil (Rp' := ri)), rfl, r29⟩ ⟨rfl, rfl, rfl, rfl, rfl, rfl, rfl, rfl, trivial⟩ rfl rfl rfl (fun y hI hb57 => ?_)
       obtain ⟨i58, w59, G60, v61, v62, v63, v65, a66, k67, cs68, v69, a70, k71, cs72, v73, v74, v75, v76⟩ := y
       obtain ⟨e78, B79, o80, o81, g82, r83⟩ := hI
       try dsimp only at e78 B79 o80 o81 g82 r83
       refine .prune [(59, .int .i64 (i58 : Int)), (2, _), (3, _), (8, _), (12, _), (13, _), (57, _), (58, _)] ⟨rfl, rfl, rfl, rfl, rfl, rfl, rfl, rfl, trivial⟩ (.same (bl' := [(b30, .cells #[.int .i64 v61, .int .i64 v62, .int .i64 v63, .slice a66 v65.length k67, .slice a70 v69.length k71] 256 (0, 0)), (b2, .cells #[.int .i64 v73, .int .i64 v74, .int .i64 v75, .slice none 0 0, .slice none 0 0] 256 (0, 0)), (b1, .cells #[.int .i64 v76] 45 (0, 0))]) (sl' := [.s (.slice a66 v65.length k67) 3 1 v65.length cs68, .s (.slice a70 v69.length k71) 3 1 v69.length cs72, _]) (Fs' := G60 :: Fs) rfl rfl rfl ?_)
       cases w59 with
       | nil =>
        rw [unique_Key_L6] at r83; try dsimp only at r83
        refine .seq (.region rfl (.q .ro (.lss rfl rfl) rfl (.re (.seq ?_))))
        refine .cond_dec rfl (fun c => absurd c (drop_nil g82)) (fun _ => ?_)
        refine .exit rfl ?_
        exact .arr (hb56 (G60, v61, v62, v63, v65, a66, k67, cs68, v69, a70, k71, cs72, v73, v74, v75, v76) ⟨e78, B79, o80, o81, r83⟩) ⟨rfl, rfl, trivial⟩
       | cons x84 xs85 =>
        have r86 : unique_Key_B6 unique_Key_J1 x2 x3 x0_0 (unique_Key_L6 unique_Key_J1 x2 x3 x0_0 xs85 (i58 + 1)) x84 i58 v61 v62 v63 v65 v69 v73 v74 v75 v76 = some r := r83; clear r83; unfold unique_Key_B6 at r86; try dsimp only at r86
        refine .seq (.region rfl (.q .ro (.lss rfl rfl) rfl (.re (.seq ?_))))
        refine .cond_dec rfl (fun _ => ?_) (fun c => absurd (drop_lt g82) c)
        refine .skip (.seq (.block (.seq (.region rfl (.mv rfl rfl ?_)))))
        obtain ⟨c87, p88, h89⟩ := SlR.get (SlR.mono e78 s1) (drop_idx g82)
        obtain ⟨_, _, rfl, rfl, rfl⟩ := h89
        refine .q .ro (.idxR (SlR.mono e78 s1) rfl rfl (drop_idx g82) sl218 ty220.sz) rfl (.q .ro (.load_rp_a [_, _] p88 mcs rfl ty220 rfl) rfl ?_)
        refine .alloc .ro ty220 rfl (fun b90 hb90 => ?_)
        refine .av rfl rfl (.store 0 [_, _] [_, _, _, _] .ro rfl rfl rfl ty220 rfl rfl rfl rfl (.re (.seq (.seq (.region rfl (.q .ro (.fieldAddr 1 rfl fl220_1 ty4.sz rfl) rfl (.q .ro (.load_own 0 rfl rfl ty4 rfl) rfl (.q .ro (.not rfl) rfl (.re ?_)))))))))
        refine .cond rfl (fun c91 => ?_) (fun c91 => ?_)
        ·have r92 := ifT r86 c91; clear r86
         refine .exit rfl (.region rfl (.q .ro (.addw rfl rfl) rfl (.mv rfl rfl (.re (.drop 1 0 [_, _, _] _ rfl rfl ?_)))))
         exact .arr (hb57 ((i58 + 1), xs85, G60, v61, v62, v63, v65, a66, k67, cs68, v69, a70, k71, cs72, v73, v74, v75, v76) ⟨e78, B79, o80, o81, (drop_succ g82), r92⟩ (Nat.lt_succ_self _)) ⟨(congrArg (fun z => some (Value.int .i64 z)) (idx_wrap (SlR.len s1) g82)), rfl, rfl, rfl, rfl, rfl, rfl, rfl, trivial⟩
        ·have r93 := ifBF r86 c91; clear r86
         refine .skip (.seq (.region rfl (.av rfl rfl (.re (.seq (.region rfl (.av rfl rfl (.re (.seq (.seq (.region rfl (.mv rfl rfl (.mv rfl rfl (.q .ro (.addw rfl rfl) rfl (.q .ro (.addw rfl rfl) rfl (.mv rfl rfl (.re ?_)))))))))))))))))
         refine .cutB (β := List Int × Option Addr × Nat × List Value × Int × Bool × Int × Int × Int × Int × Int × Int × Int) (fun y => [(17, .slice y.2.1 y.1.length y.2.2.1)]) [(59, _), (2, _), (3, _), (8, _), (12, _), (13, _), (57, _), (58, _), (15, _)] (fun y => G60 :: Fs) (fun y => [(b90, .cells #[.int .i64 y.2.2.2.2.1, .bool y.2.2.2.2.2.1] 220 (0, 0)), (b30, .cells #[.int .i64 y.2.2.2.2.2.2.1, .int .i64 y.2.2.2.2.2.2.2.1, .int .i64 y.2.2.2.2.2.2.2.2.1, .slice a66 v65.length k67, .slice a70 v69.length k71] 256 (0, 0)), (b2, .cells #[.int .i64 y.2.2.2.2.2.2.2.2.2.1, .int .i64 y.2.2.2.2.2.2.2.2.2.2.1, .int .i64 y.2.2.2.2.2.2.2.2.2.2.2.1, .slice none 0 0, .slice none 0 0] 256 (0, 0)), (b1, .cells #[.int .i64 y.2.2.2.2.2.2.2.2.2.2.2.2] 45 (0, 0))]) [] (fun y => [.s (.slice y.2.1 y.1.length y.2.2.1) 3 1 y.1.length y.2.2.2.1]) [_, _, _] (fun y => OL ri G60 y.2.2.2.1 y.1 ∧ (unique_Key_J4 (unique_Key_L6 unique_Key_J1 x2 x3 x0_0 xs85 (i58 + 1)) x2 x3 x0_0 v65 v69) y.1 y.2.2.2.2.1 y.2.2.2.2.2.1 y.2.2.2.2.2.2.1 y.2.2.2.2.2.2.2.1 y.2.2.2.2.2.2.2.2.1 y.2.2.2.2.2.2.2.2.2.1 y.2.2.2.2.2.2.2.2.2.2.1 y.2.2.2.2.2.2.2.2.2.2.2.1 y.2.2.2.2.2.2.2.2.2.2.2.2 = some r) ⟨rfl, rfl, rfl, rfl, rfl, rfl, rfl, rfl, rfl, trivial⟩ [] rfl [0, 1, 2] rfl ?_ ?_
         ·intro y hI
          obtain ⟨v94, a95, k96, cs97, v98, v99, v100, v101, v102, v103, v104, v105, v106⟩ := y
          obtain ⟨o107, r108⟩ := hI
          try dsimp only at o107 r108
          refine .prune [(17, .slice a95 v94.length k96), (59, _), (2, _), (3, _), (8, _), (12, _), (13, _), (57, _), (58, _), (15, _)] ⟨rfl, rfl, rfl, rfl, rfl, rfl, rfl, rfl, rfl, rfl, trivial⟩ (.same (bl' := [(b90, .cells #[.int .i64 v98, .bool v99] 220 (0, 0)), (b30, .cells #[.int .i64 v100, .int .i64 v101, .int .i64 v102, .slice a66 v65.length k67, .slice a70 v69.length k71] 256 (0, 0)), (b2, .cells #[.int .i64 v103, .int .i64 v104, .int .i64 v105, .slice none 0 0, .slice none 0 0] 256 (0, 0)), (b1, .cells #[.int .i64 v106] 45 (0, 0))]) (sl' := [.s (.slice a95 v94.length k96) 3 1 v94.length cs97, _, _, _]) (Fs' := G60 :: Fs) rfl rfl rfl ?_)
          unfold unique_Key_J4 at r108
          try dsimp only at r108
          refine .seq ?_
          refine .freezeR 0 rfl rfl o107 [_, _, _] rfl B79 (fun G109 e110 B111 s112 => ?_)
          refine .drawL (.q 0 (.q 1 (.q 2 (.q 3 (.q 4 (.q 5 (.q 6 (.e 7 1 (.q 8 (.e 9 2 .nil)))))))))) [_, _, _, _] (by kernel_rfl) (by kernel_rfl) (pick_mem [0, 1, 2, 3] rfl) (.dq (.fieldAddr 3 rfl fl256_3 ty22.sz rfl) rfl (.dq (.load_own 1 rfl rfl ty22 rfl) rfl (.dq (.move rfl) rfl (.dq (.move rfl) rfl (.dq (.move rfl) rfl (.dq (.addw rfl rfl) rfl ?_))))))
          obtain ⟨u113, hu113, r114⟩ := bind_some r108
          obtain ⟨a115, k116, h117, s118⟩ := SlR.sub s112 hu113
          refine .dq (.sliceR s112 rfl hu113 sl22 ty3.sz (fun _ => .no) (fun h => .yes' rfl h) h117) rfl ?_
          obtain ⟨u119, hu119, r120⟩ := bind_some r114
          refine .appR (Q := ri) 0 .d1 sl22 ty3 rfl rfl rfl rfl rfl (OL.mono e110 o80) rfl rfl s118 rfl mcs hu119 rfl (fun a121 k122 cs123 o124 => ?_)
          refine .clsL (HpLe.refl _) (pick_mem [0, 1, 2, 3] rfl) (.dq (.fieldAddr 3 rfl fl256_3 ty22.sz rfl) rfl (.store 1 [_, _, _, _, _] [_, _, _, _] .d2 rfl rfl rfl ty22 rfl rfl rfl rfl (.draw_end (.seq (.seq (.region rfl (.mv rfl rfl (.mv rfl rfl ?_))))))))
          obtain ⟨u125, hu125, r126⟩ := bind_some r120
          obtain ⟨a127, k128, h129, s130⟩ := SlR.sub s112 hu125
          refine .q .ro (.sliceR s112 rfl hu125 sl22 ty3.sz (fun _ => .no) (fun h => .yes' rfl h) h129) rfl (.q .ro (.len_sl rfl rfl sl22) rfl (.mv rfl rfl (.re ?_)))
          refine .cutB (β := Int × Bool × Int × Int × Int × List Int × Option Addr × Nat × List Value × Int × Int × Int × Int) (fun y => []) [(17, _), (59, _), (2, _), (3, _), (8, _), (12, _), (13, _), (57, _), (58, _), (15, _)] (fun y => G109 :: Fs) (fun y => [(b90, .cells #[.int .i64 y.1, .bool y.2.1] 220 (0, 0)), (b30, .cells #[.int .i64 y.2.2.1, .int .i64 y.2.2.2.1, .int .i64 y.2.2.2.2.1, .slice y.2.2.2.2.2.2.1 y.2.2.2.2.2.1.length y.2.2.2.2.2.2.2.1, .slice a70 v69.length k71] 256 (0, 0)), (b2, .cells #[.int .i64 y.2.2.2.2.2.2.2.2.2.1, .int .i64 y.2.2.2.2.2.2.2.2.2.2.1, .int .i64 y.2.2.2.2.2.2.2.2.2.2.2.1, .slice none 0 0, .slice none 0 0] 256 (0, 0)), (b1, .cells #[.int .i64 y.2.2.2.2.2.2.2.2.2.2.2.2] 45 (0, 0))]) [] (fun y => [.s (.slice y.2.2.2.2.2.2.1 y.2.2.2.2.2.1.length y.2.2.2.2.2.2.2.1) 3 1 y.2.2.2.2.2.1.length y.2.2.2.2.2.2.2.2.1]) [_, _] (fun y => OL ri G109 y.2.2.2.2.2.2.2.2.1 y.2.2.2.2.2.1 ∧ (unique_Key_J2 (unique_Key_L6 unique_Key_J1 x2 x3 x0_0 xs85 (i58 + 1)) v94 x3 x0_0 v69) y.1 y.2.1 y.2.2.1 y.2.2.2.1 y.2.2.2.2.1 y.2.2.2.2.2.1 y.2.2.2.2.2.2.2.2.2.1 y.2.2.2.2.2.2.2.2.2.2.1 y.2.2.2.2.2.2.2.2.2.2.2.1 y.2.2.2.2.2.2.2.2.2.2.2.2 = some r) ⟨rfl, rfl, rfl, rfl, rfl, rfl, rfl, rfl, rfl, rfl, trivial⟩ [] rfl [1, 2] rfl ?_ ?_
          ·intro y hI
           obtain ⟨v131, v132, v133, v134, v135, v136, a137, k138, cs139, v140, v141, v142, v143⟩ := y
           obtain ⟨o144, r145⟩ := hI
           try dsimp only at o144 r145
           refine .prune [(17, _), (59, _), (2, _), (3, _), (8, _), (12, _), (13, _), (57, _), (58, _), (15, _)] ⟨rfl, rfl, rfl, rfl, rfl, rfl, rfl, rfl, rfl, rfl, trivial⟩ (.same (bl' := [(b90, .cells #[.int .i64 v131, .bool v132] 220 (0, 0)), (b30, .cells #[.int .i64 v133, .int .i64 v134, .int .i64 v135, .slice a137 v136.length k138, .slice a70 v69.length k71] 256 (0, 0)), (b2, .cells #[.int .i64 v140, .int .i64 v141, .int .i64 v142, .slice none 0 0, .slice none 0 0] 256 (0, 0)), (b1, .cells #[.int .i64 v143] 45 (0, 0))]) (sl' := [.s (.slice a137 v136.length k138) 3 1 v136.length cs139, _, _]) (Fs' := G109 :: Fs) rfl rfl rfl ?_)
           unfold unique_Key_J2 at r145
           try dsimp only at r145
           refine .seq (.drawL (.q 0 (.q 1 (.q 2 (.q 3 (.q 4 (.q 5 (.q 6 (.q 7 (.q 8 (.e 9 1 (.e 10 1 (.e 11 1 (.q 12 (.e 13 2 .nil)))))))))))))) [_, _, _, _] (by kernel_rfl) (by kernel_rfl) (pick_mem [0, 1, 2, 3] rfl) (.dq (.fieldAddr 4 rfl fl256_4 ty22.sz rfl) rfl (.dq (.load_own 1 rfl rfl ty22 rfl) rfl (.dq (.move rfl) rfl (.dq (.fieldAddr 0 rfl fl220_0 ty3.sz rfl) rfl (.dq (.load_own 0 rfl rfl ty3 rfl) rfl (.dq (.move rfl) rfl (.dq (.move rfl) rfl ?_))))))))
           obtain ⟨u146, hu146, r147⟩ := bind_some r145
           obtain ⟨c148, p149, h150⟩ := SlR.get s112 hu146
           obtain rfl := h150
           refine .dq (.idxR s112 rfl rfl hu146 sl22 ty3.sz) rfl (.dq (.load_rp p149 mcs rfl ty3 rfl) rfl ?_)
           obtain ⟨u151, hu151, r152⟩ := bind_some r147
           refine .callS (b1 := []) (b2 := [_, _, _, _]) (s1 := []) [_, _, _] [] .d1 rfl rfl Tryz.call77 rfl rfl (residue_Field_Mul_c (G := G109) mcs  hu151) rfl (fun v153 bo so h154 => ?_)
           obtain ⟨rfl, rfl, rfl⟩ := h154
           refine .same (bl' := [_, _, _, _]) (sl' := [_, _, _]) rfl rfl rfl (.clsL (HpLe.refl _) (pick_mem [0, 1, 2, 3] rfl) ?_)
           refine .lit [_] [(0, _)] .d1 sl22 ty3 rfl rfl rfl rfl rfl rfl (fun b155 hb155 => ?_)
           have o156 : OL ri G109 [.int .i64 u151] ([u151] : List Int) := ((OL.cons rfl (Rep.intI .i64 u151) (OL.nil (Rp' := ri))) :)
           refine .reval 123 (n' := ([u151] : List Int).length) rfl rfl (.clsL (HpLe.refl _) (pick_mem [0, 1, 2, 3] rfl) ?_)
           obtain ⟨u157, hu157, r158⟩ := bind_some r152
           refine .appO (Q := ri) 1 .d1 sl22 ty3 rfl rfl rfl rfl rfl rfl (OL.mono e110 o81) o156 rfl rfl rfl B111 hu157 rfl (fun a159 k160 cs161 o162 => ?_)
           refine .clsL (HpLe.refl _) (pick_mem [0, 1, 2, 3] rfl) (.dq (.fieldAddr 4 rfl fl256_4 ty22.sz rfl) rfl (.store 1 [_, _, _, _, _] [_, _, _, _] .d2 rfl rfl rfl ty22 rfl rfl rfl rfl (.draw_end (.prune [(59, _), (2, _), (3, _), (8, _), (12, _), (13, _), (57, _), (58, _)] ⟨rfl, rfl, rfl, rfl, rfl, rfl, rfl, rfl, trivial⟩ (.region rfl (.q .ro (.fieldAddr 1 rfl fl256_1 ty3.sz rfl) rfl (.q .ro (.load_own 1 rfl rfl ty3 rfl) rfl (.q .ro (.addw rfl rfl) rfl (.q .ro (.fieldAddr 1 rfl fl256_1 ty3.sz rfl) rfl (.store 1 [_, _, _, _, _] [_, _, _, _] .ro rfl rfl rfl ty3 rfl rfl rfl rfl (.re (.inBlock (.region rfl (.q .ro (.addw rfl rfl) rfl (.mv rfl rfl (.re (.drop 1 0 [_, _, _] _ rfl rfl ?_)))))))))))))))))
           exact .arr (hb57 ((i58 + 1), xs85, G109, v133, (w64 (v134 + 1)), v135, v136, a137, k138, cs139, u157, a159, k160, cs161, v140, v141, v142, v143) ⟨(HpLe.trans e78 e110), B111, o144, o162, (drop_succ g82), r158⟩ (Nat.lt_succ_self _)) ⟨(congrArg (fun z => some (Value.int .i64 z)) (idx_wrap (SlR.len s1) g82)), rfl, rfl, rfl, rfl, rfl, rfl, rfl, trivial⟩
          ·intro hb163
           refine .block (.pull 1 rfl [_, _, _, _] rfl ?_)
           refine .loop2 (α := Nat × List Int × List Int × Option Addr × Nat × List Value) (fun y => [(96, .int .i64 (y.1 : Int))]) [(17, _), (59, _), (2, _), (3, _), (8, _), (12, _), (13, _), (57, _), (58, _), (15, _), (94, _), (95, _)] (fun y => []) (fun y => [(b30, .cells #[.int .i64 v100, .int .i64 v101, .int .i64 v102, .slice y.2.2.2.1 y.2.2.1.length y.2.2.2.2.1, .slice a70 v69.length k71] 256 (0, 0))]) [_, _, _] (fun y => [.s (.slice y.2.2.2.1 y.2.2.1.length y.2.2.2.2.1) 3 1 y.2.2.1.length y.2.2.2.2.2]) [_, _] (fun y => OL ri G109 y.2.2.2.2.2 y.2.2.1 ∧ List.drop y.1 u125 = y.2.1 ∧ unique_Key_L3 (unique_Key_J2 (unique_Key_L6 unique_Key_J1 x2 x3 x0_0 xs85 (i58 + 1)) v94 x3 x0_0 v69) x0_0 v100 v101 v102 v98 v99 v103 v104 v105 v106 y.2.1 y.2.2.1 = some r) (fun y => y.2.1.length) (0, u125, u119, a121, k122, cs123) ⟨o124, rfl, r126⟩ ⟨rfl, rfl, rfl, rfl, rfl, rfl, rfl, rfl, rfl, rfl, rfl, rfl, rfl, trivial⟩ rfl rfl rfl (fun y hI hb164 => ?_)
           obtain ⟨i165, w166, v167, a168, k169, cs171⟩ := y
           obtain ⟨o172, g173, r175⟩ := hI
           try dsimp only at o172 g173 r175
           refine .prune [(96, .int .i64 (i165 : Int)), (17, _), (59, _), (2, _), (3, _), (8, _), (12, _), (13, _), (57, _), (58, _), (15, _), (94, _), (95, _)] ⟨rfl, rfl, rfl, rfl, rfl, rfl, rfl, rfl, rfl, rfl, rfl, rfl, rfl, trivial⟩ (.same (bl' := [(b30, .cells #[.int .i64 v100, .int .i64 v101, .int .i64 v102, .slice a168 v167.length k169, .slice a70 v69.length k71] 256 (0, 0)), _, _, _]) (sl' := [.s (.slice a168 v167.length k169) 3 1 v167.length cs171, _, _]) (Fs' := G109 :: Fs) rfl rfl rfl ?_)
           cases w166 with
           | nil =>
            rw [unique_Key_L3] at r175; try dsimp only at r175
            refine .seq (.region rfl (.q .ro (.lss rfl rfl) rfl (.re (.seq ?_))))
            refine .cond_dec rfl (fun c => absurd c (drop_nil g173)) (fun _ => ?_)
            refine .exit rfl (.pull 3 rfl [_, _, _, _] rfl (.pull 3 rfl [_, _, _, _] rfl (.pull 2 rfl [_, _, _, _] rfl (.pull 3 rfl [_, _, _, _] rfl ?_))))
            exact .arr (hb163 (v98, v99, v100, v101, v102, v167, a168, k169, cs171, v103, v104, v105, v106) ⟨o172, r175⟩) ⟨rfl, rfl, rfl, rfl, rfl, rfl, rfl, rfl, rfl, rfl, trivial⟩
           | cons x176 xs177 =>
            have r178 : unique_Key_B3 (unique_Key_J2 (unique_Key_L6 unique_Key_J1 x2 x3 x0_0 xs85 (i58 + 1)) v94 x3 x0_0 v69) x0_0 v100 v101 v102 v98 v99 v103 v104 v105 v106 (unique_Key_L3 (unique_Key_J2 (unique_Key_L6 unique_Key_J1 x2 x3 x0_0 xs85 (i58 + 1)) v94 x3 x0_0 v69) x0_0 v100 v101 v102 v98 v99 v103 v104 v105 v106 xs177) x176 v167 = some r := r175; clear r175; unfold unique_Key_B3 at r178; try dsimp only at r178
            refine .seq (.region rfl (.q .ro (.lss rfl rfl) rfl (.re (.seq ?_))))
            refine .cond_dec rfl (fun _ => ?_) (fun c => absurd (drop_lt g173) c)
            refine .skip (.seq (.block (.seq (.region rfl ?_))))
            obtain ⟨c179, p180, h181⟩ := SlR.get s130 (drop_idx g173)
            obtain rfl := h181
            refine .q .ro (.idxR s130 rfl rfl (drop_idx g173) sl22 ty3.sz) rfl (.q .ro (.load_rp p180 mcs rfl ty3 rfl) rfl (.av rfl rfl (.re (.drawL (.q 0 (.q 1 (.q 2 (.q 3 (.q 4 (.q 5 (.q 6 (.e 7 1 (.e 8 1 (.e 9 1 (.e 10 1 (.q 11 (.e 12 2 .nil))))))))))))) [_, _, _, _] (by kernel_rfl) (by kernel_rfl) (pick_mem [0, 1, 2, 3] rfl) (.dq (.fieldAddr 3 rfl fl256_3 ty22.sz rfl) rfl (.dq (.load_own 0 rfl rfl ty22 rfl) rfl (.dq (.move rfl) rfl (.dq (.move rfl) rfl (.dq (.fieldAddr 0 rfl fl220_0 ty3.sz rfl) rfl (.dq (.load_own 1 rfl rfl ty3 rfl) rfl (.dq (.move rfl) rfl ?_)))))))))))
            obtain ⟨u182, hu182, r183⟩ := bind_some r178
            refine .callS (b1 := []) (b2 := [_, _, _, _]) (s1 := []) [_, _, _] [] .d1 rfl rfl Tryz.call77 rfl rfl (residue_Field_Mul_c (G := G109) mcs  hu182) rfl (fun v184 bo so h185 => ?_)
            obtain ⟨rfl, rfl, rfl⟩ := h185
            refine .same (bl' := [_, _, _, _]) (sl' := [_, _, _]) rfl rfl rfl (.clsL (HpLe.refl _) (pick_mem [0, 1, 2, 3] rfl) ?_)
            obtain ⟨u186, hu186, r187⟩ := bind_some r183
            refine .callS (b1 := []) (b2 := [_, _, _, _]) (s1 := []) [_, _, _] [] .d1 rfl rfl Tryz.call190 rfl rfl (residue_Field_Sub_c (G := G109) mcs  hu186) rfl (fun v188 bo so h189 => ?_)
            obtain ⟨rfl, rfl, rfl⟩ := h189
            refine .same (bl' := [_, _, _, _]) (sl' := [_, _, _]) rfl rfl rfl (.clsL (HpLe.refl _) (pick_mem [0, 1, 2, 3] rfl) ?_)
            refine .lit [_] [(0, _)] .d1 sl22 ty3 rfl rfl rfl rfl rfl rfl (fun b191 hb191 => ?_)
            have o192 : OL ri G109 [.int .i64 u186] ([u186] : List Int) := ((OL.cons rfl (Rep.intI .i64 u186) (OL.nil (Rp' := ri))) :)
            refine .reval 109 (n' := ([u186] : List Int).length) rfl rfl (.clsL (HpLe.refl _) (pick_mem [0, 1, 2, 3] rfl) ?_)
            obtain ⟨u193, hu193, r194⟩ := bind_some r187
            refine .appO (Q := ri) 0 .d1 sl22 ty3 rfl rfl rfl rfl rfl rfl o172 o192 rfl rfl rfl B111 hu193 rfl (fun a195 k196 cs197 o198 => ?_)
            refine .clsL (HpLe.refl _) (pick_mem [0, 1, 2, 3] rfl) (.dq (.fieldAddr 3 rfl fl256_3 ty22.sz rfl) rfl (.store 0 [_, _, _, _, _] [_, _, _, _] .d2 rfl rfl rfl ty22 rfl rfl rfl rfl (.draw_end (.prune [(96, _), (17, _), (59, _), (2, _), (3, _), (8, _), (12, _), (13, _), (57, _), (58, _), (15, _), (94, _), (95, _)] ⟨rfl, rfl, rfl, rfl, rfl, rfl, rfl, rfl, rfl, rfl, rfl, rfl, rfl, trivial⟩ (.inBlock (.region rfl (.q .ro (.addw rfl rfl) rfl (.mv rfl rfl (.re ?_)))))))))
            exact .arr (hb164 ((i165 + 1), xs177, u193, a195, k196, cs197) ⟨o198, (drop_succ g173), r194⟩ (Nat.lt_succ_self _)) ⟨(congrArg (fun z => some (Value.int .i64 z)) (idx_wrap (SlR.len s130) g173)), rfl, rfl, rfl, rfl, rfl, rfl, rfl, rfl, rfl, rfl, rfl, rfl, trivial⟩
         ·intro hb199
          refine .block (.own_nil 3 1 ?_)
          refine .loop2 (α := Nat × Int × List Int × Option Addr × Nat × List Value × Int) (fun y => [(16, .int .i64 y.2.1), (17, .slice y.2.2.2.1 y.2.2.1.length y.2.2.2.2.1), (71, .int .i64 y.2.2.2.2.2.2)]) [(59, _), (2, _), (3, _), (8, _), (12, _), (13, _), (57, _), (58, _), (15, _), (14, _), (70, _)] (fun y => []) (fun y => []) [_, _, _, _] (fun y => [.s (.slice y.2.2.2.1 y.2.2.1.length y.2.2.2.2.1) 3 1 y.2.2.1.length y.2.2.2.2.2.1]) [_, _, _] (fun y => OL ri G60 y.2.2.2.2.2.1 y.2.2.1 ∧ unique_Key_L5 (unique_Key_J4 (unique_Key_L6 unique_Key_J1 x2 x3 x0_0 xs85 (i58 + 1)) x2 x3 x0_0 v65 v69) (i58 : Int) x0_0 (w64 ((w64 (x2 + x3)) + 1)) x84.1 x84.2 v61 v62 v63 v73 v74 v75 v76 y.1 y.2.1 y.2.2.1 y.2.2.2.2.2.2 = some r) (fun y => y.1) (big, 1, ([] : List Int), none, 0, [], 0) ⟨(OL.nil (Rp' := ri)), r93⟩ ⟨rfl, rfl, rfl, rfl, rfl, rfl, rfl, rfl, rfl, rfl, rfl, rfl, rfl, rfl, trivial⟩ rfl rfl rfl (fun y hI hb200 => ?_)
          obtain ⟨n201, v202, v203, a204, k205, cs206, v207⟩ := y
          obtain ⟨o208, r209⟩ := hI
          try dsimp only at o208 r209
          refine .prune [(16, .int .i64 v202), (17, .slice a204 v203.length k205), (71, .int .i64 v207), (59, _), (2, _), (3, _), (8, _), (12, _), (13, _), (57, _), (58, _), (15, _), (14, _), (70, _)] ⟨rfl, rfl, rfl, rfl, rfl, rfl, rfl, rfl, rfl, rfl, rfl, rfl, rfl, rfl, trivial⟩ (.same (bl' := [_, _, _, _]) (sl' := [.s (.slice a204 v203.length k205) 3 1 v203.length cs206, _, _, _]) (Fs' := G60 :: Fs) rfl rfl rfl ?_)
          obtain ⟨m210, rfl⟩ : ∃ m, n201 = m + 1 := by cases n201 with | zero => exact absurd (show (none : Option _) = some _ from r209) (by simp) | succ m => exact ⟨m, rfl⟩
          have r211 : unique_Key_B5 (unique_Key_J4 (unique_Key_L6 unique_Key_J1 x2 x3 x0_0 xs85 (i58 + 1)) x2 x3 x0_0 v65 v69) (i58 : Int) x0_0 (w64 ((w64 (x2 + x3)) + 1)) x84.1 x84.2 v61 v62 v63 v73 v74 v75 v76 (unique_Key_L5 (unique_Key_J4 (unique_Key_L6 unique_Key_J1 x2 x3 x0_0 xs85 (i58 + 1)) x2 x3 x0_0 v65 v69) (i58 : Int) x0_0 (w64 ((w64 (x2 + x3)) + 1)) x84.1 x84.2 v61 v62 v63 v73 v74 v75 v76 m210) v202 v203 v207 = some r := r209; clear r209; unfold unique_Key_B5 at r211; try dsimp only at r211
          refine .seq (.region rfl (.q .ro (.lss rfl rfl) rfl (.re (.seq ?_))))
          refine .cond_dec rfl (fun c212 => ?_) (fun c212 => ?_)
          ·have r213 := ifT r211 c212; clear r211
           refine .skip (.seq (.block (.seq (.region rfl (.mv rfl rfl (.mv rfl rfl ?_))))))
           refine .lit [_] [(0, _)] .ro sl22 ty3 rfl rfl rfl rfl rfl rfl (fun b214 hb214 => ?_)
           have o215 : OL ri G60 [.int .i64 v202] ([v202] : List Int) := ((OL.cons rfl (Rep.intI .i64 v202) (OL.nil (Rp' := ri))) :)
           refine .reval 75 (n' := ([v202] : List Int).length) rfl rfl ?_
           obtain ⟨u216, hu216, r217⟩ := bind_some r213
           refine .appO (Q := ri) 0 .ro sl22 ty3 rfl rfl rfl rfl rfl rfl o208 o215 rfl rfl rfl B79 hu216 rfl (fun a219 k221 cs222 o223 => ?_)
           refine .av rfl rfl (.re (.region rfl (.mv rfl rfl (.mv rfl rfl (.mv rfl rfl (.q .ro (.addw rfl rfl) rfl ?_))))))
           obtain ⟨u224, hu224, r225⟩ := bind_some r217
           refine .callS (b1 := []) (b2 := [_, _, _, _]) (s1 := []) [_, _, _] [] .ro rfl rfl Tryz.call77 rfl rfl (residue_Field_Mul_c (G := G60) mcs  hu224) rfl (fun v226 bo so h227 => ?_)
           obtain ⟨rfl, rfl, rfl⟩ := h227
           refine .same (bl' := [_, _, _, _]) (sl' := [_, _, _, _]) rfl rfl rfl (.av rfl rfl (.re (.inBlock (.region rfl (.q .ro (.addw rfl rfl) rfl (.mv rfl rfl (.re ?_)))))))
           exact .arr (hb200 (m210, u224, u216, a219, k221, cs222, (w64 (v207 + 1))) ⟨o223, r225⟩ (Nat.lt_succ_self _)) ⟨rfl, rfl, rfl, rfl, rfl, rfl, rfl, rfl, rfl, rfl, rfl, rfl, rfl, rfl, trivial⟩
          ·have r228 := ifF r211 c212; clear r211
           refine .exit rfl ?_
           exact .arr (hb199 (v203, a204, k205, cs206, x84.1, x84.2, v61, v62, v63, v73, v74, v75, v76) ⟨o208, r228⟩) ⟨rfl, rfl, rfl, rfl, rfl, rfl, rfl, rfl, rfl, rfl, trivial⟩
    ·intro hb24
     refine .split 41 rfl (fun c23 => ?_) (fun c23 => ?_)
     ·refine .g_off rfl rfl rfl ?_
      refine .g_off rfl rfl rfl (.g_off rfl rfl rfl (.g_off rfl rfl rfl (.g_off rfl rfl rfl (.q .ro (.pick_t rfl rfl) rfl ?_))))
      exact .arr (hb24 () trivial) ⟨dor_t c23, rfl, rfl, rfl, rfl, rfl, trivial⟩
     ·refine .g_on rfl ?_
      refine .mv rfl rfl (.g_on rfl (.mv rfl rfl (.g_on rfl (.q .ro (.mulw rfl rfl) rfl (.g_on rfl (.q .ro (.addw rfl rfl) rfl (.g_on rfl (.q .ro (.gtr rfl rfl) rfl (.q .ro (.pick_f rfl rfl) rfl ?_)))))))))
      exact .arr (hb24 () trivial) ⟨dor_f c23, rfl, rfl, rfl, rfl, rfl, trivial⟩
   ·intro hb20
    refine .split 37 rfl (fun c19 => ?_) (fun c19 => ?_)
    ·refine .g_off rfl rfl rfl ?_
     refine .g_off rfl rfl rfl (.q .ro (.pick_t rfl rfl) rfl ?_)
     exact .arr (hb20 () trivial) ⟨dor_t c19, rfl, rfl, rfl, rfl, rfl, trivial⟩
    ·refine .g_on rfl ?_
     refine .mv rfl rfl (.g_on rfl (.q .ro (.gtr rfl rfl) rfl (.q .ro (.pick_f rfl rfl) rfl ?_)))
     exact .arr (hb20 () trivial) ⟨dor_f c19, rfl, rfl, rfl, rfl, rfl, trivial⟩
 ·intro hb13
  refine .split 29 rfl (fun c12 => ?_) (fun c12 => ?_)
  ·refine .g_on rfl ?_
   refine .mv rfl rfl (.g_on rfl (.q .ro (.neq rfl rfl) rfl (.q .ro (.pick_t rfl rfl) rfl ?_)))
   exact .arr (hb13 () trivial) ⟨dand_t c12, rfl, rfl, rfl, rfl, rfl, rfl, trivial⟩
  ·refine .g_off rfl rfl rfl ?_
   refine .g_off rfl rfl rfl (.q .ro (.pick_f rfl rfl) rfl ?_)
   exact .arr (hb13 () trivial) ⟨dand_f c12, rfl, rfl, rfl, rfl, rfl, rfl, trivial⟩
theorem solve_Check_c {Fs : List Hp} {G : Hp} {x0_0 : Int} {x0_1 : Int} {x0_2 : Int} {a0_3 : Option Addr} {k0_3 : Nat} {x0_3 : List Int} {a0_4 : Option Addr} {k0_4 : Nat} {x0_4 : List Int} {r : Int} (hG : G ∈ Fs) (s0_3 : SlR ri G a0_3 k0_3 x0_3) (s0_4 : SlR ri G a0_4 k0_4 x0_4) (h : solve_Check (x0_0, x0_1, x0_2, x0_3, x0_4) = some r) : RetS Tryz.prog 191 #[.agg #[.int .i64 x0_0, .int .i64 x0_1, .int .i64 x0_2, .slice a0_3 x0_3.length k0_3, .slice a0_4 x0_4.length k0_4]] Fs [] [] (fun v bo so => v = .int .i64 r ∧ bo = [] ∧ so = []) := by
 unfold solve_Check at h
 try dsimp only at h
 refine RetS.of (vs := [_]) Tryz.func191 rfl Tryz.ntmps191 [(0, _)] ⟨rfl, trivial⟩ rfl hG fun w0 S0 hS0 B0 => ?_
 refine .seq (.region rfl ?_)
 refine .box [_, _, _, _, _] .ro rfl rfl rfl (fun b1 hb1 => ?_)
 refine .av rfl rfl (.re (.seq (.region rfl (.q .ro (.fieldAddr 0 rfl fl256_0 ty45.sz rfl) rfl (.q .ro (.load_own_a 0 [_] rfl rfl ty45 rfl) rfl ?_)))))
 obtain ⟨u2, hu2, r3⟩ := bind_some h
 refine .callS (b1 := []) (b2 := [_]) (s1 := []) [_] [] .ro rfl rfl Tryz.call72 rfl rfl (residue_Of_c (G := G) mcs  hu2) rfl (fun v5 bo so h4 => ?_)
 obtain ⟨rfl, rfl, rfl⟩ := h4
 refine .same (bl' := [_]) (sl' := []) rfl rfl rfl (.mv rfl rfl (.q .ro (.extract rfl rfl) rfl (.q .ro (.extract rfl rfl) rfl (.av rfl rfl (.av rfl rfl (.re (.seq (.block (.seq (.region rfl (.mv rfl rfl (.q .ro (.not rfl) rfl (.av rfl rfl (.re ?_))))))))))))))
 refine .cond rfl (fun c6 => ?_) (fun c6 => ?_)
 ·have r7 := ifT r3 c6; clear r3
  exact absurd r7 (by simp)
 ·have r8 := ifBF r3 c6; clear r3
  refine .seq (.region rfl (.q .ro (.fieldAddr 1 rfl fl256_1 ty3.sz rfl) rfl (.q .ro (.load_own 0 rfl rfl ty3 rfl) rfl (.q .ro (.lss rfl rfl) rfl (.mv rfl rfl ?_)))))
  refine .cutR 4 (β := Unit) (fun y => [(22, .bool (decide ((x0_1 < 0) ∨ (32 < x0_1))))]) [(1, _), (3, _)] (fun y => G :: Fs) (fun y => []) [_] (fun y => []) [] (fun y => True) ⟨rfl, rfl, trivial⟩ [0] rfl [] rfl ?_ ?_
  ·rintro _ _
   refine .prune [(22, .bool (decide ((x0_1 < 0) ∨ (32 < x0_1)))), (1, _), (3, _)] ⟨rfl, rfl, rfl, trivial⟩ (.same (bl' := [_]) (sl' := []) (Fs' := G :: Fs) rfl rfl rfl (.mv rfl rfl ?_))
   refine .cutR 4 (β := Unit) (fun y => [(27, .bool (decide (((x0_1 < 0) ∨ (32 < x0_1)) ∨ (x0_2 < 0))))]) [(1, _), (3, _)] (fun y => G :: Fs) (fun y => []) [_] (fun y => []) [] (fun y => True) ⟨rfl, rfl, trivial⟩ [0] rfl [] rfl ?_ ?_
   ·rintro _ _
    refine .prune [(27, .bool (decide (((x0_1 < 0) ∨ (32 < x0_1)) ∨ (x0_2 < 0)))), (1, _), (3, _)] ⟨rfl, rfl, rfl, trivial⟩ (.same (bl' := [_]) (sl' := []) (Fs' := G :: Fs) rfl rfl rfl (.mv rfl rfl ?_))
    refine .cutR 4 (β := Unit) (fun y => [(32, .bool (decide ((((x0_1 < 0) ∨ (32 < x0_1)) ∨ (x0_2 < 0)) ∨ (32 < x0_2))))]) [(1, _), (3, _)] (fun y => G :: Fs) (fun y => []) [_] (fun y => []) [] (fun y => True) ⟨rfl, rfl, trivial⟩ [0] rfl [] rfl ?_ ?_
    ·rintro _ _
     refine .prune [(32, .bool (decide ((((x0_1 < 0) ∨ (32 < x0_1)) ∨ (x0_2 < 0)) ∨ (32 < x0_2)))), (1, _), (3, _)] ⟨rfl, rfl, rfl, trivial⟩ (.same (bl' := [_]) (sl' := []) (Fs' := G :: Fs) rfl rfl rfl (.av rfl rfl (.re ?_)))
     refine .cond_dec rfl (fun c21 => ?_) (fun c21 => ?_)
     ·have r22 := ifT r8 c21; clear r8
      exact absurd r22 (by simp)
     ·have r23 := ifF r8 c21; clear r8
      refine .seq (.region rfl (.q .ro (.fieldAddr 3 rfl fl256_3 ty22.sz rfl) rfl (.q .ro (.load_own 0 rfl rfl ty22 rfl) rfl (.q .ro (.len_sl rfl rfl sl22) rfl (.q .ro (.fieldAddr 1 rfl fl256_1 ty3.sz rfl) rfl (.q .ro (.load_own 0 rfl rfl ty3 rfl) rfl (.q .ro (.fieldAddr 2 rfl fl256_2 ty3.sz rfl) rfl (.q .ro (.load_own 0 rfl rfl ty3 rfl) rfl (.q .ro (.mulw rfl rfl) rfl (.q .ro (.neq rfl rfl) rfl (.mv rfl rfl ?_)))))))))))
      refine .cutR 7 (β := Unit) (fun y => [(50, .bool (decide (((x0_3.length : Int) ≠ (w64 (x0_1 * x0_2))) ∨ ((x0_4.length : Int) ≠ x0_1))))]) [(1, _), (3, _)] (fun y => G :: Fs) (fun y => []) [_] (fun y => []) [] (fun y => True) ⟨rfl, rfl, trivial⟩ [0] rfl [] rfl ?_ ?_
      ·rintro _ _
       refine .prune [(50, .bool (decide (((x0_3.length : Int) ≠ (w64 (x0_1 * x0_2))) ∨ ((x0_4.length : Int) ≠ x0_1)))), (1, _), (3, _)] ⟨rfl, rfl, rfl, trivial⟩ (.same (bl' := [_]) (sl' := []) (Fs' := G :: Fs) rfl rfl rfl (.av rfl rfl (.re ?_)))
       refine .cond_dec rfl (fun c28 => ?_) (fun c28 => ?_)
       ·have r29 := ifT r23 c28; clear r23
        exact absurd r29 (by simp)
       ·have r30 := ifF r23 c28; clear r23
        refine .seq (.region rfl (.mv rfl rfl (.q .ro (.fieldAddr 3 rfl fl256_3 ty22.sz rfl) rfl (.q .ro (.load_own 0 rfl rfl ty22 rfl) rfl ?_))))
        obtain ⟨u31, hu31, r32⟩ := bind_some r30
        refine .callS (b1 := []) (b2 := [_]) (s1 := []) [_, _] [] .ro rfl rfl Tryz.call73 rfl rfl (residue_Field_All_c (G := G) mcs s0_3 hu31) rfl (fun v34 bo so h33 => ?_)
        obtain ⟨rfl, rfl, rfl⟩ := h33
        refine .same (bl' := [_]) (sl' := []) rfl rfl rfl (.q .ro (.not rfl) rfl (.mv rfl rfl ?_))
        obtain ⟨u41, h42, r43⟩ := bind_some r32
        refine .cutR 6 (β := Unit) (fun y => [(63, .bool u41)]) [] (fun y => G :: Fs) (fun y => []) [_] (fun y => []) [] (fun y => True) trivial [0] rfl [] rfl ?_ ?_
        ·rintro _ _
         refine .prune [(63, .bool u41)] ⟨rfl, trivial⟩ (.same (bl' := [_]) (sl' := []) (Fs' := G :: Fs) rfl rfl rfl (.av rfl rfl (.re ?_)))
         refine .cond rfl (fun c46 => ?_) (fun c46 => ?_)
         ·have r47 := ifT r43 c46; clear r43
          exact absurd r47 (by simp)
         ·have r48 := ifBF r43 c46; clear r43
          refine .skip (.inBlock (.seq (.region rfl (.av rfl rfl (.re ?_)))))
          cases r48
          refine .drop 1 0 [] _ rfl rfl ?_
          refine .retS (.inr ⟨_, rfl⟩) [.tmp 2] [_] rfl Tryz.func191 Tryz.results191 ⟨RV.tmp rfl, trivial⟩ mcm ⟨rfl, rfl, rfl⟩
        ·intro hb40
         refine .split_b 57 rfl (fun c39 => ?_) (fun c39 => ?_)
         ·have r49 := ifT h42 c39
          refine .g_off rfl rfl rfl (.g_off rfl rfl rfl (.g_off rfl rfl rfl (.g_off rfl rfl rfl (.g_off rfl rfl rfl (.q .ro (.pick_t rfl rfl) rfl ?_)))))
          exact .arr (hb40 () trivial) ⟨sval r49, trivial⟩
         ·have r50 := ifBF h42 c39
          refine .g_on rfl (.mv rfl rfl (.g_on rfl (.q .ro (.fieldAddr 4 rfl fl256_4 ty22.sz rfl) rfl (.g_on rfl (.q .ro (.load_own 0 rfl rfl ty22 rfl) rfl (.g_on rfl ?_))))))
          obtain ⟨u51, hu51, r52⟩ := bind_some r50
          refine .callS (b1 := []) (b2 := [_]) (s1 := []) [_, _] [] .ro rfl rfl Tryz.call73 rfl rfl (residue_Field_All_c (G := G) mcs s0_4 hu51) rfl (fun v54 bo so h53 => ?_)
          obtain ⟨rfl, rfl, rfl⟩ := h53
          refine .same (bl' := [_]) (sl' := []) rfl rfl rfl (.g_on rfl (.q .ro (.not rfl) rfl (.q .ro (.pick_f rfl rfl) rfl ?_)))
          exact .arr (hb40 () trivial) ⟨sval r52, trivial⟩
      ·intro hb25
       refine .split 43 rfl (fun c24 => ?_) (fun c24 => ?_)
       ·refine .g_off rfl rfl rfl ?_
        refine .g_off rfl rfl rfl (.g_off rfl rfl rfl (.g_off rfl rfl rfl (.g_off rfl rfl rfl (.g_off rfl rfl rfl (.q .ro (.pick_t rfl rfl) rfl ?_)))))
        exact .arr (hb25 () trivial) ⟨dor_t c24, rfl, rfl, trivial⟩
       ·refine .g_on rfl ?_
        refine .q .ro (.fieldAddr 4 rfl fl256_4 ty22.sz rfl) rfl (.g_on rfl (.q .ro (.load_own 0 rfl rfl ty22 rfl) rfl (.g_on rfl (.q .ro (.len_sl rfl rfl sl22) rfl (.g_on rfl (.q .ro (.fieldAddr 1 rfl fl256_1 ty3.sz rfl) rfl (.g_on rfl (.q .ro (.load_own 0 rfl rfl ty3 rfl) rfl (.g_on rfl (.q .ro (.neq rfl rfl) rfl (.q .ro (.pick_f rfl rfl) rfl ?_)))))))))))
        exact .arr (hb25 () trivial) ⟨dor_f c24, rfl, rfl, trivial⟩
    ·intro hb18
     refine .split 28 rfl (fun c17 => ?_) (fun c17 => ?_)
     ·refine .g_off rfl rfl rfl ?_
      refine .g_off rfl rfl rfl (.g_off rfl rfl rfl (.q .ro (.pick_t rfl rfl) rfl ?_))
      exact .arr (hb18 () trivial) ⟨dor_t c17, rfl, rfl, trivial⟩
     ·refine .g_on rfl ?_
      refine .q .ro (.fieldAddr 2 rfl fl256_2 ty3.sz rfl) rfl (.g_on rfl (.q .ro (.load_own 0 rfl rfl ty3 rfl) rfl (.g_on rfl (.q .ro (.gtr rfl rfl) rfl (.q .ro (.pick_f rfl rfl) rfl ?_)))))
      exact .arr (hb18 () trivial) ⟨dor_f c17, rfl, rfl, trivial⟩
   ·intro hb14
    refine .split 23 rfl (fun c13 => ?_) (fun c13 => ?_)
    ·refine .g_off rfl rfl rfl ?_
     refine .g_off rfl rfl rfl (.g_off rfl rfl rfl (.q .ro (.pick_t rfl rfl) rfl ?_))
     exact .arr (hb14 () trivial) ⟨dor_t c13, rfl, rfl, trivial⟩
    ·refine .g_on rfl ?_
     refine .q .ro (.fieldAddr 2 rfl fl256_2 ty3.sz rfl) rfl (.g_on rfl (.q .ro (.load_own 0 rfl rfl ty3 rfl) rfl (.g_on rfl (.q .ro (.lss rfl rfl) rfl (.q .ro (.pick_f rfl rfl) rfl ?_)))))
     exact .arr (hb14 () trivial) ⟨dor_f c13, rfl, rfl, trivial⟩
  ·intro hb10
   refine .split 18 rfl (fun c9 => ?_) (fun c9 => ?_)
   ·refine .g_off rfl rfl rfl ?_
    refine .g_off rfl rfl rfl (.g_off rfl rfl rfl (.q .ro (.pick_t rfl rfl) rfl ?_))
    exact .arr (hb10 () trivial) ⟨dor_t c9, rfl, rfl, trivial⟩
   ·refine .g_on rfl ?_
    refine .q .ro (.fieldAddr 1 rfl fl256_1 ty3.sz rfl) rfl (.g_on rfl (.q .ro (.load_own 0 rfl rfl ty3 rfl) rfl (.g_on rfl (.q .ro (.gtr rfl rfl) rfl (.q .ro (.pick_f rfl rfl) rfl ?_)))))
    exact .arr (hb10 () trivial) ⟨dor_f c9, rfl, rfl, trivial⟩
end Go.Proofs.YtfcicopgdahmcaaGreatDoor
end

section
set_option maxHeartbeats 4000000
set_option maxRecDepth 100000
namespace Go.Proofs.YtfcicopgdahmcaaGreatDoor
open Go.RowKit
set_option linter.unusedSimpArgs false
set_option linter.unusedVariables false
set_option synthInstance.maxSize 2000
set_option synthInstance.maxHeartbeats 400000
theorem solve_reduced_lead_c {Fs : List Hp} {G : Hp} {p0 : Nat} {x0_0 : Int} {x0_1 : Int} {a0_2 : Option Addr} {k0_2 : Nat} {x0_2 : List (List Int)} {cc0_2 : List Value} {ee0_2 : List NE} {x0_3 : Int} {x0_4 : List Int} {x1 : Int} {r : ((List (List Int)) × Int × (List Int))} (hG : G ∈ Fs) (oo0_2 : NL ri G ee0_2 cc0_2 x0_2) (hnx0_4 : x0_4.length = 32) (h : solve_reduced_lead (x0_0, x0_1, x0_2, x0_3, x0_4) x1 = some r) : RetS Tryz.prog 201 #[.pointer (some ⟨p0, 0, none⟩), .int .i64 x1] Fs [(p0, .cells (([.int .i64 x0_0, .int .i64 x0_1, .slice a0_2 x0_2.length k0_2, .int .i64 x0_3] : List Value) ++ List.map (Value.int .i64) x0_4).toArray 286 (0, 0))] [.s (.slice a0_2 x0_2.length k0_2) 22 1 x0_2.length cc0_2, .g (packG 3 1 ee0_2)] (fun v bo so => ∃ le0 : List NE, ∃ lc0 : List Value, v = .tuple #[] ∧ bo = [(p0, .cells (([.int .i64 x0_0, .int .i64 x0_1, .slice a0_2 r.1.length k0_2, .int .i64 r.2.1] : List Value) ++ List.map (Value.int .i64) r.2.2).toArray 286 (0, 0))] ∧ so = [.s (.slice a0_2 r.1.length k0_2) 22 1 r.1.length lc0, .g (packG 3 1 le0)] ∧ NL ri G le0 lc0 r.1 ∧ r.1.length = x0_2.length ∧ r.2.2.length = 32) := by
 unfold solve_reduced_lead at h
 try dsimp only at h
 refine RetS.of (vs := [_, _]) Tryz.func201 rfl Tryz.ntmps201 [(0, _), (1, _)] ⟨rfl, rfl, trivial⟩ rfl hG fun w0 S0 hS0 B0 => ?_
 refine .seq (.region rfl (.mv rfl rfl (.q .ro (.nilCheck rfl rfl) rfl (.q .ro (.fieldAddr 3 rfl fl286_3 ty3.sz rfl) rfl (.q .ro (.load_own 0 rfl rfl ty3 rfl) rfl (.av rfl rfl (.re (.seq ?_))))))))
 refine .cutB (β := Unit) (fun y => []) [(0, _), (1, _), (4, _)] (fun y => G :: Fs) (fun y => []) [_] (fun y => []) [_, _] (fun y => (solve_reduced_lead_J6 x1 x0_3 x0_0 x0_4 x0_2)  = some r) ⟨rfl, rfl, rfl, trivial⟩ [0] rfl [0, 1] rfl ?_ ?_
 ·intro _ hI
  have r95 := hI; clear hI
  refine .prune [(0, _), (1, _), (4, _)] ⟨rfl, rfl, rfl, trivial⟩ (.same (bl' := [_]) (sl' := [_, _]) (Fs' := G :: Fs) rfl rfl rfl ?_)
  unfold solve_reduced_lead_J6 at r95
  try dsimp only at r95
  refine .seq (.seq (.region rfl (.mv rfl rfl (.mv rfl rfl (.q .ro (.nilCheck rfl rfl) rfl (.q .ro (.fieldAddr 2 rfl fl286_2 ty51.sz rfl) rfl (.q .ro (.load_own 0 rfl rfl ty51 rfl) rfl (.q .ro (.len_sl rfl rfl sl51) rfl (.q .ro (.eql rfl rfl) rfl (.re ?_))))))))))
  refine .cond_dec rfl (fun c10 => ?_) (fun c10 => ?_)
  ·have r11 := ifT r95 c10; clear r95
   exact absurd r11 (by simp)
  ·have r12 := ifF r95 c10; clear r95
   refine .skip (.seq ?_)
   refine .cutG (β := List (List Int) × List NE × List Value) (fun y => []) [(0, _), (1, _)] (fun y => G :: Fs) (fun y => [(p0, .cells (([.int .i64 x0_0, .int .i64 x0_1, .slice a0_2 y.1.length k0_2, .int .i64 x0_3] : List Value) ++ List.map (Value.int .i64) x0_4).toArray 286 (0, 0))]) [] (fun y => [.s (.slice a0_2 y.1.length k0_2) 22 1 y.1.length y.2.2, .g (packG 3 1 y.2.1)]) [] (fun y => NL ri G y.2.1 y.2.2 y.1 ∧ y.1.length = x0_2.length ∧ (solve_reduced_lead_J5 x1 x0_0 x0_3 x0_4) y.1 = some r) ⟨rfl, rfl, trivial⟩ [] rfl [] rfl ?_ ?_
   ·intro y hI
    obtain ⟨v13, es14, cs15⟩ := y
    obtain ⟨o16, hl17, r18⟩ := hI
    try dsimp only at o16 hl17 r18
    refine .prune [(0, _), (1, _)] ⟨rfl, rfl, trivial⟩ (.same (bl' := [(p0, .cells (([.int .i64 x0_0, .int .i64 x0_1, .slice a0_2 v13.length k0_2, .int .i64 x0_3] : List Value) ++ List.map (Value.int .i64) x0_4).toArray 286 (0, 0))]) (sl' := [.s (.slice a0_2 v13.length k0_2) 22 1 v13.length cs15, .g (packG 3 1 es14)]) (Fs' := G :: Fs) rfl rfl rfl ?_)
    unfold solve_reduced_lead_J5 at r18
    try dsimp only at r18
    refine .seq (.drawL (.q 0 (.q 1 (.q 2 (.q 3 (.q 4 (.q 5 (.q 6 (.q 7 (.e 8 1 (.e 9 1 (.q 10 .nil))))))))))) [_] (by kernel_rfl) (by kernel_rfl) (pick_mem [0] rfl) (.dq (.move rfl) rfl (.dq (.nilCheck rfl rfl) rfl (.dq (.fieldAddr 2 rfl fl286_2 ty51.sz rfl) rfl (.dq (.load_own 0 rfl rfl ty51 rfl) rfl (.dq (.move rfl) rfl (.dq (.nilCheck rfl rfl) rfl (.dq (.fieldAddr 3 rfl fl286_3 ty3.sz rfl) rfl (.dq (.load_own 0 rfl rfl ty3 rfl) rfl ?_)))))))))
    obtain ⟨u19, hu19, r20⟩ := bind_some r18
    obtain ⟨e21, he23, hn24, ho25, p26⟩ := NL.get o16 hu19
    refine .q .d1 (.idxO 0 rfl rfl rfl hu19 sl51 ty22.sz) rfl (.clsL (HpLe.refl _) (pick_mem [0] rfl) (.q .d1 (.loadO 0 0 rfl hu19 p26 rfl (.inl ⟨rfl, rfl⟩) ty22 rfl) rfl (.clsL (HpLe.refl _) (pick_mem [0] rfl) (.dq (.assign rfl) rfl (.draw_end (.seq (.drawL (.q 0 (.q 1 (.q 2 (.q 3 (.q 4 (.q 5 (.e 6 1 (.e 7 1 (.e 8 1 (.q 9 .nil)))))))))) [_] (by kernel_rfl) (by kernel_rfl) (pick_mem [0] rfl) (.dq (.move rfl) rfl (.dq (.nilCheck rfl rfl) rfl (.dq (.fieldAddr 0 rfl fl286_0 ty140.sz rfl) rfl (.dq (.load_own 0 rfl rfl ty140 rfl) rfl (.dq (.move rfl) rfl (.dq (.move rfl) rfl ?_)))))))))))))
    obtain ⟨u27, hu27, r28⟩ := bind_some r20
    obtain ⟨c29, p30, h31⟩ := OL.get ho25 hu27
    obtain rfl := h31
    refine .q .d1 (.inN 1 rfl he23 hn24 (.idxO (l := u19) 0 rfl rfl rfl hu27 sl22 ty3.sz)) rfl (.clsL (HpLe.refl _) (pick_mem [0] rfl) (.q .d1 (.inN 1 rfl he23 hn24 (.loadO (l := u19) 0 0 rfl hu27 p30 rfl (.inl ⟨rfl, rfl⟩) ty3 rfl)) rfl (.clsL (HpLe.refl _) (pick_mem [0] rfl) ?_)))
    obtain ⟨u32, hu32, r33⟩ := bind_some r28
    refine .callS (b1 := []) (b2 := [_]) (s1 := []) [_, _] [] .d1 rfl rfl Tryz.call197 rfl rfl (residue_Field_Inverse_c (G := G) mcs  hu32) rfl (fun v34 bo so h35 => ?_)
    obtain ⟨rfl, rfl, rfl⟩ := h35
    refine .same (bl' := [_]) (sl' := [_, _]) rfl rfl rfl (.clsL (HpLe.refl _) (pick_mem [0] rfl) (.dq (.assign rfl) rfl (.draw_end (.prune [(0, _), (1, _), (5, _), (6, _)] ⟨rfl, rfl, rfl, rfl, trivial⟩ (.seq (.seq (.region rfl (.mv rfl rfl (.q .ro (.len_sl rfl rfl sl22) rfl (.mv rfl rfl (.re ?_)))))))))))
    refine .cutB (β := List (List Int) × List NE × List Value) (fun y => []) [(0, _), (1, _), (5, _)] (fun y => G :: Fs) (fun y => [(p0, .cells (([.int .i64 x0_0, .int .i64 x0_1, .slice a0_2 y.1.length k0_2, .int .i64 x0_3] : List Value) ++ List.map (Value.int .i64) x0_4).toArray 286 (0, 0))]) [] (fun y => [.s (.slice a0_2 y.1.length k0_2) 22 1 y.1.length y.2.2, .g (packG 3 1 y.2.1)]) [] (fun y => NL ri G y.2.1 y.2.2 y.1 ∧ y.1.length = x0_2.length ∧ HD y.2.1 x0_3 e21.h ∧ (solve_reduced_lead_J3 x1 x0_3 x0_0 x0_4) y.1 = some r) ⟨rfl, rfl, rfl, trivial⟩ [] rfl [] rfl ?_ ?_
    ·intro y hI
     obtain ⟨v36, es37, cs38⟩ := y
     obtain ⟨o39, hl40, hd41, r42⟩ := hI
     try dsimp only at o39 hl40 hd41 r42
     refine .prune [(0, _), (1, _), (5, _)] ⟨rfl, rfl, rfl, trivial⟩ (.same (bl' := [(p0, .cells (([.int .i64 x0_0, .int .i64 x0_1, .slice a0_2 v36.length k0_2, .int .i64 x0_3] : List Value) ++ List.map (Value.int .i64) x0_4).toArray 286 (0, 0))]) (sl' := [.s (.slice a0_2 v36.length k0_2) 22 1 v36.length cs38, .g (packG 3 1 es37)]) (Fs' := G :: Fs) rfl rfl rfl ?_)
     unfold solve_reduced_lead_J3 at r42
     try dsimp only at r42
     refine .seq (.seq (.region rfl (.mv rfl rfl (.q .ro (.nilCheck rfl rfl) rfl (.q .ro (.fieldAddr 2 rfl fl286_2 ty51.sz rfl) rfl (.q .ro (.load_own 0 rfl rfl ty51 rfl) rfl (.q .ro (.len_sl rfl rfl sl51) rfl (.mv rfl rfl (.re ?_)))))))))
     refine .cutB (β := List (List Int) × List NE × List Value) (fun y => []) [(0, _), (1, _)] (fun y => G :: Fs) (fun y => [(p0, .cells (([.int .i64 x0_0, .int .i64 x0_1, .slice a0_2 y.1.length k0_2, .int .i64 x0_3] : List Value) ++ List.map (Value.int .i64) x0_4).toArray 286 (0, 0))]) [] (fun y => [.s (.slice a0_2 y.1.length k0_2) 22 1 y.1.length y.2.2, .g (packG 3 1 y.2.1)]) [] (fun y => NL ri G y.2.1 y.2.2 y.1 ∧ y.1.length = x0_2.length ∧ (solve_reduced_lead_J1 x1 x0_3 x0_4) y.1 = some r) ⟨rfl, rfl, trivial⟩ [] rfl [] rfl ?_ ?_
     ·intro y hI
      obtain ⟨v43, es44, cs45⟩ := y
      obtain ⟨o46, hl47, r48⟩ := hI
      try dsimp only at o46 hl47 r48
      refine .prune [(0, _), (1, _)] ⟨rfl, rfl, trivial⟩ (.same (bl' := [(p0, .cells (([.int .i64 x0_0, .int .i64 x0_1, .slice a0_2 v43.length k0_2, .int .i64 x0_3] : List Value) ++ List.map (Value.int .i64) x0_4).toArray 286 (0, 0))]) (sl' := [.s (.slice a0_2 v43.length k0_2) 22 1 v43.length cs45, .g (packG 3 1 es44)]) (Fs' := G :: Fs) rfl rfl rfl ?_)
      unfold solve_reduced_lead_J1 at r48
      try dsimp only at r48
      refine .seq (.region rfl (.mv rfl rfl (.q .ro (.nilCheck rfl rfl) rfl (.q .ro (.fieldAddr 3 rfl fl286_3 ty3.sz rfl) rfl (.q .ro (.load_own 0 rfl rfl ty3 rfl) rfl (.q .ro (.addw rfl rfl) rfl (.q .ro (.nilCheck rfl rfl) rfl (.q .ro (.fieldAddr 3 rfl fl286_3 ty3.sz rfl) rfl (.store 0 ([_, _, _, _] ++ List.map (Value.int .i64) x0_4) [_] .ro rfl rfl rfl ty3 rfl rfl rfl rfl (.re (.drawL (.q 0 (.q 1 (.q 2 (.q 3 (.q 4 (.q 5 (.q 6 (.q 7 (.q 8 (.e 9 2 .nil)))))))))) [_] (by kernel_rfl) (by kernel_rfl) (pick_mem [0] rfl) (.dq (.move rfl) rfl (.dq (.move rfl) rfl (.dq (.move rfl) rfl (.dq (.nilCheck rfl rfl) rfl (.dq (.fieldAddr 3 rfl fl286_3 ty3.sz rfl) rfl (.dq (.load_own 0 rfl rfl ty3 rfl) rfl (.dq (.nilCheck rfl rfl) rfl (.dq (.fieldAddr 4 rfl fl286_4 ty284.sz rfl) rfl ?_)))))))))))))))))))
      obtain ⟨u49, hu49, r50⟩ := bind_some r48
      refine .dq (.indexAddr_ar (4 + (x1).toNat) rfl rfl ar284 ty3.sz (lidx_some hu49).1 (lt_of_lt_of_len (lidx_some hu49).2.1 hnx0_4) (by rw [Nat.mul_one])) rfl ?_
      obtain ⟨u52, hu52, r53⟩ := bind_some r50
      refine .storeArr 0 (pre := [_, _, _, _]) (L := x0_4) (n := x1) .d2 rfl rfl rfl ty3 rfl hu52 (fun hl54 => ?_)
      refine .same (bl' := [(_, .cells ([_, _, _, _] ++ List.map (Value.int .i64) u52).toArray _ (0, 0))]) (sl' := [_, _]) rfl rfl rfl (.draw_end (.prune [] trivial ?_))
      cases r53
      refine .retS (.inl rfl) [] [] rfl Tryz.func201 Tryz.results201 trivial mcm ⟨es44, cs45, rfl, rfl, rfl, o46, hl47, (hl54.trans hnx0_4)⟩
     ·intro hb55
      refine .block (.pullS 1 rfl [_, _] rfl (.pullS 1 rfl [_, _] rfl ?_))
      refine .loop2 (α := Nat × List (List Int) × List (List Int) × List NE × List Value) (fun y => [(116, .slice a0_2 y.2.2.1.length k0_2), (118, .int .i64 (y.1 : Int))]) [(0, _), (1, _), (5, _), (117, _)] (fun y => []) (fun y => [(p0, .cells (([.int .i64 x0_0, .int .i64 x0_1, .slice a0_2 y.2.2.1.length k0_2, .int .i64 x0_3] : List Value) ++ List.map (Value.int .i64) x0_4).toArray 286 (0, 0))]) [] (fun y => [.s (.slice a0_2 y.2.2.1.length k0_2) 22 1 y.2.2.1.length y.2.2.2.2, .g (packG 3 1 y.2.2.2.1)]) [] (fun y => NL ri G y.2.2.2.1 y.2.2.2.2 y.2.2.1 ∧ y.2.2.1.length = x0_2.length ∧ HD y.2.2.2.1 x0_3 e21.h ∧ List.drop y.1 v36 = y.2.1 ∧ solve_reduced_lead_L2 (solve_reduced_lead_J1 x1 x0_3 x0_4) x1 x0_3 x0_0 y.2.1 y.1 y.2.2.1 = some r) (fun y => y.2.1.length) (0, v36, v36, es37, cs38) ⟨o39, hl40, hd41, rfl, r42⟩ ⟨rfl, rfl, rfl, rfl, rfl, rfl, trivial⟩ rfl rfl rfl (fun y hI hb56 => ?_)
      obtain ⟨i57, w58, v59, es60, cs61⟩ := y
      obtain ⟨o62, hl63, hd65, g66, r68⟩ := hI
      try dsimp only at o62 hl63 hd65 g66 r68
      refine .prune [(116, .slice a0_2 v59.length k0_2), (118, .int .i64 (i57 : Int)), (0, _), (1, _), (5, _), (117, _)] ⟨rfl, rfl, rfl, rfl, rfl, rfl, trivial⟩ (.same (bl' := [(p0, .cells (([.int .i64 x0_0, .int .i64 x0_1, .slice a0_2 v59.length k0_2, .int .i64 x0_3] : List Value) ++ List.map (Value.int .i64) x0_4).toArray 286 (0, 0))]) (sl' := [.s (.slice a0_2 v59.length k0_2) 22 1 v59.length cs61, .g (packG 3 1 es60)]) (Fs' := G :: Fs) rfl rfl rfl ?_)
      cases w58 with
      | nil =>
       rw [solve_reduced_lead_L2] at r68; try dsimp only at r68
       refine .seq (.region rfl (.q .ro (.lss rfl rfl) rfl (.re (.seq ?_))))
       refine .cond_dec rfl (fun c => absurd c (drop_nil g66)) (fun _ => ?_)
       refine .exit rfl ?_
       exact .arr (hb55 (v59, es60, cs61) ⟨o62, hl63, r68⟩) ⟨rfl, rfl, trivial⟩
      | cons x69 xs70 =>
       have r71 : solve_reduced_lead_B2 (solve_reduced_lead_J1 x1 x0_3 x0_4) x1 x0_3 x0_0 (solve_reduced_lead_L2 (solve_reduced_lead_J1 x1 x0_3 x0_4) x1 x0_3 x0_0 xs70 (i57 + 1)) x69 i57 v59 = some r := r68; clear r68; unfold solve_reduced_lead_B2 at r71; try dsimp only at r71
       refine .seq (.region rfl (.q .ro (.lss rfl rfl) rfl (.re (.seq ?_))))
       refine .cond_dec rfl (fun _ => ?_) (fun c => absurd (drop_lt g66) c)
       refine .skip (.seq (.block (.seq (.region rfl (.mv rfl rfl ?_)))))
       obtain ⟨u72, hu72, r73⟩ := bind_some r71
       obtain ⟨e74, he75, hn76, ho78, p79⟩ := NL.get o62 hu72
       refine .q .ro (.idxO 0 rfl rfl rfl hu72 sl51 ty22.sz) rfl (.q .ro (.loadO 0 0 rfl hu72 p79 rfl (.inl ⟨rfl, rfl⟩) ty22 rfl) rfl (.av rfl rfl (.av rfl rfl (.re (.seq (.region rfl (.mv rfl rfl (.mv rfl rfl (.q .ro (.nilCheck rfl rfl) rfl (.q .ro (.fieldAddr 3 rfl fl286_3 ty3.sz rfl) rfl (.q .ro (.load_own 0 rfl rfl ty3 rfl) rfl (.q .ro (.neq rfl rfl) rfl (.mv rfl rfl ?_)))))))))))))
       obtain ⟨u80, h81, r82⟩ := bind_some r73
       refine .cutR 6 (β := Unit) (fun y => [(135, .bool u80)]) [(116, _), (118, _), (0, _), (1, _), (5, _), (117, _), (10, _)] (fun y => G :: Fs) (fun y => []) [_] (fun y => []) [_, _] (fun y => True) ⟨rfl, rfl, rfl, rfl, rfl, rfl, rfl, trivial⟩ [0] rfl [0, 1] rfl ?_ ?_
       ·rintro _ _
        refine .prune [(135, .bool u80), (116, _), (118, _), (0, _), (1, _), (5, _), (117, _), (10, _)] ⟨rfl, rfl, rfl, rfl, rfl, rfl, rfl, rfl, trivial⟩ (.same (bl' := [_]) (sl' := [_, _]) (Fs' := G :: Fs) rfl rfl rfl (.re ?_))
        refine .cond rfl (fun c83 => ?_) (fun c83 => ?_)
        ·have r84 := ifT r82 c83; clear r82
         refine .drawL (.q 0 (.q 1 (.q 2 (.q 3 (.q 4 (.q 5 (.q 6 (.q 7 (.q 8 (.q 9 (.q 10 (.q 14 (.e 11 1 (.e 12 1 (.e 13 1 (.e 15 2 .nil)))))))))))))))) [_] (by kernel_rfl) (by kernel_rfl) (pick_mem [0] rfl) (.dq (.move rfl) rfl (.dq (.nilCheck rfl rfl) rfl (.dq (.fieldAddr 0 rfl fl286_0 ty140.sz rfl) rfl (.dq (.load_own 0 rfl rfl ty140 rfl) rfl (.dq (.move rfl) rfl (.dq (.move rfl) rfl (.dq (.nilCheck rfl rfl) rfl (.dq (.fieldAddr 0 rfl fl286_0 ty140.sz rfl) rfl (.dq (.load_own 0 rfl rfl ty140 rfl) rfl (.dq (.move rfl) rfl (.dq (.move rfl) rfl (.dq (.move rfl) rfl ?_))))))))))))
         obtain ⟨u85, hu85, r86⟩ := bind_some r84
         obtain ⟨c87, p88, h89⟩ := OL.get ho78 hu85
         obtain rfl := h89
         refine .q .d1 (.inN 1 rfl he75 hn76 (.idxO (l := u72) 0 rfl rfl rfl hu85 sl22 ty3.sz)) rfl (.clsL (HpLe.refl _) (pick_mem [0] rfl) (.q .d1 (.inN 1 rfl he75 hn76 (.loadO (l := u72) 0 0 rfl hu85 p88 rfl (.inl ⟨rfl, rfl⟩) ty3 rfl)) rfl (.clsL (HpLe.refl _) (pick_mem [0] rfl) ?_)))
         obtain ⟨u90, hu90, r91⟩ := bind_some r86
         refine .callS (b1 := []) (b2 := [_]) (s1 := []) [_, _, _] [] .d1 rfl rfl Tryz.call190 rfl rfl (residue_Field_Sub_c (G := G) mcs  hu90) rfl (fun v92 bo so h93 => ?_)
         obtain ⟨rfl, rfl, rfl⟩ := h93
         refine .same (bl' := [_]) (sl' := [_, _]) rfl rfl rfl (.clsL (HpLe.refl _) (pick_mem [0] rfl) ?_)
         obtain ⟨u94, hu94, r96⟩ := bind_some r91
         obtain ⟨e97, he98, hn99, ho100, p101, ea102, ek103, el104⟩ := NL.getH o62 hu94 hd65 hn24
         refine .takeN 1 rfl he98 hn99 (.revalV 150 (v' := .slice e97.a u94.length e97.k) (by rw [ea102, ek103, el104]) rfl ?_)
         obtain ⟨u105, hu105, r106⟩ := bind_some r96
         refine .takeN 2 rfl (NL.ne he75 (lidx_nn hu94) (lidx_nn hu72) (lne_some hu105)) hn76 ?_
         refine .toV 0 rfl (fun vb107 po108 va109 vb110 => ?_)
         obtain ⟨u111, hu111, r112⟩ := bind_some r106
         refine .pullS 1 rfl [_, _, _, _] rfl (.pullS 1 rfl [_, _, _, _] rfl ?_)
         refine .callB (Q := fun v bo so => ∃ lc0 : List Value, v = .tuple #[] ∧ bo = [] ∧ so = [.g (viewG vb107 3 [] lc0 po108)] ∧ OL ri G lc0 u111 ∧ u111.length = u72.length) (b1 := []) (b2 := [_]) (s1 := [_]) (sB := [_]) (s2 := [_, _]) [_, _, _, _] [] .d2 rfl rfl Tryz.call67 rfl rfl (fun Fs' G' hle hB hm => RetG.mono (residue_Field_AddTimes_c (G := G') hm va109 (OL.mono hle ho78) (SlR.rd ho100 rfl hle (hB _ (List.mem_of_getElem? (i := 0) rfl))) hu111) (fun v _ bo so h => by obtain ⟨l0c, e1, e2, e3, f0, f1⟩ := h; exact ⟨l0c, e1, e2, e3, OL.flat (Rep.flat_int _) f0, f1⟩)) rfl (fun v113 bo so h114 => ?_)
         obtain ⟨cs115, rfl, rfl, rfl, o116, hl117⟩ := h114
         refine .same (bl' := [_]) (sl' := [_, _, _, _]) rfl rfl rfl (.ofV 0 rfl vb110 hl117 o116 rfl ?_)
         obtain ⟨u118, hu118, r119⟩ := bind_some r112
         refine .backN2 1 2 (i := (i57 : Int)) (j := x0_3) rfl rfl rfl o62 he75 he98 (lidx_nn hu72) (lidx_nn hu94) (Ne.symm (lne_some hu105)) (Eq.trans hl117 hn76.symm) o116 hu118 (fun es120 hles120 o121 hmes120 he122 => ?_)
         refine .reval 116 hles120 rfl (.recell 0 (([_, _, .slice a0_2 u118.length k0_2, _] : List Value) ++ List.map (Value.int .i64) x0_4) rfl (by rw [hles120]) [_] rfl (.backS 1 (i := x0_3) (e := e97) rfl rfl he122 hn99 (.draw_end (.prune [(116, _), (118, _), (0, _), (1, _), (5, _), (117, _)] ⟨rfl, rfl, rfl, rfl, rfl, rfl, trivial⟩ (.inBlock (.region rfl (.q .ro (.addw rfl rfl) rfl (.mv rfl rfl (.re ?_)))))))))
         exact .arr (hb56 ((i57 + 1), xs70, u118, es120, cs61) ⟨o121, (hles120.trans hl63), (HD.of hmes120 hd65), (drop_succ g66), r119⟩ (Nat.lt_succ_self _)) ⟨rfl, (congrArg (fun z => some (Value.int .i64 z)) (idx_wrap (NL.len' o39) g66)), rfl, rfl, rfl, rfl, trivial⟩
        ·have r123 := ifBF r82 c83; clear r82
         refine .skip (.inBlock (.region rfl (.q .ro (.addw rfl rfl) rfl (.mv rfl rfl (.re ?_)))))
         exact .arr (hb56 ((i57 + 1), xs70, v59, es60, cs61) ⟨o62, hl63, hd65, (drop_succ g66), r123⟩ (Nat.lt_succ_self _)) ⟨rfl, (congrArg (fun z => some (Value.int .i64 z)) (idx_wrap (NL.len' o39) g66)), rfl, rfl, rfl, rfl, trivial⟩
       ·intro hb124
        refine .split 129 rfl (fun c125 => ?_) (fun c125 => ?_)
        ·have r126 := ifT h81 c125
         refine .g_on rfl (.mv rfl rfl (.g_on rfl (.mv rfl rfl (.g_on rfl ?_))))
         obtain ⟨u127, hu127, r128⟩ := bind_some r126
         obtain ⟨c129, p130, h131⟩ := OL.get ho78 hu127
         obtain rfl := h131
         refine .q .ro (.inN 1 rfl he75 hn76 (.idxO (l := u72) 0 rfl rfl rfl hu127 sl22 ty3.sz)) rfl (.g_on rfl (.q .ro (.inN 1 rfl he75 hn76 (.loadO (l := u72) 0 0 rfl hu127 p130 rfl (.inl ⟨rfl, rfl⟩) ty3 rfl)) rfl (.g_on rfl (.q .ro (.neq rfl rfl) rfl (.q .ro (.pick_t rfl rfl) rfl ?_)))))
         exact .arr (hb124 () trivial) ⟨sval r128, rfl, rfl, rfl, rfl, rfl, rfl, rfl, trivial⟩
        ·have r132 := ifF h81 c125
         refine .g_off rfl rfl rfl (.g_off rfl rfl rfl (.g_off rfl rfl rfl (.g_off rfl rfl rfl (.g_off rfl rfl rfl (.q .ro (.pick_f rfl rfl) rfl ?_)))))
         exact .arr (hb124 () trivial) ⟨sval r132, rfl, rfl, rfl, rfl, rfl, rfl, rfl, trivial⟩
    ·intro hb133
     refine .block (.pullS 1 rfl [_, _] rfl (.pullS 1 rfl [_, _] rfl ?_))
     refine .loop2 (α := Nat × List Int × List (List Int) × List NE × List Value) (fun y => [(97, .int .i64 (y.1 : Int))]) [(0, _), (1, _), (5, _), (6, _), (95, _), (96, _)] (fun y => []) (fun y => [(p0, .cells (([.int .i64 x0_0, .int .i64 x0_1, .slice a0_2 y.2.2.1.length k0_2, .int .i64 x0_3] : List Value) ++ List.map (Value.int .i64) x0_4).toArray 286 (0, 0))]) [] (fun y => [.s (.slice a0_2 y.2.2.1.length k0_2) 22 1 y.2.2.1.length y.2.2.2.2, .g (packG 3 1 y.2.2.2.1)]) [] (fun y => NL ri G y.2.2.2.1 y.2.2.2.2 y.2.2.1 ∧ y.2.2.1.length = x0_2.length ∧ HD y.2.2.2.1 x0_3 e21.h ∧ HD y.2.2.2.1 x0_3 e21.h ∧ List.drop y.1 u19 = y.2.1 ∧ solve_reduced_lead_L4 (solve_reduced_lead_J3 x1 x0_3 x0_0 x0_4) x0_3 u32 x0_0 y.2.1 y.1 y.2.2.1 = some r) (fun y => y.2.1.length) (0, u19, v13, es14, cs15) ⟨o16, hl17, (HD.mk he23), (HD.mk he23), rfl, r33⟩ ⟨rfl, rfl, rfl, rfl, rfl, rfl, rfl, trivial⟩ rfl rfl rfl (fun y hI hb134 => ?_)
     obtain ⟨i135, w136, v137, es138, cs139⟩ := y
     obtain ⟨o141, hl142, hd143, hd144, g145, r146⟩ := hI
     try dsimp only at o141 hl142 hd143 hd144 g145 r146
     refine .prune [(97, .int .i64 (i135 : Int)), (0, _), (1, _), (5, _), (6, _), (95, _), (96, _)] ⟨rfl, rfl, rfl, rfl, rfl, rfl, rfl, trivial⟩ (.same (bl' := [(p0, .cells (([.int .i64 x0_0, .int .i64 x0_1, .slice a0_2 v137.length k0_2, .int .i64 x0_3] : List Value) ++ List.map (Value.int .i64) x0_4).toArray 286 (0, 0))]) (sl' := [.s (.slice a0_2 v137.length k0_2) 22 1 v137.length cs139, .g (packG 3 1 es138)]) (Fs' := G :: Fs) rfl rfl rfl ?_)
     cases w136 with
     | nil =>
      rw [solve_reduced_lead_L4] at r146; try dsimp only at r146
      refine .seq (.region rfl (.q .ro (.lss rfl rfl) rfl (.re (.seq ?_))))
      refine .cond_dec rfl (fun c => absurd c (drop_nil g145)) (fun _ => ?_)
      refine .exit rfl ?_
      exact .arr (hb133 (v137, es138, cs139) ⟨o141, hl142, hd143, r146⟩) ⟨rfl, rfl, rfl, trivial⟩
     | cons x147 xs148 =>
      have r149 : solve_reduced_lead_B4 (solve_reduced_lead_J3 x1 x0_3 x0_0 x0_4) x0_3 u32 x0_0 (solve_reduced_lead_L4 (solve_reduced_lead_J3 x1 x0_3 x0_0 x0_4) x0_3 u32 x0_0 xs148 (i135 + 1)) x147 i135 v137 = some r := r146; clear r146; unfold solve_reduced_lead_B4 at r149; try dsimp only at r149
      refine .seq (.region rfl (.q .ro (.lss rfl rfl) rfl (.re (.seq ?_))))
      refine .cond_dec rfl (fun _ => ?_) (fun c => absurd (drop_lt g145) c)
      refine .skip (.seq (.block (.seq (.region rfl (.mv rfl rfl ?_)))))
      obtain ⟨u150, hu150, r151⟩ := bind_some r149
      obtain ⟨e152, he153, hn154, ho155, p156, ea157, ek158, el159⟩ := NL.getH o141 hu150 hd144 hn24
      obtain ⟨u160, hu160, r161⟩ := bind_some r151
      obtain ⟨c162, p163, h164⟩ := OL.get ho155 hu160
      obtain rfl := h164
      refine .q .ro (.idxNH 1 (l := u150) rfl he153 hn154 ea157 ek158 el159 rfl rfl hu160 sl22 ty3.sz) rfl (.q .ro (.inN 1 rfl he153 hn154 (.loadO (l := u150) 0 0 rfl hu160 p163 rfl (.inl ⟨rfl, rfl⟩) ty3 rfl)) rfl (.av rfl rfl (.av rfl rfl (.re (.region rfl (.mv rfl rfl (.mv rfl rfl (.mv rfl rfl (.q .ro (.nilCheck rfl rfl) rfl (.q .ro (.fieldAddr 0 rfl fl286_0 ty140.sz rfl) rfl (.q .ro (.load_own 0 rfl rfl ty140 rfl) rfl (.mv rfl rfl (.mv rfl rfl ?_)))))))))))))
      obtain ⟨u165, hu165, r166⟩ := bind_some r161
      refine .callS (b1 := []) (b2 := [_]) (s1 := []) [_, _, _] [] .ro rfl rfl Tryz.call77 rfl rfl (residue_Field_Mul_c (G := G) mcs  hu165) rfl (fun v167 bo so h168 => ?_)
      obtain ⟨rfl, rfl, rfl⟩ := h168
      refine .same (bl' := [_]) (sl' := [_, _]) rfl rfl rfl ?_
      obtain ⟨u169, hu169, r170⟩ := bind_some r166
      obtain ⟨e171, he172, hn173, ho174, p175, ea176, ek177, el178⟩ := NL.getH o141 hu169 hd143 hn24
      obtain ⟨u179, hu179, r180⟩ := bind_some r170
      obtain ⟨c181, p182, h183⟩ := OL.get ho174 hu179
      obtain rfl := h183
      refine .q .ro (.idxNH 1 (l := u169) rfl he172 hn173 ea176 ek177 el178 rfl rfl hu179 sl22 ty3.sz) rfl (.takeN 1 rfl he172 hn173 ?_)
      obtain ⟨u184, hu184, r185⟩ := bind_some r180
      refine .storeR 0 0 (Q := ri) .ro rfl rfl ho174 hu184 rfl (.inl ⟨rfl, rfl⟩) rfl ty3 p182 ((Rep.intI .i64 u165) :) rfl rfl (fun cs186 hlcs186 o187 => ?_)
      obtain ⟨u188, hu188, r189⟩ := bind_some r185
      refine .backN 0 1 rfl rfl rfl o141 he172 (Eq.trans hlcs186 hn173.symm) o187 hu188 (fun es191 hles191 o192 hmes191 => ?_)
      refine .recell 0 (([_, _, .slice a0_2 u188.length k0_2, _] : List Value) ++ List.map (Value.int .i64) x0_4) rfl (by rw [hles191]) [_] rfl (.re (.prune [(97, _), (0, _), (1, _), (5, _), (6, _), (95, _), (96, _)] ⟨rfl, rfl, rfl, rfl, rfl, rfl, rfl, trivial⟩ (.inBlock (.region rfl (.q .ro (.addw rfl rfl) rfl (.mv rfl rfl (.re ?_)))))))
      exact .arr (hb134 ((i135 + 1), xs148, u188, es191, cs139) ⟨o192, (hles191.trans hl142), (HD.of hmes191 hd143), (HD.of hmes191 hd144), (drop_succ g145), r189⟩ (Nat.lt_succ_self _)) ⟨(congrArg (fun z => some (Value.int .i64 z)) (idx_wrap (OL.len' ho25) g145)), rfl, rfl, rfl, rfl, rfl, rfl, trivial⟩
   ·intro hb193
    refine .drawL (.q 0 (.q 1 (.q 2 (.q 3 (.q 4 (.q 5 (.q 6 (.q 7 (.q 8 (.q 9 (.q 10 (.q 11 (.q 12 (.q 13 (.q 14 (.q 15 (.q 16 (.q 17 (.q 20 (.q 21 (.q 22 (.q 23 (.q 24 (.q 25 (.q 26 (.q 27 (.alt (.e 18 1 (.alt (.e 19 1 (.e 28 1 (.e 29 1 (.e 30 1 (.e 31 1 (.e 32 2 (.e 33 2 .nil))))))) (.e 28 1 (.alt (.e 19 1 (.e 29 1 (.e 30 1 (.e 31 1 (.e 32 2 (.e 33 2 .nil)))))) (.e 29 1 (.e 19 1 (.e 30 1 (.e 31 1 (.e 32 2 (.e 33 2 .nil)))))))))) (.e 28 1 (.alt (.e 18 1 (.alt (.e 19 1 (.e 29 1 (.e 30 1 (.e 31 1 (.e 32 2 (.e 33 2 .nil)))))) (.e 29 1 (.e 19 1 (.e 30 1 (.e 31 1 (.e 32 2 (.e 33 2 .nil)))))))) (.e 29 1 (.e 18 1 (.e 19 1 (.e 30 1 (.e 31 1 (.e 32 2 (.e 33 2 .nil)))))))))))))))))))))))))))))))))))) [_] (by kernel_rfl) (by kernel_rfl) (pick_mem [0] rfl) ?_
    obtain ⟨u194, hu194, r195⟩ := bind_some r12
    obtain ⟨u196, hu196, r198⟩ := bind_some r195
    obtain ⟨u199, hu199, r200⟩ := bind_some r198
    obtain ⟨u202, hu202, r203⟩ := bind_some r200
    obtain ⟨u204, hu204, r205⟩ := bind_some r203
    obtain ⟨u206, hu206, r207⟩ := bind_some r205
    refine .dq (.move rfl) rfl (.dq (.nilCheck rfl rfl) rfl (.dq (.fieldAddr 2 rfl fl286_2 ty51.sz rfl) rfl (.dq (.load_own 0 rfl rfl ty51 rfl) rfl (.dq (.move rfl) rfl (.dq (.nilCheck rfl rfl) rfl (.dq (.fieldAddr 3 rfl fl286_3 ty3.sz rfl) rfl (.dq (.load_own 0 rfl rfl ty3 rfl) rfl (.dq (.move rfl) rfl (.dq (.nilCheck rfl rfl) rfl (.dq (.fieldAddr 2 rfl fl286_2 ty51.sz rfl) rfl (.dq (.load_own 0 rfl rfl ty51 rfl) rfl (.dq (.move rfl) rfl (.dq (.move rfl) rfl (.dq (.nilCheck rfl rfl) rfl (.dq (.fieldAddr 2 rfl fl286_2 ty51.sz rfl) rfl (.dq (.load_own 0 rfl rfl ty51 rfl) rfl (.dq (.move rfl) rfl (.dq (.move rfl) rfl (.dq (.nilCheck rfl rfl) rfl (.dq (.fieldAddr 2 rfl fl286_2 ty51.sz rfl) rfl (.dq (.load_own 0 rfl rfl ty51 rfl) rfl (.dq (.move rfl) rfl (.dq (.nilCheck rfl rfl) rfl (.dq (.fieldAddr 3 rfl fl286_3 ty3.sz rfl) rfl (.dq (.load_own 0 rfl rfl ty3 rfl) rfl ?_)))))))))))))))))))))))))
    refine .alt ?_ ?_
    ·obtain ⟨e208, he209, hn210, ho211, p212⟩ := NL.get oo0_2 hu194
     refine .q .d1 (.idxO 0 rfl rfl rfl hu194 sl51 ty22.sz) rfl (.clsL (HpLe.refl _) (pick_mem [0] rfl) ?_)
     refine .alt ?_ ?_
     ·refine .q .d1 (.loadO 0 0 rfl hu194 p212 rfl (.inl ⟨rfl, rfl⟩) ty22 rfl) rfl ?_
      refine .clsL (HpLe.refl _) (pick_mem [0] rfl) ?_
      obtain ⟨e213, he214, hn215, ho216, p217⟩ := NL.get oo0_2 hu196
      refine .q .d1 (.idxO 0 rfl rfl rfl hu196 sl51 ty22.sz) rfl (.clsL (HpLe.refl _) (pick_mem [0] rfl) (.q .d1 (.loadO 0 0 rfl hu196 p217 rfl (.inl ⟨rfl, rfl⟩) ty22 rfl) rfl (.clsL (HpLe.refl _) (pick_mem [0] rfl) ?_)))
      obtain ⟨e218, he219, hn220, ho221, p222⟩ := NL.get oo0_2 hu199
      refine .q .d1 (.idxO 0 rfl rfl rfl hu199 sl51 ty22.sz) rfl (.clsL (HpLe.refl _) (pick_mem [0] rfl) ?_)
      refine .swap1 0 (Q := ri) (ej := e208) .d1 rfl oo0_2 hu199 hn210 rfl (.inl ⟨rfl, rfl⟩) rfl ty22 (fun cs223 o224 => ?_)
      refine .clsL (HpLe.refl _) (pick_mem [0] rfl) (.q .d2 (.idxO 0 (l := x0_2) rfl rfl rfl hu202 sl51 ty22.sz) rfl ?_)
      refine .swap2 0 1 (Q := ri) (i := x0_3) (j := x0_3) .d2 rfl rfl oo0_2 o224 hu196 hu194 he214 he209 hn215 hu204 hu206 rfl (.inl ⟨rfl, rfl⟩) rfl ty22 rfl (fun es225 cs226 hlcs226 o227 => ?_)
      refine .reval 41 hlcs226 rfl (.reval 47 hlcs226 rfl (.reval 55 hlcs226 rfl (.reval 60 hlcs226 rfl (.reval 67 hlcs226 rfl (.recell 0 (([_, _, .slice a0_2 u206.length k0_2, _] : List Value) ++ List.map (Value.int .i64) x0_4) rfl (by rw [hlcs226]) [_] rfl (.draw_end (.prune [(0, _), (1, _)] ⟨rfl, rfl, trivial⟩ ?_)))))))
      exact .arr (hb193 (u206, es225, cs226) ⟨o227, hlcs226, r207⟩) ⟨rfl, rfl, trivial⟩
     ·obtain ⟨e228, he229, hn230, ho231, p232⟩ := NL.get oo0_2 hu196
      refine .q .d1 (.idxO 0 rfl rfl rfl hu196 sl51 ty22.sz) rfl (.clsL (HpLe.refl _) (pick_mem [0] rfl) ?_)
      refine .alt ?_ ?_
      ·refine .q .d1 (.loadO 0 0 rfl hu194 p212 rfl (.inl ⟨rfl, rfl⟩) ty22 rfl) rfl ?_
       refine .clsL (HpLe.refl _) (pick_mem [0] rfl) (.q .d1 (.loadO 0 0 rfl hu196 p232 rfl (.inl ⟨rfl, rfl⟩) ty22 rfl) rfl (.clsL (HpLe.refl _) (pick_mem [0] rfl) ?_))
       obtain ⟨e233, he234, hn235, ho236, p237⟩ := NL.get oo0_2 hu199
       refine .q .d1 (.idxO 0 rfl rfl rfl hu199 sl51 ty22.sz) rfl (.clsL (HpLe.refl _) (pick_mem [0] rfl) ?_)
       refine .swap1 0 (Q := ri) (ej := e208) .d1 rfl oo0_2 hu199 hn210 rfl (.inl ⟨rfl, rfl⟩) rfl ty22 (fun cs238 o239 => ?_)
       refine .clsL (HpLe.refl _) (pick_mem [0] rfl) (.q .d2 (.idxO 0 (l := x0_2) rfl rfl rfl hu202 sl51 ty22.sz) rfl ?_)
       refine .swap2 0 1 (Q := ri) (i := x0_3) (j := x0_3) .d2 rfl rfl oo0_2 o239 hu196 hu194 he229 he209 hn230 hu204 hu206 rfl (.inl ⟨rfl, rfl⟩) rfl ty22 rfl (fun es240 cs241 hlcs241 o242 => ?_)
       refine .reval 41 hlcs241 rfl (.reval 47 hlcs241 rfl (.reval 55 hlcs241 rfl (.reval 60 hlcs241 rfl (.reval 67 hlcs241 rfl (.recell 0 (([_, _, .slice a0_2 u206.length k0_2, _] : List Value) ++ List.map (Value.int .i64) x0_4) rfl (by rw [hlcs241]) [_] rfl (.draw_end (.prune [(0, _), (1, _)] ⟨rfl, rfl, trivial⟩ ?_)))))))
       exact .arr (hb193 (u206, es240, cs241) ⟨o242, hlcs241, r207⟩) ⟨rfl, rfl, trivial⟩
      ·refine .q .d1 (.loadO 0 0 rfl hu196 p232 rfl (.inl ⟨rfl, rfl⟩) ty22 rfl) rfl ?_
       refine .clsL (HpLe.refl _) (pick_mem [0] rfl) (.q .d1 (.loadO 0 0 rfl hu194 p212 rfl (.inl ⟨rfl, rfl⟩) ty22 rfl) rfl (.clsL (HpLe.refl _) (pick_mem [0] rfl) ?_))
       obtain ⟨e243, he244, hn245, ho246, p247⟩ := NL.get oo0_2 hu199
       refine .q .d1 (.idxO 0 rfl rfl rfl hu199 sl51 ty22.sz) rfl (.clsL (HpLe.refl _) (pick_mem [0] rfl) ?_)
       refine .swap1 0 (Q := ri) (ej := e208) .d1 rfl oo0_2 hu199 hn210 rfl (.inl ⟨rfl, rfl⟩) rfl ty22 (fun cs248 o249 => ?_)
       refine .clsL (HpLe.refl _) (pick_mem [0] rfl) (.q .d2 (.idxO 0 (l := x0_2) rfl rfl rfl hu202 sl51 ty22.sz) rfl ?_)
       refine .swap2 0 1 (Q := ri) (i := x0_3) (j := x0_3) .d2 rfl rfl oo0_2 o249 hu196 hu194 he229 he209 hn230 hu204 hu206 rfl (.inl ⟨rfl, rfl⟩) rfl ty22 rfl (fun es250 cs251 hlcs251 o252 => ?_)
       refine .reval 41 hlcs251 rfl (.reval 47 hlcs251 rfl (.reval 55 hlcs251 rfl (.reval 60 hlcs251 rfl (.reval 67 hlcs251 rfl (.recell 0 (([_, _, .slice a0_2 u206.length k0_2, _] : List Value) ++ List.map (Value.int .i64) x0_4) rfl (by rw [hlcs251]) [_] rfl (.draw_end (.prune [(0, _), (1, _)] ⟨rfl, rfl, trivial⟩ ?_)))))))
       exact .arr (hb193 (u206, es250, cs251) ⟨o252, hlcs251, r207⟩) ⟨rfl, rfl, trivial⟩
    ·obtain ⟨e253, he254, hn255, ho256, p257⟩ := NL.get oo0_2 hu196
     refine .q .d1 (.idxO 0 rfl rfl rfl hu196 sl51 ty22.sz) rfl (.clsL (HpLe.refl _) (pick_mem [0] rfl) ?_)
     refine .alt ?_ ?_
     ·obtain ⟨e258, he259, hn260, ho261, p262⟩ := NL.get oo0_2 hu194
      refine .q .d1 (.idxO 0 rfl rfl rfl hu194 sl51 ty22.sz) rfl (.clsL (HpLe.refl _) (pick_mem [0] rfl) ?_)
      refine .alt ?_ ?_
      ·refine .q .d1 (.loadO 0 0 rfl hu194 p262 rfl (.inl ⟨rfl, rfl⟩) ty22 rfl) rfl ?_
       refine .clsL (HpLe.refl _) (pick_mem [0] rfl) (.q .d1 (.loadO 0 0 rfl hu196 p257 rfl (.inl ⟨rfl, rfl⟩) ty22 rfl) rfl (.clsL (HpLe.refl _) (pick_mem [0] rfl) ?_))
       obtain ⟨e263, he264, hn265, ho266, p267⟩ := NL.get oo0_2 hu199
       refine .q .d1 (.idxO 0 rfl rfl rfl hu199 sl51 ty22.sz) rfl (.clsL (HpLe.refl _) (pick_mem [0] rfl) ?_)
       refine .swap1 0 (Q := ri) (ej := e258) .d1 rfl oo0_2 hu199 hn260 rfl (.inl ⟨rfl, rfl⟩) rfl ty22 (fun cs268 o269 => ?_)
       refine .clsL (HpLe.refl _) (pick_mem [0] rfl) (.q .d2 (.idxO 0 (l := x0_2) rfl rfl rfl hu202 sl51 ty22.sz) rfl ?_)
       refine .swap2 0 1 (Q := ri) (i := x0_3) (j := x0_3) .d2 rfl rfl oo0_2 o269 hu196 hu194 he254 he259 hn255 hu204 hu206 rfl (.inl ⟨rfl, rfl⟩) rfl ty22 rfl (fun es270 cs271 hlcs271 o272 => ?_)
       refine .reval 41 hlcs271 rfl (.reval 47 hlcs271 rfl (.reval 55 hlcs271 rfl (.reval 60 hlcs271 rfl (.reval 67 hlcs271 rfl (.recell 0 (([_, _, .slice a0_2 u206.length k0_2, _] : List Value) ++ List.map (Value.int .i64) x0_4) rfl (by rw [hlcs271]) [_] rfl (.draw_end (.prune [(0, _), (1, _)] ⟨rfl, rfl, trivial⟩ ?_)))))))
       exact .arr (hb193 (u206, es270, cs271) ⟨o272, hlcs271, r207⟩) ⟨rfl, rfl, trivial⟩
      ·refine .q .d1 (.loadO 0 0 rfl hu196 p257 rfl (.inl ⟨rfl, rfl⟩) ty22 rfl) rfl ?_
       refine .clsL (HpLe.refl _) (pick_mem [0] rfl) (.q .d1 (.loadO 0 0 rfl hu194 p262 rfl (.inl ⟨rfl, rfl⟩) ty22 rfl) rfl (.clsL (HpLe.refl _) (pick_mem [0] rfl) ?_))
       obtain ⟨e273, he274, hn275, ho276, p277⟩ := NL.get oo0_2 hu199
       refine .q .d1 (.idxO 0 rfl rfl rfl hu199 sl51 ty22.sz) rfl (.clsL (HpLe.refl _) (pick_mem [0] rfl) ?_)
       refine .swap1 0 (Q := ri) (ej := e258) .d1 rfl oo0_2 hu199 hn260 rfl (.inl ⟨rfl, rfl⟩) rfl ty22 (fun cs278 o279 => ?_)
       refine .clsL (HpLe.refl _) (pick_mem [0] rfl) (.q .d2 (.idxO 0 (l := x0_2) rfl rfl rfl hu202 sl51 ty22.sz) rfl ?_)
       refine .swap2 0 1 (Q := ri) (i := x0_3) (j := x0_3) .d2 rfl rfl oo0_2 o279 hu196 hu194 he254 he259 hn255 hu204 hu206 rfl (.inl ⟨rfl, rfl⟩) rfl ty22 rfl (fun es280 cs281 hlcs281 o282 => ?_)
       refine .reval 41 hlcs281 rfl (.reval 47 hlcs281 rfl (.reval 55 hlcs281 rfl (.reval 60 hlcs281 rfl (.reval 67 hlcs281 rfl (.recell 0 (([_, _, .slice a0_2 u206.length k0_2, _] : List Value) ++ List.map (Value.int .i64) x0_4) rfl (by rw [hlcs281]) [_] rfl (.draw_end (.prune [(0, _), (1, _)] ⟨rfl, rfl, trivial⟩ ?_)))))))
       exact .arr (hb193 (u206, es280, cs281) ⟨o282, hlcs281, r207⟩) ⟨rfl, rfl, trivial⟩
     ·refine .q .d1 (.loadO 0 0 rfl hu196 p257 rfl (.inl ⟨rfl, rfl⟩) ty22 rfl) rfl ?_
      refine .clsL (HpLe.refl _) (pick_mem [0] rfl) ?_
      obtain ⟨e283, he285, hn287, ho288, p289⟩ := NL.get oo0_2 hu194
      refine .q .d1 (.idxO 0 rfl rfl rfl hu194 sl51 ty22.sz) rfl (.clsL (HpLe.refl _) (pick_mem [0] rfl) (.q .d1 (.loadO 0 0 rfl hu194 p289 rfl (.inl ⟨rfl, rfl⟩) ty22 rfl) rfl (.clsL (HpLe.refl _) (pick_mem [0] rfl) ?_)))
      obtain ⟨e290, he291, hn292, ho293, p294⟩ := NL.get oo0_2 hu199
      refine .q .d1 (.idxO 0 rfl rfl rfl hu199 sl51 ty22.sz) rfl (.clsL (HpLe.refl _) (pick_mem [0] rfl) ?_)
      refine .swap1 0 (Q := ri) (ej := e283) .d1 rfl oo0_2 hu199 hn287 rfl (.inl ⟨rfl, rfl⟩) rfl ty22 (fun cs295 o296 => ?_)
      refine .clsL (HpLe.refl _) (pick_mem [0] rfl) (.q .d2 (.idxO 0 (l := x0_2) rfl rfl rfl hu202 sl51 ty22.sz) rfl ?_)
      refine .swap2 0 1 (Q := ri) (i := x0_3) (j := x0_3) .d2 rfl rfl oo0_2 o296 hu196 hu194 he254 he285 hn255 hu204 hu206 rfl (.inl ⟨rfl, rfl⟩) rfl ty22 rfl (fun es297 cs298 hlcs298 o299 => ?_)
      refine .reval 41 hlcs298 rfl (.reval 47 hlcs298 rfl (.reval 55 hlcs298 rfl (.reval 60 hlcs298 rfl (.reval 67 hlcs298 rfl (.recell 0 (([_, _, .slice a0_2 u206.length k0_2, _] : List Value) ++ List.map (Value.int .i64) x0_4) rfl (by rw [hlcs298]) [_] rfl (.draw_end (.prune [(0, _), (1, _)] ⟨rfl, rfl, trivial⟩ ?_)))))))
      exact .arr (hb193 (u206, es297, cs298) ⟨o299, hlcs298, r207⟩) ⟨rfl, rfl, trivial⟩
 ·intro hb300
  refine .block ?_
  refine .loop2 (α := Nat) (fun y => []) [(0, _), (1, _), (4, _)] (fun y => []) (fun y => []) [_] (fun y => []) [_, _] (fun y => solve_reduced_lead_L7 (solve_reduced_lead_J6 x1 x0_3 x0_0 x0_4 x0_2) x1 x0_3 x0_2 y  = some r) (fun y => y) (big) h ⟨rfl, rfl, rfl, trivial⟩ rfl rfl rfl (fun n301 hI hb302 => ?_)
  have r303 := hI; clear hI
  refine .prune [(0, _), (1, _), (4, _)] ⟨rfl, rfl, rfl, trivial⟩ (.same (bl' := [_]) (sl' := [_, _]) (Fs' := G :: Fs) rfl rfl rfl ?_)
  obtain ⟨m304, rfl⟩ : ∃ m, n301 = m + 1 := by cases n301 with | zero => exact absurd (show (none : Option _) = some _ from r303) (by simp) | succ m => exact ⟨m, rfl⟩
  have r305 : solve_reduced_lead_B7 (solve_reduced_lead_J6 x1 x0_3 x0_0 x0_4 x0_2) x1 x0_3 x0_2 (solve_reduced_lead_L7 (solve_reduced_lead_J6 x1 x0_3 x0_0 x0_4 x0_2) x1 x0_3 x0_2 m304)  = some r := r303; clear r303; unfold solve_reduced_lead_B7 at r305; try dsimp only at r305
  refine .seq (.seq (.region rfl (.mv rfl rfl (.mv rfl rfl (.q .ro (.nilCheck rfl rfl) rfl (.q .ro (.fieldAddr 2 rfl fl286_2 ty51.sz rfl) rfl (.q .ro (.load_own 0 rfl rfl ty51 rfl) rfl (.q .ro (.len_sl rfl rfl sl51) rfl (.q .ro (.lss rfl rfl) rfl (.mv rfl rfl ?_))))))))))
  obtain ⟨u306, h307, r308⟩ := bind_some r305
  refine .cutR 12 (β := Unit) (fun y => [(34, .bool u306)]) [(0, _), (1, _), (4, _)] (fun y => G :: Fs) (fun y => []) [_] (fun y => []) [_, _] (fun y => True) ⟨rfl, rfl, rfl, trivial⟩ [0] rfl [0, 1] rfl ?_ ?_
  ·rintro _ _
   refine .prune [(34, .bool u306), (0, _), (1, _), (4, _)] ⟨rfl, rfl, rfl, rfl, trivial⟩ (.same (bl' := [_]) (sl' := [_, _]) (Fs' := G :: Fs) rfl rfl rfl (.re ?_))
   refine .cond rfl (fun c309 => ?_) (fun c309 => ?_)
   ·have r310 := ifT r308 c309; clear r308
    exact absurd r310 (by simp)
   ·have r311 := ifBF r308 c309; clear r308
    refine .exit rfl ?_
    exact .arr (hb300 () r311) ⟨rfl, rfl, rfl, trivial⟩
  ·intro hb312
   refine .split 22 rfl (fun c313 => ?_) (fun c313 => ?_)
   ·have r314 := ifT h307 c313
    refine .g_on rfl (.mv rfl rfl (.g_on rfl (.q .ro (.nilCheck rfl rfl) rfl (.g_on rfl (.q .ro (.fieldAddr 2 rfl fl286_2 ty51.sz rfl) rfl (.g_on rfl (.q .ro (.load_own 0 rfl rfl ty51 rfl) rfl (.g_on rfl (.mv rfl rfl (.g_on rfl ?_))))))))))
    obtain ⟨u315, hu315, r316⟩ := bind_some r314
    obtain ⟨e317, he318, hn319, ho320, p321⟩ := NL.get oo0_2 hu315
    refine .q .ro (.idxO 0 rfl rfl rfl hu315 sl51 ty22.sz) rfl (.g_on rfl (.q .ro (.loadO 0 0 rfl hu315 p321 rfl (.inl ⟨rfl, rfl⟩) ty22 rfl) rfl (.g_on rfl (.mv rfl rfl (.g_on rfl ?_)))))
    obtain ⟨u322, hu322, r323⟩ := bind_some r316
    obtain ⟨c324, p325, h326⟩ := OL.get ho320 hu322
    obtain rfl := h326
    refine .q .ro (.inN 1 rfl he318 hn319 (.idxO (l := u315) 0 rfl rfl rfl hu322 sl22 ty3.sz)) rfl (.g_on rfl (.q .ro (.inN 1 rfl he318 hn319 (.loadO (l := u315) 0 0 rfl hu322 p325 rfl (.inl ⟨rfl, rfl⟩) ty3 rfl)) rfl (.g_on rfl (.q .ro (.eql rfl rfl) rfl (.q .ro (.pick_t rfl rfl) rfl ?_)))))
    exact .arr (hb312 () trivial) ⟨sval r323, rfl, rfl, rfl, trivial⟩
   ·have r327 := ifF h307 c313
    refine .g_off rfl rfl rfl (.g_off rfl rfl rfl (.g_off rfl rfl rfl (.g_off rfl rfl rfl (.g_off rfl rfl rfl (.g_off rfl rfl rfl (.g_off rfl rfl rfl (.g_off rfl rfl rfl (.g_off rfl rfl rfl (.g_off rfl rfl rfl (.g_off rfl rfl rfl (.q .ro (.pick_f rfl rfl) rfl ?_)))))))))))
    exact .arr (hb312 () trivial) ⟨sval r327, rfl, rfl, rfl, trivial⟩
theorem solve_reduce_c {Fs : List Hp} {G : Hp} {x0_0 : Int} {x0_1 : Int} {x0_2 : Int} {a0_3 : Option Addr} {k0_3 : Nat} {x0_3 : List Int} {a0_4 : Option Addr} {k0_4 : Nat} {x0_4 : List Int} {r : (Int × Int × (List (List Int)) × Int × (List Int))} (hG : G ∈ Fs) (s0_3 : SlR ri G a0_3 k0_3 x0_3) (s0_4 : SlR ri G a0_4 k0_4 x0_4) (h : solve_reduce (x0_0, x0_1, x0_2, x0_3, x0_4) = some r) : RetW Tryz.prog 192 #[.agg #[.int .i64 x0_0, .int .i64 x0_1, .int .i64 x0_2, .slice a0_3 x0_3.length k0_3, .slice a0_4 x0_4.length k0_4]] Fs [] [] (fun v bo so G => ∃ a0 : Option Addr, ∃ k0 : Nat, ∃ b0 : Nat, v = .pointer (some ⟨b0, 0, none⟩) ∧ bo = [(b0, .cells (([.int .i64 r.1, .int .i64 r.2.1, .slice a0 r.2.2.1.length k0, .int .i64 r.2.2.2.1] : List Value) ++ List.map (Value.int .i64) r.2.2.2.2).toArray 286 (0, 0))] ∧ so = [] ∧ SlR (Rep.sl ri) G a0 k0 r.2.2.1 ∧ r.2.2.2.2.length = 32) := by
 unfold solve_reduce at h
 try dsimp only at h
 refine RetW.of (vs := [_]) Tryz.func192 rfl Tryz.ntmps192 [(0, _)] ⟨rfl, trivial⟩ rfl hG fun w0 S0 hS0 B0 => ?_
 refine .seq (.region rfl ?_)
 refine .box [_, _, _, _, _] .ro rfl rfl rfl (fun b1 hb1 => ?_)
 refine .av rfl rfl (.re (.seq (.region rfl (.q .ro (.fieldAddr 0 rfl fl256_0 ty45.sz rfl) rfl (.q .ro (.fieldAddr 0 rfl fl45_0 ty3.sz rfl) rfl (.q .ro (.load_own 0 rfl rfl ty3 rfl) rfl (.q .ro (.fieldAddr 2 rfl fl256_2 ty3.sz rfl) rfl (.q .ro (.load_own 0 rfl rfl ty3 rfl) rfl (.q .ro (.build [_, _, _, _, _, _, _, _, _, _, _, _, _, _, _, _, _, _, _, _, _, _, _, _, _, _, _, _, _, _, _, _, _, _, _, _] [(0, _), (1, _)] ty286 pl286 rfl rfl) rfl ?_)))))))))
 refine .box [_, _, _, _, _, _, _, _, _, _, _, _, _, _, _, _, _, _, _, _, _, _, _, _, _, _, _, _, _, _, _, _, _, _, _, _] .ro rfl rfl rfl (fun b2 hb2 => ?_)
 refine .recell 0 ([_, _, _, _] ++ List.map (Value.int .i64) (List.replicate 32 (0 : Int))) rfl rfl [_, _] rfl (.av rfl rfl (.re (.seq (.seq (.region rfl (.q .ro (.fieldAddr 1 rfl fl256_1 ty3.sz rfl) rfl (.q .ro (.load_own 1 rfl rfl ty3 rfl) rfl (.mv rfl rfl (.re ?_)))))))))
 refine .cutB (β := Int × Int × List (List Int) × Option Addr × Nat × List NE × List Value × Int × List Int × Int × Int × Int) (fun y => []) [(1, _), (3, _)] (fun y => G :: Fs) (fun y => [(b2, .cells (([.int .i64 y.1, .int .i64 y.2.1, .slice y.2.2.2.1 y.2.2.1.length y.2.2.2.2.1, .int .i64 y.2.2.2.2.2.2.2.1] : List Value) ++ List.map (Value.int .i64) y.2.2.2.2.2.2.2.2.1).toArray 286 (0, 0)), (b1, .cells #[.int .i64 y.2.2.2.2.2.2.2.2.2.1, .int .i64 y.2.2.2.2.2.2.2.2.2.2.1, .int .i64 y.2.2.2.2.2.2.2.2.2.2.2, .slice a0_3 x0_3.length k0_3, .slice a0_4 x0_4.length k0_4] 256 (0, 0))]) [] (fun y => [.s (.slice y.2.2.2.1 y.2.2.1.length y.2.2.2.2.1) 22 1 y.2.2.1.length y.2.2.2.2.2.2.1, .g (packG 3 1 y.2.2.2.2.2.1)]) [] (fun y => NL ri G y.2.2.2.2.2.1 y.2.2.2.2.2.2.1 y.2.2.1 ∧ y.2.2.2.2.2.2.2.2.1.length = 32 ∧ solve_reduce_J2 y.1 y.2.1 y.2.2.1 y.2.2.2.2.2.2.2.1 y.2.2.2.2.2.2.2.2.1 y.2.2.2.2.2.2.2.2.2.1 y.2.2.2.2.2.2.2.2.2.2.1 y.2.2.2.2.2.2.2.2.2.2.2 = some r) ⟨rfl, rfl, trivial⟩ [] rfl [] rfl ?_ ?_
 ·intro y hI
  obtain ⟨v10, v11, v12, a13, k14, es15, cs16, v17, v18, v19, v20, v21⟩ := y
  obtain ⟨o23, hl24, r25⟩ := hI
  try dsimp only at o23 hl24 r25
  refine .prune [(1, _), (3, _)] ⟨rfl, rfl, trivial⟩ (.same (bl' := [(b2, .cells (([.int .i64 v10, .int .i64 v11, .slice a13 v12.length k14, .int .i64 v17] : List Value) ++ List.map (Value.int .i64) v18).toArray 286 (0, 0)), (b1, .cells #[.int .i64 v19, .int .i64 v20, .int .i64 v21, .slice a0_3 x0_3.length k0_3, .slice a0_4 x0_4.length k0_4] 256 (0, 0))]) (sl' := [.s (.slice a13 v12.length k14) 22 1 v12.length cs16, .g (packG 3 1 es15)]) (Fs' := G :: Fs) rfl rfl rfl ?_)
  unfold solve_reduce_J2 at r25
  try dsimp only at r25
  refine .seq (.seq (.region rfl (.q .ro (.fieldAddr 2 rfl fl256_2 ty3.sz rfl) rfl (.q .ro (.load_own 1 rfl rfl ty3 rfl) rfl (.mv rfl rfl (.re (.block (.pullS 1 rfl [_, _] rfl (.pullS 1 rfl [_, _] rfl ?_)))))))))
  refine .loop2 (α := Nat × Int × List (List Int) × List NE × List Value × Int × List Int) (fun y => [(52, .int .i64 y.2.1)]) [(3, _), (51, _)] (fun y => []) (fun y => [(b2, .cells (([.int .i64 v10, .int .i64 v11, .slice a13 y.2.2.1.length k14, .int .i64 y.2.2.2.2.2.1] : List Value) ++ List.map (Value.int .i64) y.2.2.2.2.2.2).toArray 286 (0, 0))]) [_] (fun y => [.s (.slice a13 y.2.2.1.length k14) 22 1 y.2.2.1.length y.2.2.2.2.1, .g (packG 3 1 y.2.2.2.1)]) [] (fun y => NL ri G y.2.2.2.1 y.2.2.2.2.1 y.2.2.1 ∧ y.2.2.1.length = v12.length ∧ y.2.2.2.2.2.2.length = 32 ∧ solve_reduce_L1 v21 v10 v11 y.1 y.2.1 y.2.2.1 y.2.2.2.2.2.1 y.2.2.2.2.2.2 = some r) (fun y => y.1) (big, 0, v12, es15, cs16, v17, v18) ⟨o23, rfl, hl24, r25⟩ ⟨rfl, rfl, rfl, trivial⟩ rfl rfl rfl (fun y hI hb26 => ?_)
  obtain ⟨n27, v28, v29, es30, cs31, v32, v33⟩ := y
  obtain ⟨o34, hl35, hl36, r37⟩ := hI
  try dsimp only at o34 hl35 hl36 r37
  refine .prune [(52, .int .i64 v28), (3, _), (51, _)] ⟨rfl, rfl, rfl, trivial⟩ (.same (bl' := [(b2, .cells (([.int .i64 v10, .int .i64 v11, .slice a13 v29.length k14, .int .i64 v32] : List Value) ++ List.map (Value.int .i64) v33).toArray 286 (0, 0)), _]) (sl' := [.s (.slice a13 v29.length k14) 22 1 v29.length cs31, .g (packG 3 1 es30)]) (Fs' := G :: Fs) rfl rfl rfl ?_)
  obtain ⟨m38, rfl⟩ : ∃ m, n27 = m + 1 := by cases n27 with | zero => exact absurd (show (none : Option _) = some _ from r37) (by simp) | succ m => exact ⟨m, rfl⟩
  have r39 : solve_reduce_B1 v21 v10 v11 (solve_reduce_L1 v21 v10 v11 m38) v28 v29 v32 v33 = some r := r37; clear r37; unfold solve_reduce_B1 at r39; try dsimp only at r39
  refine .seq (.region rfl (.q .ro (.lss rfl rfl) rfl (.re (.seq ?_))))
  refine .cond_dec rfl (fun c40 => ?_) (fun c40 => ?_)
  ·have r41 := ifT r39 c40; clear r39
   refine .skip (.seq (.block (.seq (.region rfl (.mv rfl rfl (.av rfl rfl (.re (.region rfl (.mv rfl rfl (.mv rfl rfl ?_))))))))))
   obtain ⟨u42, hu42, r43⟩ := bind_some r41
   refine .pullS 1 rfl [_, _] rfl (.pullS 1 rfl [_, _] rfl ?_)
   refine .callS (b1 := [_]) (b2 := [_]) (s1 := [_, _]) [_, _] [] .ro rfl rfl Tryz.call201 rfl rfl (solve_reduced_lead_c (G := G) mcs o34 hl36 hu42) rfl (fun v44 bo so h46 => ?_)
   obtain ⟨es47, cs48, rfl, rfl, rfl, o49, hl50, hl52⟩ := h46
   refine .same (bl' := [_, _]) (sl' := [_, _]) rfl rfl rfl (.recell 0 (([_, _, .slice a13 u42.1.length k14, _] : List Value) ++ List.map (Value.int .i64) u42.2.2) rfl (by rw [hl50]) [_, _] rfl (.re (.inBlock (.region rfl (.q .ro (.addw rfl rfl) rfl (.mv rfl rfl (.re ?_)))))))
   exact .arr (hb26 (m38, (w64 (v28 + 1)), u42.1, es47, cs48, u42.2.1, u42.2.2) ⟨o49, (hl50.trans hl35), hl52, r43⟩ (Nat.lt_succ_self _)) ⟨rfl, rfl, rfl, trivial⟩
  ·have r53 := ifF r39 c40; clear r39
   refine .exit rfl (.seq (.region rfl (.mv rfl rfl (.av rfl rfl (.re (.pullS 1 rfl [_, _] rfl (.pullS 1 rfl [_, _] rfl ?_)))))))
   refine .freezeN (Q := ri) rfl o34 rfl B0 (fun G54 e55 B56 s57 => ?_)
   cases r53
   refine .pull 1 rfl [_, _] rfl (.drop 1 0 [_] _ rfl rfl ?_)
   refine .retW (.inr ⟨_, rfl⟩) [.tmp 2] [_] rfl Tryz.func192 Tryz.results192 ⟨RV.tmp rfl, trivial⟩ mcm mcs B56 (by subst hS0; simp [blks]) (fun G' hg => ⟨a13, k14, _, rfl, rfl, rfl, (SlR.mono hg s57), hl36⟩)
 ·intro hb58
  refine .block (.packE 3 1 (.own_nil 22 1 (.pullS 1 rfl [_, _] rfl (.pullS 1 rfl [_, _] rfl ?_))))
  refine .loop2 (α := Nat × Int × List (List Int) × Option Addr × Nat × List NE × List Value) (fun y => [(16, .int .i64 y.2.1)]) [(1, _), (3, _), (15, _)] (fun y => []) (fun y => [(b2, .cells (([.int .i64 x0_0, .int .i64 x0_2, .slice y.2.2.2.1 y.2.2.1.length y.2.2.2.2.1, .int .i64 0] : List Value) ++ List.map (Value.int .i64) (List.replicate 32 (0 : Int))).toArray 286 (0, 0))]) [_] (fun y => [.s (.slice y.2.2.2.1 y.2.2.1.length y.2.2.2.2.1) 22 1 y.2.2.1.length y.2.2.2.2.2.2, .g (packG 3 1 y.2.2.2.2.2.1)]) [] (fun y => NL ri G y.2.2.2.2.2.1 y.2.2.2.2.2.2 y.2.2.1 ∧ solve_reduce_L3 solve_reduce_J2 x0_1 x0_0 x0_2 (List.replicate 32 (0 : Int)) x0_3 x0_4 y.1 y.2.1 y.2.2.1 = some r) (fun y => y.1) (big, 0, ([] : List (List Int)), none, 0, [], []) ⟨(NL.nil (Q := ri)), h⟩ ⟨rfl, rfl, rfl, rfl, trivial⟩ rfl rfl rfl (fun y hI hb59 => ?_)
  obtain ⟨n60, v61, v62, a63, k65, es66, cs67⟩ := y
  obtain ⟨o68, r69⟩ := hI
  try dsimp only at o68 r69
  refine .prune [(16, .int .i64 v61), (1, _), (3, _), (15, _)] ⟨rfl, rfl, rfl, rfl, trivial⟩ (.same (bl' := [(b2, .cells (([.int .i64 x0_0, .int .i64 x0_2, .slice a63 v62.length k65, .int .i64 0] : List Value) ++ List.map (Value.int .i64) (List.replicate 32 (0 : Int))).toArray 286 (0, 0)), _]) (sl' := [.s (.slice a63 v62.length k65) 22 1 v62.length cs67, .g (packG 3 1 es66)]) (Fs' := G :: Fs) rfl rfl rfl ?_)
  obtain ⟨m70, rfl⟩ : ∃ m, n60 = m + 1 := by cases n60 with | zero => exact absurd (show (none : Option _) = some _ from r69) (by simp) | succ m => exact ⟨m, rfl⟩
  have r71 : solve_reduce_B3 solve_reduce_J2 x0_1 x0_0 x0_2 (List.replicate 32 (0 : Int)) x0_3 x0_4 (solve_reduce_L3 solve_reduce_J2 x0_1 x0_0 x0_2 (List.replicate 32 (0 : Int)) x0_3 x0_4 m70) v61 v62 = some r := r69; clear r69; unfold solve_reduce_B3 at r71; try dsimp only at r71
  refine .seq (.region rfl (.q .ro (.lss rfl rfl) rfl (.re (.seq ?_))))
  refine .cond_dec rfl (fun c72 => ?_) (fun c72 => ?_)
  ·have r73 := ifT r71 c72; clear r71
   refine .skip (.seq (.block (.seq (.region rfl (.mv rfl rfl (.av rfl rfl (.re (.seq (.region rfl (.q .ro (.fieldAddr 3 rfl fl256_3 ty22.sz rfl) rfl (.q .ro (.load_own 1 rfl rfl ty22 rfl) rfl (.mv rfl rfl (.q .ro (.fieldAddr 2 rfl fl256_2 ty3.sz rfl) rfl (.q .ro (.load_own 1 rfl rfl ty3 rfl) rfl (.q .ro (.mulw rfl rfl) rfl (.mv rfl rfl (.q .ro (.addw rfl rfl) rfl (.q .ro (.fieldAddr 2 rfl fl256_2 ty3.sz rfl) rfl (.q .ro (.load_own 1 rfl rfl ty3 rfl) rfl (.q .ro (.mulw rfl rfl) rfl ?_))))))))))))))))))))
   obtain ⟨u74, hu74, r75⟩ := bind_some r73
   obtain ⟨a76, k77, h78, s79⟩ := SlR.sub s0_3 hu74
   refine .q .ro (.sliceR s0_3 rfl hu74 sl22 ty3.sz (fun h => .yes' rfl h) (fun h => .yes' rfl h) h78) rfl (.own_nil 3 1 ?_)
   obtain ⟨u80, hu80, r81⟩ := bind_some r75
   refine .appR (Q := ri) 0 .ro sl22 ty3 rfl rfl rfl rfl rfl (OL.nil (Rp' := ri)) rfl rfl s79 rfl mcs hu80 rfl (fun a82 k83 cs84 o85 => ?_)
   refine .av rfl rfl (.re (.prune [(16, _), (1, _), (3, _), (15, _), (4, _), (5, _)] ⟨rfl, rfl, rfl, rfl, rfl, rfl, trivial⟩ (.drawL (.q 0 (.q 1 (.q 2 (.q 3 (.q 4 (.q 5 (.q 6 (.q 7 (.q 8 (.q 9 (.q 10 (.e 11 1 (.e 12 1 (.e 13 1 (.e 14 1 (.q 15 (.q 16 (.e 17 2 .nil)))))))))))))))))) [_, _] (by kernel_rfl) (by kernel_rfl) (pick_mem [0, 1] rfl) (.dq (.move rfl) rfl (.dq (.move rfl) rfl (.dq (.nilCheck rfl rfl) rfl (.dq (.fieldAddr 2 rfl fl286_2 ty51.sz rfl) rfl (.dq (.load_own 0 rfl rfl ty51 rfl) rfl (.dq (.move rfl) rfl (.dq (.fieldAddr 4 rfl fl256_4 ty22.sz rfl) rfl (.dq (.load_own 1 rfl rfl ty22 rfl) rfl (.dq (.move rfl) rfl ?_))))))))))))
   obtain ⟨u86, hu86, r87⟩ := bind_some r81
   obtain ⟨c88, p89, h90⟩ := SlR.get s0_4 hu86
   obtain rfl := h90
   refine .dq (.idxR s0_4 rfl rfl hu86 sl22 ty3.sz) rfl (.dq (.load_rp p89 mcs rfl ty3 rfl) rfl ?_)
   refine .lit [_] [(0, _)] .d1 sl22 ty3 rfl rfl rfl rfl rfl rfl (fun b91 hb91 => ?_)
   have o92 : OL ri G [.int .i64 u86] ([u86] : List Int) := ((OL.cons rfl (Rep.intI .i64 u86) (OL.nil (Rp' := ri))) :)
   refine .reval 43 (n' := ([u86] : List Int).length) rfl rfl (.clsL (HpLe.refl _) (pick_mem [0, 1] rfl) ?_)
   obtain ⟨u93, hu93, r94⟩ := bind_some r87
   refine .appO (Q := ri) 0 .d1 sl22 ty3 rfl rfl rfl rfl rfl rfl o85 o92 rfl rfl rfl B0 hu93 rfl (fun a95 k96 cs97 o98 => ?_)
   refine .clsL (HpLe.refl _) (pick_mem [0, 1] rfl) ?_
   refine .lit [_] [(0, _)] .d1 sl51 ty22 rfl rfl rfl rfl rfl rfl (fun b99 hb99 => ?_)
   refine .pullS 1 rfl [_, _, _, _] rfl (.pack1 rfl ?_)
   have o100 : NL ri G [⟨a95, u93.length, k96, cs97⟩] [.slice a95 u93.length k96] ([u93] : List (List Int)) := (NL.one o98 :)
   refine .reval 45 (n' := ([u93] : List (List Int)).length) rfl rfl (.clsL (HpLe.refl _) (pick_mem [0, 1] rfl) ?_)
   obtain ⟨u101, hu101, r102⟩ := bind_some r94
   refine .pullS 1 rfl [_, _, _, _] rfl ?_
   refine .appN 0 1 (Q := ri) .d1 sl51 ty22 rfl rfl rfl rfl rfl rfl o68 o100 rfl rfl hu101 rfl B0 (fun a103 k104 cs105 o106 => ?_)
   refine .clsL (HpLe.refl _) (pick_mem [0, 1] rfl) (.dq (.nilCheck rfl rfl) rfl (.dq (.fieldAddr 2 rfl fl286_2 ty51.sz rfl) rfl (.store 0 ([_, _, _, _] ++ List.map (Value.int .i64) (List.replicate 32 (0 : Int))) [_, _] .d2 rfl rfl rfl ty51 rfl rfl rfl rfl (.draw_end (.prune [(16, _), (1, _), (3, _), (15, _)] ⟨rfl, rfl, rfl, rfl, trivial⟩ (.inBlock (.region rfl (.q .ro (.addw rfl rfl) rfl (.mv rfl rfl (.re ?_))))))))))
   exact .arr (hb59 (m70, (w64 (v61 + 1)), u101, a103, k104, (es66 ++ [⟨a95, u93.length, k96, cs97⟩]), cs105) ⟨o106, r102⟩ (Nat.lt_succ_self _)) (by exact ⟨rfl, rfl, rfl, rfl, trivial⟩)
  ·have r107 := ifF r71 c72; clear r71
   refine .exit rfl ?_
   exact .arr (hb58 (x0_0, x0_2, v62, a63, k65, es66, cs67, 0, (List.replicate 32 (0 : Int)), x0_0, x0_1, x0_2) ⟨o68, rfl, r107⟩) ⟨rfl, rfl, trivial⟩
theorem solve_reduced_solvable_c {Fs : List Hp} {G : Hp} {p0 : Nat} {x0_0 : Int} {x0_1 : Int} {a0_2 : Option Addr} {k0_2 : Nat} {x0_2 : List (List Int)} {x0_3 : Int} {x0_4 : List Int} {r : Bool} (hG : G ∈ Fs) (s0_2 : SlR (Rep.sl ri) G a0_2 k0_2 x0_2) (hnx0_4 : x0_4.length = 32) (h : solve_reduced_solvable (x0_0, x0_1, x0_2, x0_3, x0_4) = some r) : RetS Tryz.prog 193 #[.pointer (some ⟨p0, 0, none⟩)] Fs [(p0, .cells (([.int .i64 x0_0, .int .i64 x0_1, .slice a0_2 x0_2.length k0_2, .int .i64 x0_3] : List Value) ++ List.map (Value.int .i64) x0_4).toArray 286 (0, 0))] [] (fun v bo so => v = .bool r ∧ bo = [(p0, .cells (([.int .i64 x0_0, .int .i64 x0_1, .slice a0_2 x0_2.length k0_2, .int .i64 x0_3] : List Value) ++ List.map (Value.int .i64) x0_4).toArray 286 (0, 0))] ∧ so = []) := by
 unfold solve_reduced_solvable at h
 try dsimp only at h
 refine RetS.of (vs := [_]) Tryz.func193 rfl Tryz.ntmps193 [(0, _)] ⟨rfl, trivial⟩ rfl hG fun w0 S0 hS0 B0 => ?_
 refine .seq (.region rfl (.av rfl rfl (.re (.seq (.seq (.drawL (.q 0 (.q 1 (.q 2 (.q 3 (.q 4 (.q 5 (.q 6 (.q 7 (.q 8 (.q 9 (.q 10 .nil))))))))))) [_] (by kernel_rfl) (by kernel_rfl) (pick_mem [0] rfl) (.dq (.move rfl) rfl (.dq (.nilCheck rfl rfl) rfl (.dq (.fieldAddr 2 rfl fl286_2 ty51.sz rfl) rfl (.dq (.load_own 0 rfl rfl ty51 rfl) rfl (.dq (.move rfl) rfl (.dq (.nilCheck rfl rfl) rfl (.dq (.fieldAddr 3 rfl fl286_3 ty3.sz rfl) rfl (.dq (.load_own 0 rfl rfl ty3 rfl) rfl ?_))))))))))))))
 obtain ⟨u1, hu1, r2⟩ := bind_some h
 obtain ⟨a3, k4, h5, s6⟩ := SlR.sub s0_2 hu1
 refine .dq (.sliceR s0_2 rfl hu1 sl51 ty22.sz (fun h => .yes' rfl h) (fun _ => .no) h5) rfl (.dq (.len_sl rfl rfl sl51) rfl (.dq (.move rfl) rfl (.draw_end (.block ?_))))
 refine .loop2 (α := Nat × List (List Int)) (fun y => [(15, .int .i64 (y.1 : Int))]) [(0, _), (13, _), (14, _)] (fun y => []) (fun y => []) [_] (fun y => []) [] (fun y => List.drop y.1 u1 = y.2 ∧ solve_reduced_solvable_L1 x0_1 y.2  = some r) (fun y => y.2.length) (0, u1) ⟨rfl, r2⟩ ⟨rfl, rfl, rfl, rfl, trivial⟩ rfl rfl rfl (fun y hI hb38 => ?_)
 obtain ⟨i34, w35⟩ := y
 obtain ⟨g36, r37⟩ := hI
 try dsimp only at g36 r37
 refine .prune [(15, .int .i64 (i34 : Int)), (0, _), (13, _), (14, _)] ⟨rfl, rfl, rfl, rfl, trivial⟩ (.same (bl' := [_]) (sl' := []) (Fs' := G :: Fs) rfl rfl rfl ?_)
 cases w35 with
 | nil =>
  rw [solve_reduced_solvable_L1] at r37; try dsimp only at r37
  refine .seq (.region rfl (.q .ro (.lss rfl rfl) rfl (.re (.seq ?_))))
  refine .cond_dec rfl (fun c => absurd c (drop_nil g36)) (fun _ => ?_)
  refine .exit rfl (.seq (.region rfl (.av rfl rfl (.re ?_))))
  cases r37
  refine .retS (.inr ⟨_, rfl⟩) [.tmp 2] [_] rfl Tryz.func193 Tryz.results193 ⟨RV.tmp rfl, trivial⟩ mcm ⟨rfl, rfl, rfl⟩
 | cons x47 xs48 =>
  have r46 : solve_reduced_solvable_B1 x0_1 (solve_reduced_solvable_L1 x0_1 xs48) x47  = some r := r37; clear r37; unfold solve_reduced_solvable_B1 at r46; try dsimp only at r46
  refine .seq (.region rfl (.q .ro (.lss rfl rfl) rfl (.re (.seq ?_))))
  refine .cond_dec rfl (fun _ => ?_) (fun c => absurd (drop_lt g36) c)
  refine .skip (.seq (.block (.seq (.region rfl ?_))))
  obtain ⟨c49, p50, h51⟩ := SlR.get s6 (drop_idx g36)
  obtain ⟨a52, k53, rfl, s54⟩ := h51
  refine .q .ro (.idxR s6 rfl rfl (drop_idx g36) sl51 ty22.sz) rfl (.q .ro (.load_rp p50 mcs rfl ty22 rfl) rfl (.av rfl rfl (.re (.seq (.region rfl (.mv rfl rfl (.mv rfl rfl (.q .ro (.nilCheck rfl rfl) rfl (.q .ro (.fieldAddr 1 rfl fl286_1 ty3.sz rfl) rfl (.q .ro (.load_own 0 rfl rfl ty3 rfl) rfl ?_))))))))))
  obtain ⟨u55, hu55, r56⟩ := bind_some r46
  obtain ⟨c57, p58, h59⟩ := SlR.get s54 hu55
  obtain rfl := h59
  refine .q .ro (.idxR s54 rfl rfl hu55 sl22 ty3.sz) rfl (.q .ro (.load_rp p58 mcs rfl ty3 rfl) rfl (.q .ro (.neq rfl rfl) rfl (.re ?_)))
  refine .cond_dec rfl (fun c60 => ?_) (fun c60 => ?_)
  ·have r61 := ifT r56 c60; clear r56
   refine .seq (.region rfl (.av rfl rfl (.re (.prune [(2, _)] ⟨rfl, trivial⟩ ?_))))
   cases r61
   refine .retS (.inr ⟨_, rfl⟩) [.tmp 2] [_] rfl Tryz.func193 Tryz.results193 ⟨RV.tmp rfl, trivial⟩ mcm ⟨rfl, rfl, rfl⟩
  ·have r62 := ifF r56 c60; clear r56
   refine .skip (.inBlock (.region rfl (.q .ro (.addw rfl rfl) rfl (.mv rfl rfl (.re (.prune [(15, _), (0, _), (13, _), (14, _)] ⟨rfl, rfl, rfl, rfl, trivial⟩ ?_))))))
   exact .arr (hb38 ((i34 + 1), xs48) ⟨(drop_succ g36), r62⟩ (Nat.lt_succ_self _)) ⟨(congrArg (fun z => some (Value.int .i64 z)) (idx_wrap (SlR.len s6) g36)), rfl, rfl, rfl, trivial⟩
theorem solve_Solve_c {Fs : List Hp} {G : Hp} {x0_0 : Int} {x0_1 : Int} {x0_2 : Int} {a0_3 : Option Addr} {k0_3 : Nat} {x0_3 : List Int} {a0_4 : Option Addr} {k0_4 : Nat} {x0_4 : List Int} {r : ((List Int) × Int)} (hG : G ∈ Fs) (s0_3 : SlR ri G a0_3 k0_3 x0_3) (s0_4 : SlR ri G a0_4 k0_4 x0_4) (h : solve_Solve (x0_0, x0_1, x0_2, x0_3, x0_4) = some r) : RetS Tryz.prog 175 #[.agg #[.int .i64 x0_0, .int .i64 x0_1, .int .i64 x0_2, .slice a0_3 x0_3.length k0_3, .slice a0_4 x0_4.length k0_4]] Fs [] [] (fun v bo so => ∃ (oa0 : Option Addr) (ok0 : Nat) (oc0 : List Value), v = .tuple #[.slice oa0 r.1.length ok0, .int .i64 r.2] ∧ bo = [] ∧ so = [.s (.slice oa0 r.1.length ok0) 3 1 r.1.length oc0] ∧ OL ri G oc0 r.1) := by
 unfold solve_Solve at h
 try dsimp only at h
 refine RetS.of (vs := [_]) Tryz.func175 rfl Tryz.ntmps175 [(0, _)] ⟨rfl, trivial⟩ rfl hG fun w0 S0 hS0 B0 => ?_
 refine .seq (.region rfl ?_)
 refine .box [_, _, _, _, _] .ro rfl rfl rfl (fun b1 hb1 => ?_)
 refine .av rfl rfl (.av rfl rfl (.re (.seq (.seq (.region rfl (.q .ro (.load_own_a 0 [_, _, _, _, _] rfl rfl ty256 rfl) rfl ?_))))))
 obtain ⟨u2, hu2, r3⟩ := bind_some h
 refine .callS (b1 := []) (b2 := [_]) (s1 := []) [_] [] .ro rfl rfl Tryz.call191 rfl rfl (solve_Check_c (G := G) mcs s0_3 s0_4 hu2) rfl (fun v5 bo so h4 => ?_)
 obtain ⟨rfl, rfl, rfl⟩ := h4
 refine .same (bl' := [_]) (sl' := []) rfl rfl rfl (.av rfl rfl (.re (.seq (.region rfl (.mv rfl rfl (.q .ro (.neq rfl rfl) rfl (.re ?_)))))))
 refine .cond_dec rfl (fun c6 => ?_) (fun c6 => ?_)
 ·have r7 := ifT r3 c6; clear r3
  exact absurd r7 (by simp)
 ·have r8 := ifF r3 c6; clear r3
  refine .skip (.seq (.region rfl (.q .ro (.load_own_a 0 [_, _, _, _, _] rfl rfl ty256 rfl) rfl ?_)))
  obtain ⟨u9, hu9, r10⟩ := bind_some r8
  refine .callW (b1 := []) (b2 := [_]) (s1 := []) [_] [] .ro rfl rfl Tryz.call192 rfl rfl (solve_reduce_c (G := G) mcs s0_3 s0_4 hu9) rfl B0 (fun v12 bo so G13 e14 B15 h11 => ?_)
  obtain ⟨a18, k19, b17, rfl, rfl, rfl, s20, hl21⟩ := h11
  refine .same (bl' := [_, _]) (sl' := []) rfl rfl rfl (.av rfl rfl (.re (.seq (.seq (.region rfl (.mv rfl rfl ?_))))))
  obtain ⟨u22, hu22, r23⟩ := bind_some r10
  refine .callS (b1 := [_]) (b2 := [_]) (s1 := []) [_] [] .ro rfl rfl Tryz.call193 rfl rfl (solve_reduced_solvable_c (G := G13) mcs s20 hl21 hu22) rfl (fun v25 bo so h24 => ?_)
  obtain ⟨rfl, rfl, rfl⟩ := h24
  refine .same (bl' := [_, _]) (sl' := []) rfl rfl rfl (.q .ro (.not rfl) rfl (.re ?_))
  refine .cond rfl (fun c26 => ?_) (fun c26 => ?_)
  ·have r27 := ifT r23 c26; clear r23
   exact absurd r27 (by simp)
  ·have r28 := ifBF r23 c26; clear r23
   refine .skip (.seq (.region rfl (.q .ro (.fieldAddr 2 rfl fl256_2 ty3.sz rfl) rfl (.q .ro (.load_own 1 rfl rfl ty3 rfl) rfl ?_))))
   obtain ⟨u29, hu29, r30⟩ := bind_some r28
   refine .makeR (G := G13) (Q := ri) .ro sl22 ty3 rfl rfl rfl ((Rep.intI .i64 0) :) rfl rfl hu29 rfl rfl (fun b31 cs32 hb31 o33 => ?_)
   refine .av rfl rfl (.re (.prune [(1, _), (5, _), (6, _)] ⟨rfl, rfl, rfl, trivial⟩ (.seq (.seq (.region rfl (.mv rfl rfl (.q .ro (.len_sl rfl rfl sl22) rfl (.mv rfl rfl (.re (.block ?_))))))))))
   refine .loop2 (α := Nat × List Int × List Int × Option Addr × Nat × List Value) (fun y => [(6, .slice y.2.2.2.1 y.2.2.1.length y.2.2.2.2.1), (24, .int .i64 (y.1 : Int))]) [(1, _), (5, _), (23, _)] (fun y => []) (fun y => []) [_, _] (fun y => [.s (.slice y.2.2.2.1 y.2.2.1.length y.2.2.2.2.1) 3 1 y.2.2.1.length y.2.2.2.2.2]) [] (fun y => OL ri G13 y.2.2.2.2.2 y.2.2.1 ∧ List.drop y.1 u29 = y.2.1 ∧ solve_Solve_L1 u9.2.2.1 u9.2.2.2.2 x0_2 y.2.1 y.1 y.2.2.1 = some r) (fun y => y.2.1.length) (0, u29, u29, (some ⟨b31, 0, none⟩), u29.length, cs32) ⟨o33, rfl, r30⟩ ⟨rfl, rfl, rfl, rfl, rfl, trivial⟩ rfl rfl rfl (fun y hI hb87 => ?_)
   obtain ⟨i77, w78, v80, a81, k82, cs83⟩ := y
   obtain ⟨o84, g79, r86⟩ := hI
   try dsimp only at o84 g79 r86
   refine .prune [(6, .slice a81 v80.length k82), (24, .int .i64 (i77 : Int)), (1, _), (5, _), (23, _)] ⟨rfl, rfl, rfl, rfl, rfl, trivial⟩ (.same (bl' := [_, _]) (sl' := [.s (.slice a81 v80.length k82) 3 1 v80.length cs83]) (Fs' := G13 :: Fs) rfl rfl rfl ?_)
   cases w78 with
   | nil =>
    rw [solve_Solve_L1] at r86; try dsimp only at r86
    refine .seq (.region rfl (.q .ro (.lss rfl rfl) rfl (.re (.seq ?_))))
    refine .cond_dec rfl (fun c => absurd c (drop_nil g79)) (fun _ => ?_)
    refine .exit rfl (.seq (.region rfl (.mv rfl rfl (.av rfl rfl (.av rfl rfl (.re ?_))))))
    cases r86
    refine .drop 2 0 [] _ rfl rfl ?_
    refine .retS (.inr ⟨_, rfl⟩) [.tmp 2, .tmp 3] [_, _] rfl Tryz.func175 Tryz.results175 ⟨RV.tmp rfl, RV.tmp rfl, trivial⟩ mcm ⟨a81, k82, cs83, rfl, rfl, rfl, (OL.flat (Rep.flat_int _) o84)⟩
   | cons x16 xs34 =>
    have r99 : solve_Solve_B1 u9.2.2.1 u9.2.2.2.2 x0_2 (solve_Solve_L1 u9.2.2.1 u9.2.2.2.2 x0_2 xs34 (i77 + 1)) x16 i77 v80 = some r := r86; clear r86; unfold solve_Solve_B1 at r99; try dsimp only at r99
    refine .seq (.region rfl (.q .ro (.lss rfl rfl) rfl (.re (.seq ?_))))
    refine .cond_dec rfl (fun _ => ?_) (fun c => absurd (drop_lt g79) c)
    refine .skip (.seq (.block (.seq (.region rfl (.mv rfl rfl (.av rfl rfl (.re (.seq (.region rfl (.mv rfl rfl (.mv rfl rfl (.q .ro (.nilCheck rfl rfl) rfl (.q .ro (.fieldAddr 4 rfl fl286_4 ty284.sz rfl) rfl ?_)))))))))))))
    obtain ⟨u35, hu35, r36⟩ := bind_some r99
    refine .q .ro (.indexAddr_ar (4 + ((i77 : Int)).toNat) rfl rfl ar284 ty3.sz (lidx_some hu35).1 (lt_of_lt_of_len (lidx_some hu35).2.1 hl21) (by rw [Nat.mul_one])) rfl (.q .ro (.load_own 0 rfl rfl ty3 (arr_get (pre := [_, _, _, _]) (f := Value.int .i64) (L := u9.2.2.2.2) hu35)) rfl (.av rfl rfl (.re (.seq (.region rfl (.mv rfl rfl (.q .ro (.gtr rfl rfl) rfl (.re ?_))))))))
    refine .cond_dec rfl (fun c37 => ?_) (fun c37 => ?_)
    ·have r38 := ifT r36 c37; clear r36
     refine .drawL (.q 0 (.q 1 (.q 2 (.q 3 (.q 4 (.q 5 (.q 6 (.q 7 (.q 8 (.q 9 (.q 10 (.q 11 (.q 12 (.q 13 (.e 14 2 (.e 15 2 .nil)))))))))))))))) [_, _] (by kernel_rfl) (by kernel_rfl) (pick_mem [0, 1] rfl) (.dq (.move rfl) rfl (.dq (.move rfl) rfl (.dq (.move rfl) rfl (.dq (.nilCheck rfl rfl) rfl (.dq (.fieldAddr 2 rfl fl286_2 ty51.sz rfl) rfl (.dq (.load_own 0 rfl rfl ty51 rfl) rfl (.dq (.move rfl) rfl (.dq (.subw rfl rfl) rfl ?_))))))))
     obtain ⟨u39, hu39, r40⟩ := bind_some r38
     obtain ⟨c41, p42, h43⟩ := SlR.get s20 hu39
     obtain ⟨a44, k45, rfl, s46⟩ := h43
     refine .dq (.idxR s20 rfl rfl hu39 sl51 ty22.sz) rfl (.dq (.load_rp p42 mcs rfl ty22 rfl) rfl (.dq (.fieldAddr 2 rfl fl256_2 ty3.sz rfl) rfl (.dq (.load_own 1 rfl rfl ty3 rfl) rfl ?_)))
     obtain ⟨u47, hu47, r48⟩ := bind_some r40
     obtain ⟨c49, p50, h52⟩ := SlR.get s46 hu47
     obtain rfl := h52
     refine .dq (.idxR s46 rfl rfl hu47 sl22 ty3.sz) rfl (.dq (.load_rp p50 mcs rfl ty3 rfl) rfl ?_)
     obtain ⟨u53, hu53, r54⟩ := bind_some r48
     obtain ⟨c55, p56, h57⟩ := OL.get o84 hu53
     obtain rfl := h57
     refine .q .d2 (.idxO 0 rfl rfl rfl hu53 sl22 ty3.sz) rfl ?_
     obtain ⟨u58, hu58, r59⟩ := bind_some r54
     refine .storeR 0 0 (Q := ri) .d2 rfl rfl o84 hu58 rfl (.inl ⟨rfl, rfl⟩) rfl ty3 p56 ((Rep.intI .i64 u47) :) rfl rfl (fun cs60 hlcs60 o61 => ?_)
     refine .reval 6 hlcs60 rfl (.reval 35 hlcs60 rfl (.draw_end (.prune [(6, _), (24, _), (1, _), (5, _), (23, _)] ⟨rfl, rfl, rfl, rfl, rfl, trivial⟩ (.inBlock (.region rfl (.q .ro (.addw rfl rfl) rfl (.mv rfl rfl (.re ?_))))))))
     exact .arr (hb87 ((i77 + 1), xs34, u58, a81, k82, cs60) ⟨o61, (drop_succ g79), r59⟩ (Nat.lt_succ_self _)) ⟨rfl, (congrArg (fun z => some (Value.int .i64 z)) (idx_wrap (OL.len' o33) g79)), rfl, rfl, rfl, trivial⟩
    ·have r62 := ifF r36 c37; clear r36
     exact absurd r62 (by simp)
theorem poly_Divide_c {Fs : List Hp} {G : Hp} {x0_0 : Int} {a1 : Option Addr} {k1 : Nat} {x1 : List Int} {a2 : Option Addr} {k2 : Nat} {x2 : List Int} {r : ((List Int) × (List Int) × Int)} (hG : G ∈ Fs) (s1 : SlR ri G a1 k1 x1) (s2 : SlR ri G a2 k2 x2) (h : poly_Divide x0_0 x1 x2 = some r) : RetS Tryz.prog 176 #[.agg #[.int .i64 x0_0], .slice a1 x1.length k1, .slice a2 x2.length k2] Fs [] [] (fun v bo so => ∃ (oa0 : Option Addr) (ok0 : Nat) (oc0 : List Value), ∃ (oa1 : Option Addr) (ok1 : Nat) (oc1 : List Value), v = .tuple #[.slice oa0 r.1.length ok0, .slice oa1 r.2.1.length ok1, .int .i64 r.2.2] ∧ bo = [] ∧ so = [.s (.slice oa0 r.1.length ok0) 3 1 r.1.length oc0, .s (.slice oa1 r.2.1.length ok1) 3 1 r.2.1.length oc1] ∧ OL ri G oc0 r.1 ∧ OL ri G oc1 r.2.1) := by
 unfold poly_Divide at h
 try dsimp only at h
 refine RetS.of (vs := [_, _, _]) Tryz.func176 rfl Tryz.ntmps176 [(0, _), (1, _), (2, _)] ⟨rfl, rfl, rfl, trivial⟩ rfl hG fun w0 S0 hS0 B0 => ?_
 refine .seq (.region rfl ?_)
 refine .box [_] .ro rfl rfl rfl (fun b1 hb1 => ?_)
 refine .av rfl rfl (.av rfl rfl (.av rfl rfl (.re (.seq (.region rfl (.q .ro (.load_own_a 0 [_] rfl rfl ty45 rfl) rfl (.mv rfl rfl (.mv rfl rfl ?_))))))))
 refine .lit [_, _] [(0, _), (1, _)] .ro sl51 ty22 rfl rfl rfl rfl rfl rfl (fun b2 hb2 => ?_)
 have o3 : OL (Rep.sl ri) G [.slice a1 x1.length k1, .slice a2 x2.length k2] ([x1, x2] : List (List Int)) := ((OL.cons rfl (Rep.slI s1) (OL.cons rfl (Rep.slI s2) (OL.nil (Rp' := (Rep.sl ri))))) :)
 refine .reval 21 (n' := ([x1, x2] : List (List Int)).length) rfl rfl ?_
 refine .freezeR 0 rfl rfl o3 [] rfl B0 (fun G5 e6 B7 s8 => ?_)
 obtain ⟨u10, hu10, r11⟩ := bind_some h
 refine .callS (b1 := []) (b2 := [_]) (s1 := []) [_, _] [] .ro rfl rfl Tryz.call194 rfl rfl (poly_open_c (G := G5) mcs s8 hu10) rfl (fun v13 bo so h12 => ?_)
 obtain ⟨rfl, rfl, rfl⟩ := h12
 refine .same (bl' := [_]) (sl' := []) rfl rfl rfl (.mv rfl rfl (.q .ro (.extract rfl rfl) rfl (.q .ro (.extract rfl rfl) rfl (.av rfl rfl (.av rfl rfl (.re (.prune [(1, _), (2, _), (9, _), (10, _)] ⟨rfl, rfl, rfl, rfl, trivial⟩ (.seq (.seq (.region rfl (.mv rfl rfl (.q .ro (.neq rfl rfl) rfl (.re ?_)))))))))))))
 refine .cond_dec rfl (fun c14 => ?_) (fun c14 => ?_)
 ·have r15 := ifT r11 c14; clear r11
  exact absurd r15 (by simp)
 ·have r16 := ifF r11 c14; clear r11
  refine .skip (.seq (.region rfl (.mv rfl rfl ?_)))
  obtain ⟨u17, hu17, r18⟩ := bind_some r16
  refine .callS (b1 := []) (b2 := [_]) (s1 := []) [_] [] .ro rfl rfl Tryz.call195 rfl rfl (poly_own_c (G := G5) mcs (SlR.mono e6 s1) hu17) rfl (fun v20 bo so h19 => ?_)
  obtain ⟨a22, k23, cs24, rfl, rfl, rfl, o25⟩ := h19
  refine .same (bl' := [_]) (sl' := [_]) rfl rfl rfl (.mv rfl rfl ?_)
  obtain ⟨u26, hu26, r27⟩ := bind_some r18
  refine .callS (b1 := []) (b2 := [_]) (s1 := []) [_] [] .ro rfl rfl Tryz.call196 rfl rfl (residue_Trim_c (G := G5) mcs (SlR.mono e6 s2) hu26) rfl (fun v29 bo so h28 => ?_)
  obtain ⟨a30, k31, rfl, rfl, rfl, s32⟩ := h28
  refine .same (bl' := [_]) (sl' := [_]) rfl rfl rfl (.av rfl rfl (.av rfl rfl (.re (.seq (.region rfl (.mv rfl rfl (.q .ro (.len_sl rfl rfl sl22) rfl (.av rfl rfl (.re (.seq (.seq (.region rfl (.mv rfl rfl (.q .ro (.eql rfl rfl) rfl (.re ?_)))))))))))))))
  refine .cond_dec rfl (fun c33 => ?_) (fun c33 => ?_)
  ·have r34 := ifT r27 c33; clear r27
   exact absurd r34 (by simp)
  ·have r35 := ifF r27 c33; clear r27
   refine .skip (.seq (.region rfl (.mv rfl rfl (.q .ro (.len_sl rfl rfl sl22) rfl (.mv rfl rfl (.q .ro (.subw rfl rfl) rfl (.q .ro (.addw rfl rfl) rfl (.q .ro (.max2 rfl rfl) rfl ?_))))))))
   obtain ⟨u36, hu36, r37⟩ := bind_some r35
   refine .makeR (G := G5) (Q := ri) .ro sl22 ty3 rfl rfl rfl ((Rep.intI .i64 0) :) rfl rfl hu36 rfl rfl (fun b38 cs39 hb38 o40 => ?_)
   refine .av rfl rfl (.re (.prune [(2, _), (9, _), (11, _), (12, _), (13, _)] ⟨rfl, rfl, rfl, rfl, rfl, trivial⟩ (.seq (.region rfl (.mv rfl rfl (.mv rfl rfl (.mv rfl rfl (.q .ro (.subw rfl rfl) rfl ?_))))))))
   obtain ⟨u42, hu42, r43⟩ := bind_some r37
   obtain ⟨c44, p45, h46⟩ := SlR.get s32 hu42
   obtain rfl := h46
   refine .q .ro (.idxR s32 rfl rfl hu42 sl22 ty3.sz) rfl (.q .ro (.load_rp p45 mcs rfl ty3 rfl) rfl ?_)
   obtain ⟨u47, hu47, r48⟩ := bind_some r43
   refine .callS (b1 := []) (b2 := [_]) (s1 := []) [_, _] [] .ro rfl rfl Tryz.call197 rfl rfl (residue_Field_Inverse_c (G := G5) mcs  hu47) rfl (fun v50 bo so h49 => ?_)
   obtain ⟨rfl, rfl, rfl⟩ := h49
   refine .same (bl' := [_]) (sl' := [_, _]) rfl rfl rfl (.av rfl rfl (.re (.seq ?_)))
   refine .cutB (β := List Int × Option Addr × Nat × List Value × Int × Int × Value × List Int × Option Addr × Nat × List Value) (fun y => [(11, y.2.2.2.2.2.2.1), (13, .slice y.2.2.2.2.2.2.2.2.1 y.2.2.2.2.2.2.2.1.length y.2.2.2.2.2.2.2.2.2.1)]) [] (fun y => G5 :: Fs) (fun y => []) [_] (fun y => [.s (.slice y.2.1 y.1.length y.2.2.1) 3 1 y.1.length y.2.2.2.1, .s (.slice y.2.2.2.2.2.2.2.2.1 y.2.2.2.2.2.2.2.1.length y.2.2.2.2.2.2.2.2.2.1) 3 1 y.2.2.2.2.2.2.2.1.length y.2.2.2.2.2.2.2.2.2.2]) [] (fun y => OL ri G5 y.2.2.2.1 y.1 ∧ PartV y.2.1 1 y.2.2.2.2.2.2.1 y.2.2.2.2.1.toNat (y.2.2.2.2.2.1 - y.2.2.2.2.1).toNat ∧ OL ri G5 y.2.2.2.2.2.2.2.2.2.2 y.2.2.2.2.2.2.2.1 ∧ poly_Divide_J1 y.1 y.2.2.2.2.1 y.2.2.2.2.2.1 y.2.2.2.2.2.2.2.1 = some r) trivial [0] rfl [] rfl ?_ ?_
   ·intro y hI
    obtain ⟨v21, a41, k52, cs53, v54, v55, vv56, v57, a58, k59, cs60⟩ := y
    obtain ⟨o61, pv62, o63, r65⟩ := hI
    try dsimp only at o61 pv62 o63 r65
    refine .prune [(11, vv56), (13, .slice a58 v57.length k59)] ⟨rfl, rfl, trivial⟩ (.same (bl' := [_]) (sl' := [.s (.slice a41 v21.length k52) 3 1 v21.length cs53, .s (.slice a58 v57.length k59) 3 1 v57.length cs60]) (Fs' := G5 :: Fs) rfl rfl rfl ?_)
    unfold poly_Divide_J1 at r65
    try dsimp only at r65
    refine .seq (.region rfl (.mv rfl rfl ?_))
    refine .freezeR 1 rfl rfl o63 [_] rfl B7 (fun G66 e68 B69 s70 => ?_)
    obtain ⟨u71, hu71, r72⟩ := bind_some r65
    refine .callS (b1 := []) (b2 := [_]) (s1 := []) [_] [] .ro rfl rfl Tryz.call195 rfl rfl (poly_own_c (G := G66) mcs s70 hu71) rfl (fun v73 bo so h74 => ?_)
    obtain ⟨a75, k76, cs78, rfl, rfl, rfl, o79⟩ := h74
    refine .same (bl' := [_]) (sl' := [_, _]) rfl rfl rfl (.mv rfl rfl ?_)
    refine .freezeR 1 rfl rfl (OL.mono e68 o61) [_] rfl B69 (fun G80 e81 B82 s83 => ?_)
    obtain ⟨u84, hu84, r85⟩ := bind_some r72
    obtain ⟨a86, k87, h88, s89⟩ := SlR.part s83 pv62 hu84
    refine .revalV 91 h88.symm rfl ?_
    obtain ⟨u90, hu90, r91⟩ := bind_some r85
    refine .callS (b1 := []) (b2 := [_]) (s1 := []) [_] [] .ro rfl rfl Tryz.call195 rfl rfl (poly_own_c (G := G80) mcs s89 hu90) rfl (fun v92 bo so h93 => ?_)
    obtain ⟨a94, k95, cs96, rfl, rfl, rfl, o97⟩ := h93
    refine .same (bl' := [_]) (sl' := [_, _]) rfl rfl rfl (.av rfl rfl (.av rfl rfl (.av rfl rfl (.re ?_))))
    cases r91
    refine .drop 1 0 [] _ rfl rfl (.pullS 1 rfl [_, _] rfl ?_)
    refine .retS (.inr ⟨_, rfl⟩) [.tmp 6, .tmp 7, .tmp 8] [_, _, _] rfl Tryz.func176 Tryz.results176 ⟨RV.tmp rfl, RV.tmp rfl, RV.tmp rfl, trivial⟩ mcm ⟨a75, k76, cs78, a94, k95, cs96, rfl, rfl, rfl, (OL.flat (Rep.flat_int _) o79), (OL.flat (Rep.flat_int _) o97)⟩
   ·intro hb98
    refine .block ?_
    refine .owncap 1 rfl (fun h99 => ?_)
    refine .pullS 1 rfl [_, _] rfl ?_
    refine .loop2 (α := Nat × List Int × List Value × Int × Int × Value × List Int × Option Addr × Nat × List Value) (fun y => [(11, y.2.2.2.2.2.1), (13, .slice y.2.2.2.2.2.2.2.1 y.2.2.2.2.2.2.1.length y.2.2.2.2.2.2.2.2.1)]) [(2, _), (9, _), (12, _), (14, _)] (fun y => []) (fun y => []) [_] (fun y => [.s (.slice a22 y.2.1.length k23) 3 1 y.2.1.length y.2.2.1, .s (.slice y.2.2.2.2.2.2.2.1 y.2.2.2.2.2.2.1.length y.2.2.2.2.2.2.2.2.1) 3 1 y.2.2.2.2.2.2.1.length y.2.2.2.2.2.2.2.2.2]) [] (fun y => OL ri G5 y.2.2.1 y.2.1 ∧ y.2.1.length = u17.length ∧ PartV a22 1 y.2.2.2.2.2.1 y.2.2.2.1.toNat (y.2.2.2.2.1 - y.2.2.2.1).toNat ∧ OL ri G5 y.2.2.2.2.2.2.2.2.2 y.2.2.2.2.2.2.1 ∧ poly_Divide_L3 poly_Divide_J1 u26 u10.1 (u26.length : Int) u47 y.1 y.2.1 y.2.2.2.1 y.2.2.2.2.1 y.2.2.2.2.2.2.1 = some r) (fun y => y.1) (big, u17, cs24, 0, (u17.length : Int), _, u36, (some ⟨b38, 0, none⟩), u36.length, cs39) ⟨o25, rfl, (PartV.all h99), o40, r48⟩ ⟨rfl, rfl, rfl, rfl, rfl, rfl, trivial⟩ rfl rfl rfl (fun y hI hb100 => ?_)
    obtain ⟨n101, v102, cs103, v104, v105, vv106, v107, a108, k109, cs110⟩ := y
    obtain ⟨o111, hl112, pv113, o114, r115⟩ := hI
    try dsimp only at o111 hl112 pv113 o114 r115
    refine .prune [(11, vv106), (13, .slice a108 v107.length k109), (2, _), (9, _), (12, _), (14, _)] ⟨rfl, rfl, rfl, rfl, rfl, rfl, trivial⟩ (.same (bl' := [_]) (sl' := [.s (.slice a22 v102.length k23) 3 1 v102.length cs103, .s (.slice a108 v107.length k109) 3 1 v107.length cs110]) (Fs' := G5 :: Fs) rfl rfl rfl ?_)
    obtain ⟨m116, rfl⟩ : ∃ m, n101 = m + 1 := by cases n101 with | zero => exact absurd (show (none : Option _) = some _ from r115) (by simp) | succ m => exact ⟨m, rfl⟩
    have r117 : poly_Divide_B3 poly_Divide_J1 u26 u10.1 (u26.length : Int) u47 (poly_Divide_L3 poly_Divide_J1 u26 u10.1 (u26.length : Int) u47 m116) v102 v104 v105 v107 = some r := r115; clear r115; unfold poly_Divide_B3 at r117; try dsimp only at r117
    refine .seq (.seq (.region rfl (.mv rfl rfl (.q .ro (.len_p rfl pv113 sl22) rfl (.mv rfl rfl (.q .ro (.geq rfl rfl) rfl (.re ?_)))))))
    refine .cond_dec rfl (fun c118 => ?_) (fun c118 => ?_)
    ·have r119 := ifT r117 c118; clear r117
     refine .skip (.block (.seq (.region rfl (.mv rfl rfl (.q .ro (.len_p rfl pv113 sl22) rfl (.mv rfl rfl (.q .ro (.subw rfl rfl) rfl (.av rfl rfl (.re (.seq (.region rfl (.mv rfl rfl (.mv rfl rfl (.mv rfl rfl (.q .ro (.len_p rfl pv113 sl22) rfl (.q .ro (.subw rfl rfl) rfl ?_))))))))))))))))
     obtain ⟨u120, hu120, r121⟩ := bind_some r119
     obtain ⟨u122, hu122, r123⟩ := bind_some r121
     obtain ⟨c124, p125, h126⟩ := OL.get o111 hu122
     obtain rfl := h126
     refine .q .ro (.idxP 0 rfl rfl pv113 rfl hu120 hu122 sl22 ty3.sz) rfl (.q .ro (.loadO 0 0 rfl hu122 p125 rfl (.inl ⟨rfl, rfl⟩) ty3 rfl) rfl (.mv rfl rfl ?_))
     obtain ⟨u127, hu127, r128⟩ := bind_some r123
     refine .callS (b1 := []) (b2 := [_]) (s1 := []) [_, _, _] [] .ro rfl rfl Tryz.call77 rfl rfl (residue_Field_Mul_c (G := G5) mcs  hu127) rfl (fun v129 bo so h130 => ?_)
     obtain ⟨rfl, rfl, rfl⟩ := h130
     refine .same (bl' := [_]) (sl' := [_, _]) rfl rfl rfl (.av rfl rfl (.re (.prune [(11, _), (13, _), (2, _), (9, _), (12, _), (14, _), (15, _), (16, _)] ⟨rfl, rfl, rfl, rfl, rfl, rfl, rfl, rfl, trivial⟩ (.seq (.region rfl (.mv rfl rfl (.mv rfl rfl (.mv rfl rfl ?_))))))))
     obtain ⟨u131, hu131, r132⟩ := bind_some r128
     obtain ⟨c133, p134, h135⟩ := OL.get o114 hu131
     obtain rfl := h135
     refine .q .ro (.idxO 1 rfl rfl rfl hu131 sl22 ty3.sz) rfl ?_
     obtain ⟨u136, hu136, r137⟩ := bind_some r132
     refine .storeR 1 0 (Q := ri) .ro rfl rfl o114 hu136 rfl (.inl ⟨rfl, rfl⟩) rfl ty3 p134 ((Rep.intI .i64 u127) :) rfl rfl (fun cs138 hlcs138 o139 => ?_)
     refine .reval 13 hlcs138 rfl (.reval 67 hlcs138 rfl (.re (.seq ?_)))
     refine .cutG (β := List Int × List Value) (fun y => []) [(11, _), (13, _), (2, _), (9, _), (12, _), (14, _)] (fun y => G5 :: Fs) (fun y => []) [_] (fun y => [.s (.slice a22 y.1.length k23) 3 1 y.1.length y.2]) [_] (fun y => OL ri G5 y.2 y.1 ∧ y.1.length = u17.length ∧ (poly_Divide_J2 (poly_Divide_L3 poly_Divide_J1 u26 u10.1 (u26.length : Int) u47 m116) v104 v105 u136) y.1 = some r) ⟨rfl, rfl, rfl, rfl, rfl, rfl, trivial⟩ [0] rfl [1] rfl ?_ ?_
     ·intro y hI
      obtain ⟨v140, cs141⟩ := y
      obtain ⟨o142, hl143, r144⟩ := hI
      try dsimp only at o142 hl143 r144
      refine .prune [(11, _), (13, _), (2, _), (9, _), (12, _), (14, _)] ⟨rfl, rfl, rfl, rfl, rfl, rfl, trivial⟩ (.same (bl' := [_]) (sl' := [.s (.slice a22 v140.length k23) 3 1 v140.length cs141, _]) (Fs' := G5 :: Fs) rfl rfl rfl ?_)
      unfold poly_Divide_J2 at r144
      try dsimp only at r144
      refine .region rfl (.mv rfl rfl (.mv rfl rfl (.q .ro (.len_p rfl pv113 sl22) rfl (.q .ro (.subw rfl rfl) rfl (.mv rfl rfl (.q .ro (.len_p rfl pv113 sl22) rfl (.q .ro (.subw rfl rfl) rfl ?_)))))))
      obtain ⟨u145, hu145, r146⟩ := bind_some r144
      refine .q .ro (.sliceP3 rfl pv113 hu145 sl22 ty3.sz rfl rfl) rfl ?_
      refine .toV 0 rfl (fun vb147 po148 va149 vb150 => ?_)
      obtain ⟨u151, hu151, r152⟩ := bind_some r146
      refine .lendP 0 87 rfl va149 o142 (PartV.psub3 pv113 hu145) rfl hu151 rfl (fun a153 k154 h155 o156 va157 => ?_)
      obtain ⟨u158, hu158, r159⟩ := bind_some r152
      refine .callS (b1 := []) (b2 := [_]) (s1 := [_]) [_] [] .ro rfl rfl Tryz.call196 rfl rfl (residue_Trim_p_c (G := G5) mcs va157 o156 hu158) rfl (fun v160 bo so h161 => ?_)
      obtain ⟨vv162, cs163, rfl, rfl, rfl, pv164, o165, hl166⟩ := h161
      refine .same (bl' := [_]) (sl' := [_, _]) rfl rfl rfl ?_
      refine .backP 0 rfl va149 o142 rfl hu151 o165 hl166 (fun cs167 hl168 o169 va170 => ?_)
      refine .ofV 0 rfl vb150 hl168 o169 rfl ?_
      obtain ⟨u171, hu171, r172⟩ := bind_some r159
      refine .av rfl rfl (.re (.inBlock ?_))
      exact .arr (hb100 (m116, (lcpy v140 u145.1 u151.length u158.2), cs167, u171.1, u171.2, _, u136, a108, k109, cs138) ⟨o169, (hl168.trans hl143), (PartV.comp (PartV.psub3 pv113 hu145) h155 pv164 hu171), o139, r172⟩ (Nat.lt_succ_self _)) ⟨rfl, rfl, rfl, rfl, rfl, rfl, trivial⟩
     ·intro hb173
      refine .drawL (.q 0 (.q 1 (.q 2 (.q 4 (.q 5 (.q 7 (.alt (.e 3 1 (.e 6 1 (.e 8 2 .nil))) (.e 6 1 (.e 3 1 (.e 8 2 .nil)))))))))) [_] (by kernel_rfl) (by kernel_rfl) (pick_mem [0] rfl) ?_
      obtain ⟨u174, hu174, r175⟩ := bind_some r137
      obtain ⟨u177, hu177, r178⟩ := bind_some r175
      obtain ⟨u179, hu179, r180⟩ := bind_some r178
      obtain ⟨u181, hu181, r182⟩ := bind_some r180
      refine .dq (.move rfl) rfl (.dq (.move rfl) rfl (.dq (.move rfl) rfl (.dq (.move rfl) rfl (.dq (.move rfl) rfl (.dq (.move rfl) rfl ?_)))))
      refine .alt ?_ ?_
      ·refine .q .d1 (.sliceP rfl pv113 hu174 sl22 ty3.sz (fun h => .yes' rfl h) (fun _ => .no)) rfl ?_
       refine .clsL (HpLe.refl _) (pick_mem [0] rfl) ?_
       refine .callS (b1 := []) (b2 := [_]) (s1 := []) [_, _, _] [] .d1 rfl rfl Tryz.call190 rfl rfl (residue_Field_Sub_c (G := G5) mcs  hu177) rfl (fun v183 bo so h184 => ?_)
       obtain ⟨rfl, rfl, rfl⟩ := h184
       refine .same (bl' := [_]) (sl' := [_, _]) rfl rfl rfl (.clsL (HpLe.refl _) (pick_mem [0] rfl) ?_)
       refine .toV 0 rfl (fun vb185 po186 va187 vb188 => ?_)
       refine .lendP 0 74 rfl va187 o111 (PartV.psub pv113 hu174) rfl hu179 rfl (fun a189 k191 h192 o193 va198 => ?_)
       refine .callS (b1 := []) (b2 := [_]) (s1 := [_]) [_, _, _, _] [] .d2 rfl rfl Tryz.call67 rfl rfl (residue_Field_AddTimes_c (G := G5) mcs va198 o193 s32 hu181) rfl (fun v199 bo so h200 => ?_)
       obtain ⟨cs201, rfl, rfl, rfl, o202, hl203⟩ := h200
       refine .same (bl' := [_]) (sl' := [_, _]) rfl rfl rfl ?_
       refine .backP 0 rfl va187 o111 rfl hu179 o202 hl203 (fun cs204 hl205 o206 va207 => ?_)
       refine .ofV 0 rfl vb188 hl205 o206 rfl (.draw_end (.prune [(11, _), (13, _), (2, _), (9, _), (12, _), (14, _)] ⟨rfl, rfl, rfl, rfl, rfl, rfl, trivial⟩ ?_))
       exact .arr (hb173 ((lcpy v102 u174.1 u179.length u181), cs204) ⟨o206, (hl205.trans hl112), r182⟩) ⟨rfl, rfl, rfl, rfl, rfl, rfl, trivial⟩
      ·refine .callS (b1 := []) (b2 := [_]) (s1 := []) [_, _, _] [] .d1 rfl rfl Tryz.call190 rfl rfl (residue_Field_Sub_c (G := G5) mcs  hu177) rfl (fun v208 bo so h209 => ?_)
       obtain ⟨rfl, rfl, rfl⟩ := h209
       refine .same (bl' := [_]) (sl' := [_, _]) rfl rfl rfl (.clsL (HpLe.refl _) (pick_mem [0] rfl) (.q .d1 (.sliceP rfl pv113 hu174 sl22 ty3.sz (fun h => .yes' rfl h) (fun _ => .no)) rfl (.clsL (HpLe.refl _) (pick_mem [0] rfl) ?_)))
       refine .toV 0 rfl (fun vb210 po211 va212 vb213 => ?_)
       refine .lendP 0 74 rfl va212 o111 (PartV.psub pv113 hu174) rfl hu179 rfl (fun a214 k215 h216 o217 va218 => ?_)
       refine .callS (b1 := []) (b2 := [_]) (s1 := [_]) [_, _, _, _] [] .d2 rfl rfl Tryz.call67 rfl rfl (residue_Field_AddTimes_c (G := G5) mcs va218 o217 s32 hu181) rfl (fun v219 bo so h220 => ?_)
       obtain ⟨cs221, rfl, rfl, rfl, o222, hl223⟩ := h220
       refine .same (bl' := [_]) (sl' := [_, _]) rfl rfl rfl ?_
       refine .backP 0 rfl va212 o111 rfl hu179 o222 hl223 (fun cs224 hl225 o226 va227 => ?_)
       refine .ofV 0 rfl vb213 hl225 o226 rfl (.draw_end (.prune [(11, _), (13, _), (2, _), (9, _), (12, _), (14, _)] ⟨rfl, rfl, rfl, rfl, rfl, rfl, trivial⟩ ?_))
       exact .arr (hb173 ((lcpy v102 u174.1 u179.length u181), cs224) ⟨o226, (hl225.trans hl112), r182⟩) ⟨rfl, rfl, rfl, rfl, rfl, rfl, trivial⟩
    ·have r228 := ifF r117 c118; clear r117
     refine .exit rfl ?_
     exact .arr (hb98 (v102, a22, k23, cs103, v104, v105, _, v107, a108, k109, cs110) ⟨o111, pv113, o114, r228⟩) ⟨rfl, rfl, trivial⟩
theorem unique_wrongs_c {Fs : List Hp} {G : Hp} {x0 : Int} {a1 : Option Addr} {k1 : Nat} {x1 : List (Int × Bool)} {a2 : Option Addr} {k2 : Nat} {x2 : List Int} {r : (List Int)} (hG : G ∈ Fs) (s1 : SlR (Rep.pair ri Rep.bool) G a1 k1 x1) (s2 : SlR ri G a2 k2 x2) (h : unique_wrongs x0 x1 x2 = some r) : RetS Tryz.prog 177 #[.int .i64 x0, .slice a1 x1.length k1, .slice a2 x2.length k2] Fs [] [] (fun v bo so => ∃ a0 : Option Addr, ∃ k0 : Nat, v = .slice a0 r.length k0 ∧ bo = [] ∧ so = [] ∧ SlR ri G a0 k0 r) := by
 unfold unique_wrongs at h
 try dsimp only at h
 refine RetS.of (vs := [_, _, _]) Tryz.func177 rfl Tryz.ntmps177 [(0, _), (1, _), (2, _)] ⟨rfl, rfl, rfl, trivial⟩ rfl hG fun w0 S0 hS0 B0 => ?_
 refine .seq (.region rfl (.av rfl rfl (.re (.seq (.region rfl (.av rfl rfl (.re (.seq (.seq (.region rfl (.mv rfl rfl (.q .ro (.len_sl rfl rfl sl218) rfl (.mv rfl rfl (.re (.block ?_)))))))))))))))
 refine .loop2 (α := Nat × (List (Int × Bool))) (fun y => [(12, .int .i64 (y.1 : Int))]) [(0, _), (2, _), (7, _), (10, _), (11, _)] (fun y => []) (fun y => []) [] (fun y => []) [] (fun y => List.drop y.1 x1 = y.2 ∧ unique_wrongs_L1 x0 x2 y.2 y.1  = some r) (fun y => y.2.length) (0, x1) ⟨rfl, h⟩ ⟨rfl, rfl, rfl, rfl, rfl, rfl, trivial⟩ rfl rfl rfl (fun y hI hb37 => ?_)
 obtain ⟨i33, w34⟩ := y
 obtain ⟨g35, r36⟩ := hI
 try dsimp only at g35 r36
 refine .prune [(12, .int .i64 (i33 : Int)), (0, _), (2, _), (7, _), (10, _), (11, _)] ⟨rfl, rfl, rfl, rfl, rfl, rfl, trivial⟩ (.same (bl' := []) (sl' := []) (Fs' := G :: Fs) rfl rfl rfl ?_)
 cases w34 with
 | nil =>
  rw [unique_wrongs_L1] at r36; try dsimp only at r36
  refine .seq (.region rfl (.q .ro (.lss rfl rfl) rfl (.re (.seq ?_))))
  refine .cond_dec rfl (fun c => absurd c (drop_nil g35)) (fun _ => ?_)
  refine .exit rfl (.seq (.region rfl (.mv rfl rfl (.av rfl rfl (.re ?_)))))
  cases r36
  refine .retS (.inr ⟨_, rfl⟩) [.tmp 6] [_] rfl Tryz.func177 Tryz.results177 ⟨RV.tmp rfl, trivial⟩ mcm ⟨none, 0, rfl, rfl, rfl, (SlR.nil (Rp' := ri))⟩
 | cons x43 xs44 =>
  have r42 : unique_wrongs_B1 x0 x2 (unique_wrongs_L1 x0 x2 xs44 (i33 + 1)) x43 i33  = some r := r36; clear r36; unfold unique_wrongs_B1 at r42; try dsimp only at r42
  refine .seq (.region rfl (.q .ro (.lss rfl rfl) rfl (.re (.seq ?_))))
  refine .cond_dec rfl (fun _ => ?_) (fun c => absurd (drop_lt g35) c)
  refine .skip (.seq (.block (.seq (.region rfl (.mv rfl rfl ?_)))))
  obtain ⟨c45, p46, h47⟩ := SlR.get s1 (drop_idx g35)
  obtain ⟨_, _, rfl, rfl, rfl⟩ := h47
  refine .q .ro (.idxR s1 rfl rfl (drop_idx g35) sl218 ty220.sz) rfl (.q .ro (.load_rp_a [_, _] p46 mcs rfl ty220 rfl) rfl ?_)
  refine .alloc .ro ty220 rfl (fun b48 hb48 => ?_)
  refine .av rfl rfl (.store 0 [_, _] [_] .ro rfl rfl rfl ty220 rfl rfl rfl rfl (.re (.seq (.drawL (.q 0 (.q 1 (.q 2 (.q 3 (.q 4 (.q 5 (.q 6 (.q 8 (.q 9 (.e 7 1 (.q 10 (.q 11 .nil)))))))))))) [_] (by kernel_rfl) (by kernel_rfl) (pick_mem [0] rfl) (.dq (.fieldAddr 1 rfl fl220_1 ty4.sz rfl) rfl (.dq (.load_own 0 rfl rfl ty4 rfl) rfl (.dq (.move rfl) rfl ?_)))))))
  obtain ⟨u55, h56, r57⟩ := bind_some r42
  refine .cutD 9 (β := Unit) (fun y => [(28, .bool u55)]) [(12, _), (0, _), (2, _), (7, _), (10, _), (11, _), (8, _)] (fun y => G :: Fs) (fun y => []) [_] (fun y => []) [] (fun y => True) ⟨rfl, rfl, rfl, rfl, rfl, rfl, rfl, trivial⟩ [0] rfl [] rfl ?_ ?_
  ·rintro _ _
   refine .prune [(28, .bool u55), (12, _), (0, _), (2, _), (7, _), (10, _), (11, _), (8, _)] ⟨rfl, rfl, rfl, rfl, rfl, rfl, rfl, rfl, trivial⟩ (.same (bl' := [_]) (sl' := []) (Fs' := G :: Fs) rfl rfl rfl (.draw_end ?_))
   refine .cond rfl (fun c60 => ?_) (fun c60 => ?_)
   ·have r61 := ifT r57 c60; clear r57
    exact absurd r61 (by simp)
   ·have r62 := ifBF r57 c60; clear r57
    refine .skip (.inBlock (.region rfl (.q .ro (.addw rfl rfl) rfl (.mv rfl rfl (.re (.drop 1 0 [] _ rfl rfl ?_))))))
    exact .arr (hb37 ((i33 + 1), xs44) ⟨(drop_succ g35), r62⟩ (Nat.lt_succ_self _)) ⟨(congrArg (fun z => some (Value.int .i64 z)) (idx_wrap (SlR.len s1) g35)), rfl, rfl, rfl, rfl, rfl, trivial⟩
  ·intro hb54
   refine .split_b 19 rfl (fun c53 => ?_) (fun c53 => ?_)
   ·have r63 := ifT h56 c53
    refine .dgq_on rfl (.dq (.move rfl) rfl (.dgq_on rfl (.dq (.move rfl) rfl (.dgq_on rfl (.dq (.move rfl) rfl (.dgq_on rfl (.dq (.addw rfl rfl) rfl (.dgq_on rfl (.dq (.fieldAddr 0 rfl fl220_0 ty3.sz rfl) rfl (.dgq_on rfl (.dq (.load_own 0 rfl rfl ty3 rfl) rfl (.dge_on rfl ?_))))))))))))
    obtain ⟨u64, hu64, r65⟩ := bind_some r63
    refine .callS (b1 := []) (b2 := [_]) (s1 := []) [_, _, _] [] .d1 rfl rfl Tryz.call79 rfl rfl (residue_Field_Value_c (G := G) mcs s2 hu64) rfl (fun v67 bo so h66 => ?_)
    obtain ⟨rfl, rfl, rfl⟩ := h66
    refine .same (bl' := [_]) (sl' := []) rfl rfl rfl (.clsL (HpLe.refl _) (pick_mem [0] rfl) (.dgq_on rfl (.dq (.neq rfl rfl) rfl (.dq (.pick_t rfl rfl) rfl ?_))))
    exact .arr (hb54 () trivial) ⟨sval r65, rfl, rfl, rfl, rfl, rfl, rfl, rfl, trivial⟩
   ·have r68 := ifBF h56 c53
    refine .dgq_off rfl rfl rfl (.dgq_off rfl rfl rfl (.dgq_off rfl rfl rfl (.dgq_off rfl rfl rfl (.dgq_off rfl rfl rfl (.dgq_off rfl rfl rfl (.dge_offL rfl rfl rfl (HpLe.refl _) (pick_mem [0] rfl) (.dgq_off rfl rfl rfl (.dq (.pick_f rfl rfl) rfl ?_))))))))
    exact .arr (hb54 () trivial) ⟨sval r68, rfl, rfl, rfl, rfl, rfl, rfl, rfl, trivial⟩
theorem unique_decode_c {Fs : List Hp} {G : Hp} {x0_0 : Int} {a1 : Option Addr} {k1 : Nat} {x1 : List (Int × Bool)} {x2 : Int} {r : (((List Int) × (List Int)) × (Option Int))} (hG : G ∈ Fs) (hg0 : Rp G (.pointer (some ⟨0, 0, none⟩)) [ifc233 (some 12)]) (s1 : SlR (Rep.pair ri Rep.bool) G a1 k1 x1) (h : unique_decode x0_0 x1 x2 = some r) : RetW Tryz.prog 152 #[.agg #[.int .i64 x0_0], .slice a1 x1.length k1, .int .i64 x2] Fs [] [] (fun v bo so G => ∃ a0 : Option Addr, ∃ k0 : Nat, ∃ a1 : Option Addr, ∃ k1 : Nat, v = .tuple #[.agg #[.slice a0 r.1.1.length k0, .slice a1 r.1.2.length k1], (ifc233 r.2)] ∧ bo = [] ∧ so = [] ∧ SlR ri G a0 k0 r.1.1 ∧ SlR ri G a1 k1 r.1.2) := by
 unfold unique_decode at h
 try dsimp only at h
 refine RetW.of (vs := [_, _, _]) Tryz.func152 rfl Tryz.ntmps152 [(0, _), (1, _), (2, _)] ⟨rfl, rfl, rfl, trivial⟩ rfl hG fun w0 S0 hS0 B0 => ?_
 refine .seq (.region rfl ?_)
 refine .box [_] .ro rfl rfl rfl (fun b1 hb1 => ?_)
 refine .alloc .ro ty215 rfl (fun b2 hb2 => ?_)
 refine .av rfl rfl (.re (.seq (.seq (.region rfl (.q .ro (.load_own_a 1 [_] rfl rfl ty45 rfl) rfl (.mv rfl rfl (.mv rfl rfl ?_)))))))
 obtain ⟨u3, hu3, r4⟩ := bind_some h
 refine .callS (b1 := []) (b2 := [_, _]) (s1 := []) [_, _, _] [] .ro rfl rfl Tryz.call170 rfl rfl (code_Fill_c (G := G) mcs s1 hu3) rfl (fun v6 bo so h5 => ?_)
 obtain ⟨a8, k9, cs10, rfl, rfl, rfl, o11⟩ := h5
 refine .same (bl' := [_, _]) (sl' := [_]) rfl rfl rfl (.mv rfl rfl (.q .ro (.extract rfl rfl) rfl (.q .ro (.extract rfl rfl) rfl (.av rfl rfl (.av rfl rfl (.re (.seq (.region rfl (.mv rfl rfl (.q .ro (.neq rfl rfl) rfl (.re ?_)))))))))))
 refine .cond_dec rfl (fun c12 => ?_) (fun c12 => ?_)
 ·have r13 := ifT r4 c12; clear r4
  exact absurd r13 (by simp)
 ·have r14 := ifF r4 c12; clear r4
  refine .skip (.seq (.region rfl (.mv rfl rfl ?_)))
  obtain ⟨u15, hu15, r16⟩ := bind_some r14
  refine .callS (b1 := []) (b2 := [_, _]) (s1 := []) [_] [] .ro rfl rfl Tryz.call173 rfl rfl (unique_count_c (G := G) mcs s1 hu15) rfl (fun v18 bo so h17 => ?_)
  obtain ⟨rfl, rfl, rfl⟩ := h17
  refine .same (bl' := [_, _]) (sl' := [_]) rfl rfl rfl (.mv rfl rfl ?_)
  obtain ⟨u19, hu19, r20⟩ := bind_some r16
  refine .callS (b1 := []) (b2 := [_, _]) (s1 := []) [_, _] [] .ro rfl rfl Tryz.call172 rfl rfl (unique_Radius_c (G := G) mcs  hu19) rfl (fun v22 bo so h21 => ?_)
  obtain ⟨rfl, rfl, rfl⟩ := h21
  refine .same (bl' := [_, _]) (sl' := [_]) rfl rfl rfl (.mv rfl rfl (.q .ro (.extract rfl rfl) rfl (.q .ro (.extract rfl rfl) rfl (.av rfl rfl (.av rfl rfl (.re (.prune [(1, _), (2, _), (3, _), (6, _), (10, _)] ⟨rfl, rfl, rfl, rfl, rfl, trivial⟩ (.seq (.region rfl (.q .ro (.load_own_a 1 [_] rfl rfl ty45 rfl) rfl (.mv rfl rfl (.mv rfl rfl (.mv rfl rfl ?_)))))))))))))
  obtain ⟨u23, hu23, r24⟩ := bind_some r20
  refine .callW (b1 := []) (b2 := [_, _]) (s1 := []) [_, _, _, _] [] .ro rfl rfl Tryz.call174 rfl rfl (unique_Key_c (G := G) mcs s1 hu23) rfl B0 (fun v26 bo so G27 e28 B29 h25 => ?_)
  obtain ⟨a31, k32, a34, k35, rfl, rfl, rfl, s33, s36⟩ := h25
  refine .same (bl' := [_, _]) (sl' := [_]) rfl rfl rfl (.mv rfl rfl (.q .ro (.extract rfl rfl) rfl (.q .ro (.extract rfl rfl) rfl ?_)))
  refine .alloc .ro ty256 rfl (fun b37 hb37 => ?_)
  refine .store 0 [_, _, _, _, _] [_, _, _] .ro rfl rfl rfl ty256 rfl rfl rfl rfl (.av rfl rfl (.re (.seq (.seq (.region rfl (.mv rfl rfl (.q .ro (.neq rfl rfl) rfl (.re ?_))))))))
  refine .cond_dec rfl (fun c38 => ?_) (fun c38 => ?_)
  ·have r39 := ifT r24 c38; clear r24
   exact absurd r39 (by simp)
  ·have r40 := ifF r24 c38; clear r24
   refine .skip (.seq (.region rfl (.q .ro (.load_own_a 0 [_, _, _, _, _] rfl rfl ty256 rfl) rfl ?_)))
   obtain ⟨u41, hu41, r42⟩ := bind_some r40
   refine .callS (b1 := []) (b2 := [_, _, _]) (s1 := []) [_] [] .ro rfl rfl Tryz.call175 rfl rfl (solve_Solve_c (G := G27) mcs s33 s36 hu41) rfl (fun v44 bo so h43 => ?_)
   obtain ⟨a46, k47, cs48, rfl, rfl, rfl, o49⟩ := h43
   refine .same (bl' := [_, _, _]) (sl' := [_, _]) rfl rfl rfl (.mv rfl rfl (.q .ro (.extract rfl rfl) rfl (.q .ro (.extract rfl rfl) rfl (.av rfl rfl (.av rfl rfl (.re (.prune [(1, _), (2, _), (3, _), (6, _), (10, _), (13, _), (14, _)] ⟨rfl, rfl, rfl, rfl, rfl, rfl, rfl, trivial⟩ (.seq (.seq (.region rfl (.mv rfl rfl (.q .ro (.neq rfl rfl) rfl (.re ?_)))))))))))))
   refine .cond_dec rfl (fun c50 => ?_) (fun c50 => ?_)
   ·have r51 := ifT r42 c50; clear r42
    exact absurd r51 (by simp)
   ·have r52 := ifF r42 c50; clear r42
    refine .skip (.seq ?_)
    refine .cutG (β := Hp × List Int × Option Addr × Nat × List Int × Option Addr × Nat × List Value) (fun y => [(15, .slice y.2.2.1 y.2.1.length y.2.2.2.1), (16, .slice y.2.2.2.2.2.1 y.2.2.2.2.1.length y.2.2.2.2.2.2.1)]) [(1, _), (2, _), (3, _), (6, _), (10, _)] (fun y => y.1 :: Fs) (fun y => []) [_, _, _] (fun y => [.s (.slice y.2.2.2.2.2.1 y.2.2.2.2.1.length y.2.2.2.2.2.2.1) 3 1 y.2.2.2.2.1.length y.2.2.2.2.2.2.2]) [_] (fun y => HpLe G27 y.1 ∧ Bd w0 S0 Fs y.1 ∧ SlR ri y.1 y.2.2.1 y.2.2.2.1 y.2.1 ∧ OL ri y.1 y.2.2.2.2.2.2.2 y.2.2.2.2.1 ∧ (unique_decode_J1 x1 x2 u19.1 x0_0) y.2.1 y.2.2.2.2.1 = some r) ⟨rfl, rfl, rfl, rfl, rfl, trivial⟩ [0, 1, 2] rfl [1] rfl ?_ ?_
    ·intro y hI
     obtain ⟨G30, v53, a54, k55, v56, a57, k58, cs59⟩ := y
     obtain ⟨e60, B61, s62, o63, r65⟩ := hI
     try dsimp only at e60 B61 s62 o63 r65
     refine .prune [(15, .slice a54 v53.length k55), (16, .slice a57 v56.length k58), (1, _), (2, _), (3, _), (6, _), (10, _)] ⟨rfl, rfl, rfl, rfl, rfl, rfl, rfl, trivial⟩ (.same (bl' := [_, _, _]) (sl' := [.s (.slice a57 v56.length k58) 3 1 v56.length cs59, _]) (Fs' := G30 :: Fs) rfl rfl rfl ?_)
     unfold unique_decode_J1 at r65
     try dsimp only at r65
     refine .seq (.region rfl (.q .ro (.load_own_a 2 [_] rfl rfl ty45 rfl) rfl (.mv rfl rfl (.mv rfl rfl ?_))))
     refine .freezeR 0 rfl rfl o63 [_] rfl B61 (fun G66 e67 B68 s69 => ?_)
     obtain ⟨u70, hu70, r71⟩ := bind_some r65
     refine .callS (b1 := []) (b2 := [_, _, _]) (s1 := []) [_, _, _] [] .ro rfl rfl Tryz.call176 rfl rfl (poly_Divide_c (G := G66) mcs (SlR.mono e67 s62) s69 hu70) rfl (fun v72 bo so h73 => ?_)
     obtain ⟨a74, k75, cs76, a77, k78, cs79, rfl, rfl, rfl, o80, o81⟩ := h73
     refine .same (bl' := [_, _, _]) (sl' := [_, _, _]) rfl rfl rfl (.mv rfl rfl (.q .ro (.extract rfl rfl) rfl (.q .ro (.extract rfl rfl) rfl (.q .ro (.extract rfl rfl) rfl (.av rfl rfl (.av rfl rfl (.av rfl rfl (.re (.seq (.seq (.region rfl (.mv rfl rfl (.q .ro (.neq rfl rfl) rfl (.mv rfl rfl ?_))))))))))))))
     refine .cutR 4 (β := Unit) (fun y => [(88, .bool (decide ((u70.2.2 ≠ 0) ∨ (0 < (u70.2.1.length : Int)))))]) [(1, _), (2, _), (3, _), (6, _), (10, _), (17, _)] (fun y => G66 :: Fs) (fun y => []) [_, _, _] (fun y => []) [_, _, _] (fun y => True) ⟨rfl, rfl, rfl, rfl, rfl, rfl, trivial⟩ [0, 1, 2] rfl [0, 1, 2] rfl ?_ ?_
     ·rintro _ _
      refine .prune [(88, .bool (decide ((u70.2.2 ≠ 0) ∨ (0 < (u70.2.1.length : Int))))), (1, _), (2, _), (3, _), (6, _), (10, _), (17, _)] ⟨rfl, rfl, rfl, rfl, rfl, rfl, rfl, trivial⟩ (.same (bl' := [_, _, _]) (sl' := [_, _, _]) (Fs' := G66 :: Fs) rfl rfl rfl (.mv rfl rfl ?_))
      refine .cutR 5 (β := Unit) (fun y => [(94, .bool (decide (((u70.2.2 ≠ 0) ∨ (0 < (u70.2.1.length : Int))) ∨ (x2 < (u70.1.length : Int)))))]) [(1, _), (3, _), (6, _), (10, _), (17, _)] (fun y => G66 :: Fs) (fun y => []) [_, _, _] (fun y => []) [_, _, _] (fun y => True) ⟨rfl, rfl, rfl, rfl, rfl, trivial⟩ [0, 1, 2] rfl [0, 1, 2] rfl ?_ ?_
      ·rintro _ _
       refine .prune [(94, .bool (decide (((u70.2.2 ≠ 0) ∨ (0 < (u70.2.1.length : Int))) ∨ (x2 < (u70.1.length : Int))))), (1, _), (3, _), (6, _), (10, _), (17, _)] ⟨rfl, rfl, rfl, rfl, rfl, rfl, trivial⟩ (.same (bl' := [_, _, _]) (sl' := [_, _, _]) (Fs' := G66 :: Fs) rfl rfl rfl (.re ?_))
       refine .cond_dec rfl (fun c82 => ?_) (fun c82 => ?_)
       ·have r83 := ifT r71 c82; clear r71
        exact absurd r83 (by simp)
       ·have r84 := ifF r71 c82; clear r71
        refine .skip (.seq (.region rfl (.mv rfl rfl (.q .ro (.fieldAddr 0 rfl fl45_0 ty3.sz rfl) rfl (.q .ro (.load_own 2 rfl rfl ty3 rfl) rfl (.mv rfl rfl (.mv rfl rfl ?_)))))))
        refine .freezeR 0 rfl rfl o80 [_, _] rfl B68 (fun G85 e86 B87 s88 => ?_)
        obtain ⟨u89, hu89, r90⟩ := bind_some r84
        refine .callS (b1 := []) (b2 := [_, _, _]) (s1 := []) [_, _, _] [] .ro rfl rfl Tryz.call177 rfl rfl (unique_wrongs_c (G := G85) mcs (SlR.mono (HpLe.trans (HpLe.trans (HpLe.trans e28 e60) e67) e86) s1) s88 hu89) rfl (fun v91 bo so h92 => ?_)
        obtain ⟨a93, k94, rfl, rfl, rfl, s95⟩ := h92
        refine .same (bl' := [_, _, _]) (sl' := [_, _]) rfl rfl rfl (.q .ro (.build [_, _] [(0, _), (1, _)] ty215 pl215 rfl rfl) rfl ?_)
        refine .alloc .ro ty215 rfl (fun b96 hb96 => ?_)
        refine .store 0 [_, _] [_, _, _, _] .ro rfl rfl rfl ty215 rfl rfl rfl rfl (.re (.seq (.seq (.region rfl (.q .ro (.fieldAddr 1 rfl fl215_1 ty22.sz rfl) rfl (.q .ro (.load_own 0 rfl rfl ty22 rfl) rfl (.q .ro (.len_sl rfl rfl sl22) rfl (.mv rfl rfl (.q .ro (.gtr rfl rfl) rfl (.re (.prune [(6, _), (19, _), (108, _)] ⟨rfl, rfl, rfl, trivial⟩ ?_)))))))))))
        refine .cond_dec rfl (fun c97 => ?_) (fun c97 => ?_)
        ·have r98 := ifT r90 c97; clear r90
         exact absurd r98 (by simp)
        ·have r99 := ifF r90 c97; clear r90
         refine .skip (.seq (.region rfl (.q .ro (.load_own_a 0 [_, _] rfl rfl ty215 rfl) rfl (.store 2 [_, _] [_, _, _, _] .ro rfl rfl rfl ty215 rfl rfl rfl rfl (.av rfl rfl (.re ?_))))))
         cases r99
         refine .drop 0 2 _ [] rfl rfl ?_
         refine .retWD 4 (.inr ⟨_, rfl⟩) [.cell 6 215, .tmp 7] [_, _] rfl Tryz.func152 Tryz.results152 ⟨RV.cell_a 2 [_, _] rfl rfl ty215 rfl, RV.tmp rfl, trivial⟩ mcm mcs B87 (by subst hS0; simp [blks]) (fun G' hg => ⟨a74, k75, a93, k94, rfl, rfl, rfl, (SlR.mono hg s88), (SlR.mono hg s95)⟩)
      ·intro hb101
       refine .split 89 rfl (fun c102 => ?_) (fun c102 => ?_)
       ·refine .g_off rfl rfl rfl ?_
        refine .g_off rfl rfl rfl (.g_off rfl rfl rfl (.g_off rfl rfl rfl (.q .ro (.pick_t rfl rfl) rfl ?_)))
        exact .arr (hb101 () trivial) ⟨dor_t c102, rfl, rfl, rfl, rfl, rfl, trivial⟩
       ·refine .g_on rfl ?_
        refine .mv rfl rfl (.g_on rfl (.q .ro (.len_sl rfl rfl sl22) rfl (.g_on rfl (.mv rfl rfl (.g_on rfl (.q .ro (.gtr rfl rfl) rfl (.q .ro (.pick_f rfl rfl) rfl ?_)))))))
        exact .arr (hb101 () trivial) ⟨dor_f c102, rfl, rfl, rfl, rfl, rfl, trivial⟩
     ·intro hb103
      refine .split 84 rfl (fun c104 => ?_) (fun c104 => ?_)
      ·refine .g_off rfl rfl rfl ?_
       refine .g_off rfl rfl rfl (.g_off rfl rfl rfl (.q .ro (.pick_t rfl rfl) rfl ?_))
       exact .arr (hb103 () trivial) ⟨dor_t c104, rfl, rfl, rfl, rfl, rfl, rfl, trivial⟩
      ·refine .g_on rfl ?_
       refine .mv rfl rfl (.g_on rfl (.q .ro (.len_sl rfl rfl sl22) rfl (.g_on rfl (.q .ro (.gtr rfl rfl) rfl (.q .ro (.pick_f rfl rfl) rfl ?_)))))
       exact .arr (hb103 () trivial) ⟨dor_f c104, rfl, rfl, rfl, rfl, rfl, rfl, trivial⟩
    ·intro hb105
     refine .freezeR 0 rfl rfl o49 [_] rfl B29 (fun G106 e107 B108 s109 => ?_)
     refine .drawL (.q 0 (.q 1 (.q 2 (.q 3 (.q 4 (.q 5 (.q 6 (.q 7 (.q 8 (.q 9 (.alt (.e 10 1 (.e 11 1 (.e 12 1 (.q 13 (.q 14 .nil))))) (.e 11 1 (.e 10 1 (.e 12 1 (.q 13 (.q 14 .nil)))))))))))))))) [_, _, _] (by kernel_rfl) (by kernel_rfl) (pick_mem [0, 1, 2] rfl) ?_
     obtain ⟨u110, hu110, r111⟩ := bind_some r52
     obtain ⟨u112, hu112, r113⟩ := bind_some r111
     obtain ⟨u114, hu114, r115⟩ := bind_some r113
     obtain ⟨u116, hu116, r117⟩ := bind_some r115
     refine .dq (.move rfl) rfl (.dq (.move rfl) rfl (.dq (.move rfl) rfl (.dq (.addw rfl rfl) rfl ?_)))
     obtain ⟨a118, k119, h120, s121⟩ := SlR.sub s109 hu110
     refine .dq (.sliceR s109 rfl hu110 sl22 ty3.sz (fun _ => .no) (fun h => .yes' rfl h) h120) rfl (.dq (.move rfl) rfl (.dq (.move rfl) rfl (.dq (.move rfl) rfl (.dq (.addw rfl rfl) rfl ?_))))
     obtain ⟨a122, k123, h124, s125⟩ := SlR.sub s109 hu112
     refine .dq (.sliceR s109 rfl hu112 sl22 ty3.sz (fun h => .yes' rfl h) (fun _ => .no) h124) rfl ?_
     refine .alt ?_ ?_
     ·refine .callS (b1 := []) (b2 := [_, _, _]) (s1 := []) [_] [] .d1 rfl rfl Tryz.call100 rfl rfl (slices_Clone_Lintint_c (G := G106) mcs s125 hu114) rfl (fun v126 bo so h127 => ?_)
      obtain ⟨a128, k129, cs130, rfl, rfl, rfl, o131⟩ := h127
      refine .same (bl' := [_, _, _]) (sl' := [_, _]) rfl rfl rfl (.clsL (HpLe.refl _) (pick_mem [0, 1, 2] rfl) ?_)
      refine .lit [_] [(0, _)] .d1 sl22 ty3 rfl rfl rfl rfl rfl rfl (fun b132 hb132 => ?_)
      have o133 : OL ri G106 [.int .i64 1] ([1] : List Int) := ((OL.cons rfl (Rep.intI .i64 1) (OL.nil (Rp' := ri))) :)
      refine .reval 72 (n' := ([1] : List Int).length) rfl rfl (.clsL (HpLe.refl _) (pick_mem [0, 1, 2] rfl) ?_)
      refine .appO (Q := ri) 0 .d1 sl22 ty3 rfl rfl rfl rfl rfl rfl o131 o133 rfl rfl rfl B108 hu116 rfl (fun a134 k135 cs136 o137 => ?_)
      refine .clsL (HpLe.refl _) (pick_mem [0, 1, 2] rfl) (.dq (.assign rfl) rfl (.dq (.assign rfl) rfl (.draw_end (.prune [(1, _), (2, _), (3, _), (6, _), (10, _), (15, _), (16, _)] ⟨rfl, rfl, rfl, rfl, rfl, rfl, rfl, trivial⟩ ?_))))
      exact .arr (hb105 (G106, u110, a118, k119, u116, a134, k135, cs136) ⟨e107, B108, s121, o137, r117⟩) ⟨rfl, rfl, rfl, rfl, rfl, rfl, rfl, trivial⟩
     ·refine .lit [_] [(0, _)] .d1 sl22 ty3 rfl rfl rfl rfl rfl rfl (fun b138 hb138 => ?_)
      have o139 : OL ri G106 [.int .i64 1] ([1] : List Int) := ((OL.cons rfl (Rep.intI .i64 1) (OL.nil (Rp' := ri))) :)
      refine .reval 72 (n' := ([1] : List Int).length) rfl rfl (.clsL (HpLe.refl _) (pick_mem [0, 1, 2] rfl) ?_)
      refine .callS (b1 := []) (b2 := [_, _, _]) (s1 := []) [_] [] .d1 rfl rfl Tryz.call100 rfl rfl (slices_Clone_Lintint_c (G := G106) mcs s125 hu114) rfl (fun v140 bo so h141 => ?_)
      obtain ⟨a142, k143, cs144, rfl, rfl, rfl, o145⟩ := h141
      refine .same (bl' := [_, _, _]) (sl' := [_, _, _]) rfl rfl rfl (.clsL (HpLe.refl _) (pick_mem [0, 1, 2] rfl) (.pullS 1 rfl [_, _, _] rfl ?_))
      refine .appO (Q := ri) 0 .d1 sl22 ty3 rfl rfl rfl rfl rfl rfl o145 o139 rfl rfl rfl B108 hu116 rfl (fun a146 k147 cs148 o149 => ?_)
      refine .clsL (HpLe.refl _) (pick_mem [0, 1, 2] rfl) (.dq (.assign rfl) rfl (.dq (.assign rfl) rfl (.draw_end (.prune [(1, _), (2, _), (3, _), (6, _), (10, _), (15, _), (16, _)] ⟨rfl, rfl, rfl, rfl, rfl, rfl, rfl, trivial⟩ ?_))))
      exact .arr (hb105 (G106, u110, a118, k119, u116, a146, k147, cs148) ⟨e107, B108, s121, o149, r117⟩) ⟨rfl, rfl, rfl, rfl, rfl, rfl, rfl, trivial⟩
theorem unique_Decode_c {Fs : List Hp} {G : Hp} {x0_0 : Int} {a1 : Option Addr} {k1 : Nat} {x1 : List (Int × Bool)} {x2 : Int} {r : (((List Int) × (List Int)) × Int)} (hG : G ∈ Fs) (hg0 : Rp G (.pointer (some ⟨0, 0, none⟩)) [ifc233 (some 12)]) (s1 : SlR (Rep.pair ri Rep.bool) G a1 k1 x1) (h : unique_Decode x0_0 x1 x2 = some r) : RetW Tryz.prog 131 #[.agg #[.int .i64 x0_0], .slice a1 x1.length k1, .int .i64 x2] Fs [] [] (fun v bo so G => ∃ a0 : Option Addr, ∃ k0 : Nat, ∃ a1 : Option Addr, ∃ k1 : Nat, v = .tuple #[.agg #[.slice a0 r.1.1.length k0, .slice a1 r.1.2.length k1], .int .i64 r.2] ∧ bo = [] ∧ so = [] ∧ SlR ri G a0 k0 r.1.1 ∧ SlR ri G a1 k1 r.1.2) := by
 unfold unique_Decode at h
 try dsimp only at h
 refine RetW.of (vs := [_, _, _]) Tryz.func131 rfl Tryz.ntmps131 [(0, _), (1, _), (2, _)] ⟨rfl, rfl, rfl, trivial⟩ rfl hG fun w0 S0 hS0 B0 => ?_
 refine .seq (.region rfl ?_)
 refine .box [_] .ro rfl rfl rfl (fun b1 hb1 => ?_)
 refine .alloc .ro ty215 rfl (fun b2 hb2 => ?_)
 refine .av rfl rfl (.re (.seq (.region rfl (.q .ro (.load_own_a 1 [_] rfl rfl ty45 rfl) rfl (.mv rfl rfl (.mv rfl rfl ?_))))))
 obtain ⟨u3, hu3, r4⟩ := bind_some h
 refine .callW (b1 := []) (b2 := [_, _]) (s1 := []) [_, _, _] [] .ro rfl rfl Tryz.call152 rfl rfl (unique_decode_c (G := G) mcs hg0 s1 hu3) rfl B0 (fun v6 bo so G7 e8 B9 h5 => ?_)
 obtain ⟨a11, k12, a14, k15, rfl, rfl, rfl, s13, s16⟩ := h5
 refine .same (bl' := [_, _]) (sl' := []) rfl rfl rfl (.mv rfl rfl (.q .ro (.extract rfl rfl) rfl (.q .ro (.extract rfl rfl) rfl ?_)))
 refine .alloc .ro ty215 rfl (fun b17 hb17 => ?_)
 refine .store 0 [_, _] [_, _, _] .ro rfl rfl rfl ty215 rfl rfl rfl rfl (.av rfl rfl (.re (.seq (.seq (.region rfl (.mv rfl rfl (.q .ro (.load_rp (Rp.mono e8 hg0) mcs rfl ty233 rfl) rfl ?_)))))))
 obtain ⟨u18, hu18, r19⟩ := bind_some r4
 refine .callS (b1 := []) (b2 := [_, _, _]) (s1 := []) [_, _] [] .ro rfl rfl Tryz.call153 rfl rfl (errors_Is_c (G := G7) mcs  hu18) rfl (fun v21 bo so h20 => ?_)
 obtain ⟨rfl, rfl, rfl⟩ := h20
 refine .same (bl' := [_, _, _]) (sl' := []) rfl rfl rfl (.re (.prune [(6, _), (8, _), (9, _), (19, _)] ⟨rfl, rfl, rfl, rfl, trivial⟩ ?_))
 refine .cond rfl (fun c22 => ?_) (fun c22 => ?_)
 ·have r23 := ifT r19 c22; clear r19
  exact absurd r23 (by simp)
 ·have r24 := ifBF r19 c22; clear r19
  refine .skip (.seq (.drawL (.q 0 (.q 1 (.e 2 1 (.e 3 1 (.q 4 .nil))))) [_, _] (by kernel_rfl) (by kernel_rfl) (pick_mem [0, 2] rfl) (.dq (.load_own_a 0 [_, _] rfl rfl ty215 rfl) rfl (.dq (.move rfl) rfl ?_))))
  obtain ⟨u25, hu25, r26⟩ := bind_some r24
  refine .callS (b1 := []) (b2 := [_, _, _]) (s1 := []) [_] [] .d1 rfl rfl Tryz.call154 rfl rfl (unique_number_c (G := G7) mcs  hu25) rfl (fun v28 bo so h27 => ?_)
  obtain ⟨rfl, rfl, rfl⟩ := h27
  refine .same (bl' := [_, _, _]) (sl' := []) rfl rfl rfl (.clsL (HpLe.refl _) (pick_mem [0, 2] rfl) (.store 1 [_, _] [_, _, _] .d1 rfl rfl rfl ty215 rfl rfl rfl rfl (.clsL (HpLe.refl _) (pick_mem [0, 2] rfl) (.dq (.assign rfl) rfl (.draw_end ?_)))))
  cases r26
  refine .retWD 3 (.inr ⟨_, rfl⟩) [.cell 6 215, .tmp 7] [_, _] rfl Tryz.func131 Tryz.results131 ⟨RV.cell_a 1 [_, _] rfl rfl ty215 rfl, RV.tmp rfl, trivial⟩ mcm mcs B9 (by subst hS0; simp [blks]) (fun G' hg => ⟨a11, k12, a14, k15, rfl, rfl, rfl, (SlR.mono hg s13), (SlR.mono hg s16)⟩)
theorem columns_Columns_Decode_c {Fs : List Hp} {G : Hp} {x0_0 : Int} {x0_1 : Int} {a0_2 : Option Addr} {k0_2 : Nat} {x0_2 : List (Bool × (List Int))} {x1 : Int} {r : (((List Int) × (List Int)) × Int)} (hG : G ∈ Fs) (hg0 : Rp G (.pointer (some ⟨0, 0, none⟩)) [ifc233 (some 12)]) (s0_2 : SlR (Rep.pair Rep.bool (Rep.sl ri)) G a0_2 k0_2 x0_2) (h : columns_Columns_Decode (x0_0, x0_1, x0_2) x1 = some r) : RetW Tryz.prog 86 #[.agg #[.int .i64 x0_0, .int .i64 x0_1, .slice a0_2 x0_2.length k0_2], .int .i64 x1] Fs [] [] (fun v bo so G => ∃ a0 : Option Addr, ∃ k0 : Nat, ∃ a1 : Option Addr, ∃ k1 : Nat, v = .tuple #[.agg #[.slice a0 r.1.1.length k0, .slice a1 r.1.2.length k1], .int .i64 r.2] ∧ bo = [] ∧ so = [] ∧ SlR ri G a0 k0 r.1.1 ∧ SlR ri G a1 k1 r.1.2) := by
 unfold columns_Columns_Decode at h
 try dsimp only at h
 refine RetW.of (vs := [_, _]) Tryz.func86 rfl Tryz.ntmps86 [(0, _), (1, _)] ⟨rfl, rfl, trivial⟩ rfl hG fun w0 S0 hS0 B0 => ?_
 refine .seq (.region rfl ?_)
 refine .box [_, _, _] .ro rfl rfl rfl (fun b1 hb1 => ?_)
 refine .alloc .ro ty215 rfl (fun b2 hb2 => ?_)
 refine .av rfl rfl (.re (.seq (.region rfl (.av rfl rfl (.re (.seq (.seq (.region rfl (.q .ro (.fieldAddr 2 rfl fl162_2 ty60.sz rfl) rfl (.q .ro (.load_own 1 rfl rfl ty60 rfl) rfl (.q .ro (.len_sl rfl rfl sl60) rfl (.mv rfl rfl (.re ?_)))))))))))))
 refine .cutB (β := (List (Int × Bool)) × Option Addr × Nat × List Value × Int × Int) (fun y => [(6, .slice y.2.1 y.1.length y.2.2.1)]) [(2, _), (4, _)] (fun y => G :: Fs) (fun y => [(b1, .cells #[.int .i64 y.2.2.2.2.1, .int .i64 y.2.2.2.2.2, .slice a0_2 x0_2.length k0_2] 162 (0, 0))]) [_] (fun y => [.s (.slice y.2.1 y.1.length y.2.2.1) 220 2 y.1.length y.2.2.2.1]) [] (fun y => OL (Rep.pair ri Rep.bool) G y.2.2.2.1 y.1 ∧ columns_Columns_Decode_J1 y.1 y.2.2.2.2.1 y.2.2.2.2.2 = some r) ⟨rfl, rfl, trivial⟩ [0] rfl [] rfl ?_ ?_
 ·intro y hI
  obtain ⟨v10, a11, k12, cs13, v14, v15⟩ := y
  obtain ⟨o16, r17⟩ := hI
  try dsimp only at o16 r17
  refine .prune [(6, .slice a11 v10.length k12), (2, _), (4, _)] ⟨rfl, rfl, rfl, trivial⟩ (.same (bl' := [(b1, .cells #[.int .i64 v14, .int .i64 v15, .slice a0_2 x0_2.length k0_2] 162 (0, 0)), _]) (sl' := [.s (.slice a11 v10.length k12) 220 2 v10.length cs13]) (Fs' := G :: Fs) rfl rfl rfl ?_)
  unfold columns_Columns_Decode_J1 at r17
  try dsimp only at r17
  refine .seq (.region rfl (.q .ro (.fieldAddr 0 rfl fl162_0 ty45.sz rfl) rfl (.q .ro (.load_own_a 0 [_] rfl rfl ty45 rfl) rfl (.mv rfl rfl (.q .ro (.fieldAddr 1 rfl fl162_1 ty3.sz rfl) rfl (.q .ro (.load_own 0 rfl rfl ty3 rfl) rfl ?_))))))
  refine .freezeR 0 rfl rfl o16 [] rfl B0 (fun G18 e19 B20 s21 => ?_)
  obtain ⟨u23, hu23, r24⟩ := bind_some r17
  refine .callW (b1 := []) (b2 := [_, _]) (s1 := []) [_, _, _] [] .ro rfl rfl Tryz.call131 rfl rfl (unique_Decode_c (G := G18) mcs (Rp.mono e19 hg0) s21 hu23) rfl B20 (fun v25 bo so G26 e27 B28 h29 => ?_)
  obtain ⟨a30, k31, a32, k33, rfl, rfl, rfl, s34, s35⟩ := h29
  refine .same (bl' := [_, _]) (sl' := []) rfl rfl rfl (.q .ro (.extract rfl rfl) rfl (.q .ro (.extract rfl rfl) rfl (.store 1 [_, _] [_, _] .ro rfl rfl rfl ty215 rfl rfl rfl rfl (.av rfl rfl (.re ?_)))))
  cases r24
  refine .retWD 2 (.inr ⟨_, rfl⟩) [.cell 4 215, .tmp 5] [_, _] rfl Tryz.func86 Tryz.results86 ⟨RV.cell_a 1 [_, _] rfl rfl ty215 rfl, RV.tmp rfl, trivial⟩ mcm mcs B28 (by subst hS0; simp [blks]) (fun G' hg => ⟨a30, k31, a32, k33, rfl, rfl, rfl, (SlR.mono hg s34), (SlR.mono hg s35)⟩)
 ·intro hb36
  refine .block (.own_nil 220 2 ?_)
  refine .loop2 (α := Nat × (List (Bool × (List Int))) × (List (Int × Bool)) × Option Addr × Nat × List Value) (fun y => [(6, .slice y.2.2.2.1 y.2.2.1.length y.2.2.2.2.1), (13, .int .i64 (y.1 : Int))]) [(1, _), (2, _), (4, _), (11, _), (12, _)] (fun y => []) (fun y => []) [_, _] (fun y => [.s (.slice y.2.2.2.1 y.2.2.1.length y.2.2.2.2.1) 220 2 y.2.2.1.length y.2.2.2.2.2]) [] (fun y => OL (Rep.pair ri Rep.bool) G y.2.2.2.2.2 y.2.2.1 ∧ List.drop y.1 x0_2 = y.2.1 ∧ columns_Columns_Decode_L3 columns_Columns_Decode_J1 x1 x0_0 x0_1 y.2.1 y.2.2.1 = some r) (fun y => y.2.1.length) (0, x0_2, ([] : List (Int × Bool)), none, 0, []) ⟨(OL.nil (Rp' := (Rep.pair ri Rep.bool))), rfl, h⟩ ⟨rfl, rfl, rfl, rfl, rfl, rfl, rfl, trivial⟩ rfl rfl rfl (fun y hI hb37 => ?_)
  obtain ⟨i38, w39, v40, a41, k42, cs43⟩ := y
  obtain ⟨o44, g46, r47⟩ := hI
  try dsimp only at o44 g46 r47
  refine .prune [(6, .slice a41 v40.length k42), (13, .int .i64 (i38 : Int)), (1, _), (2, _), (4, _), (11, _), (12, _)] ⟨rfl, rfl, rfl, rfl, rfl, rfl, rfl, trivial⟩ (.same (bl' := [_, _]) (sl' := [.s (.slice a41 v40.length k42) 220 2 v40.length cs43]) (Fs' := G :: Fs) rfl rfl rfl ?_)
  cases w39 with
  | nil =>
   rw [columns_Columns_Decode_L3] at r47; try dsimp only at r47
   refine .seq (.region rfl (.q .ro (.lss rfl rfl) rfl (.re (.seq ?_))))
   refine .cond_dec rfl (fun c => absurd c (drop_nil g46)) (fun _ => ?_)
   refine .exit rfl (.pull 1 rfl [_, _] rfl ?_)
   exact .arr (hb36 (v40, a41, k42, cs43, x0_0, x0_1) ⟨o44, r47⟩) ⟨rfl, rfl, rfl, trivial⟩
  | cons x48 xs49 =>
   have r50 : columns_Columns_Decode_B3 columns_Columns_Decode_J1 x1 x0_0 x0_1 (columns_Columns_Decode_L3 columns_Columns_Decode_J1 x1 x0_0 x0_1 xs49) x48 v40 = some r := r47; clear r47; unfold columns_Columns_Decode_B3 at r50; try dsimp only at r50
   refine .seq (.region rfl (.q .ro (.lss rfl rfl) rfl (.re (.seq ?_))))
   refine .cond_dec rfl (fun _ => ?_) (fun c => absurd (drop_lt g46) c)
   refine .skip (.seq (.block (.seq (.region rfl ?_))))
   obtain ⟨c51, p52, h53⟩ := SlR.get s0_2 (drop_idx g46)
   obtain ⟨_, _, rfl, rfl, a54, k55, rfl, s56⟩ := h53
   refine .q .ro (.idxR s0_2 rfl rfl (drop_idx g46) sl60 ty63.sz) rfl (.q .ro (.load_rp_a [_, _] p52 mcs rfl ty63 rfl) rfl ?_)
   refine .alloc .ro ty63 rfl (fun b57 hb57 => ?_)
   refine .store 0 [_, _] [_, _, _] .ro rfl rfl rfl ty63 rfl rfl rfl rfl (.re (.seq (.region rfl (.q .ro (.fieldAddr 0 rfl fl63_0 ty4.sz rfl) rfl (.q .ro (.load_own 0 rfl rfl ty4 rfl) rfl (.q .ro (.build [_, _] [(1, _)] ty220 pl220 rfl rfl) rfl ?_))))))
   refine .alloc .ro ty220 rfl (fun b58 hb58 => ?_)
   refine .store 0 [_, _] [_, _, _, _] .ro rfl rfl rfl ty220 rfl rfl rfl rfl (.re (.seq (.seq (.region rfl (.q .ro (.fieldAddr 0 rfl fl63_0 ty4.sz rfl) rfl (.q .ro (.load_own 1 rfl rfl ty4 rfl) rfl (.re ?_)))))))
   refine .cutI (β := Int) (fun y => []) [(6, _), (13, _), (1, _), (2, _), (4, _), (11, _), (12, _), (9, _)] (fun y => G :: Fs) (fun y => [(b58, .cells #[.int .i64 y, .bool x48.1] 220 (0, 0))]) [_, _, _] (fun y => []) [_] (fun y => (columns_Columns_Decode_J2 (columns_Columns_Decode_L3 columns_Columns_Decode_J1 x1 x0_0 x0_1 xs49) x48.1 v40) y = some r) ⟨rfl, rfl, rfl, rfl, rfl, rfl, rfl, rfl, trivial⟩ [1, 2, 3] rfl [0] rfl ?_ ?_
   ·intro v59 hI
    have r61 := hI; clear hI
    refine .prune [(6, _), (13, _), (1, _), (2, _), (4, _), (11, _), (12, _), (9, _)] ⟨rfl, rfl, rfl, rfl, rfl, rfl, rfl, rfl, trivial⟩ (.same (bl' := [(b58, .cells #[.int .i64 v59, .bool x48.1] 220 (0, 0)), _, _, _]) (sl' := [_]) (Fs' := G :: Fs) rfl rfl rfl ?_)
    unfold columns_Columns_Decode_J2 at r61
    try dsimp only at r61
    refine .region rfl (.mv rfl rfl (.q .ro (.load_own_a 0 [_, _] rfl rfl ty220 rfl) rfl ?_))
    refine .lit [_, _] [(0, _)] .ro sl218 ty220 rfl rfl rfl rfl rfl rfl (fun b62 hb62 => ?_)
    have o65 : OL (Rep.pair ri Rep.bool) G [.int .i64 v59, .bool x48.1] ([(v59, x48.1)] : List (Int × Bool)) := ((OL.cons rfl (Rep.pairI (Rep.intI .i64 v59) (Rep.boolI x48.1)) (OL.nil (Rp' := (Rep.pair ri Rep.bool)))) :)
    refine .reval 30 (n' := ([(v59, x48.1)] : List (Int × Bool)).length) rfl rfl ?_
    obtain ⟨u66, hu66, r67⟩ := bind_some r61
    refine .appO (Q := (Rep.pair ri Rep.bool)) 0 .ro sl218 ty220 rfl rfl rfl rfl rfl rfl o44 o65 rfl rfl rfl B0 hu66 rfl (fun a68 k69 cs70 o71 => ?_)
    refine .av rfl rfl (.re (.inBlock (.region rfl (.q .ro (.addw rfl rfl) rfl (.mv rfl rfl (.re (.drop 2 0 [_, _] _ rfl rfl ?_)))))))
    exact .arr (hb37 ((i38 + 1), xs49, u66, a68, k69, cs70) ⟨o71, (drop_succ g46), r67⟩ (Nat.lt_succ_self _)) ⟨rfl, (congrArg (fun z => some (Value.int .i64 z)) (idx_wrap (SlR.len s0_2) g46)), rfl, rfl, rfl, rfl, rfl, trivial⟩
   ·intro hb72
    refine .cond rfl (fun c73 => ?_) (fun c73 => ?_)
    ·have r74 := ifT r50 c73; clear r50
     refine .region rfl (.q .ro (.fieldAddr 1 rfl fl63_1 ty22.sz rfl) rfl (.q .ro (.load_own 1 rfl rfl ty22 rfl) rfl (.mv rfl rfl ?_)))
     obtain ⟨u75, hu75, r76⟩ := bind_some r74
     obtain ⟨c77, p78, h79⟩ := SlR.get s56 hu75
     obtain rfl := h79
     refine .q .ro (.idxR s56 rfl rfl hu75 sl22 ty3.sz) rfl (.q .ro (.load_rp p78 mcs rfl ty3 rfl) rfl (.q .ro (.fieldAddr 0 rfl fl220_0 ty3.sz rfl) rfl (.store 0 [_, _] [_, _, _, _] .ro rfl rfl rfl ty3 rfl rfl rfl rfl (.re (.prune [(6, _), (13, _), (1, _), (2, _), (4, _), (11, _), (12, _), (9, _)] ⟨rfl, rfl, rfl, rfl, rfl, rfl, rfl, rfl, trivial⟩ ?_)))))
     exact .arr (hb72 (u75) r76) ⟨rfl, rfl, rfl, rfl, rfl, rfl, rfl, rfl, trivial⟩
    ·have r80 := ifBF r50 c73; clear r50
     refine .skip ?_
     exact .arr (hb72 (0) r80) ⟨rfl, rfl, rfl, rfl, rfl, rfl, rfl, rfl, trivial⟩
theorem slices_insertionSortOrdered_int_c {Fs : List Hp} {G : Hp} {a0 : Option Addr} {k0 : Nat} {x0 : List Int} {cc0 : List Value} {bb0 : Option Nat} {pre0 post0 : List Value} {x1 : Int} {x2 : Int} {r : (List Int)} (hG : G ∈ Fs) (vva0 : VA a0 bb0 x0.length k0 pre0 cc0) (oo0 : OL ri G cc0 x0) (h : slices_insertionSortOrdered_int x0 x1 x2 = some r) : RetS Tryz.prog 159 #[.slice a0 x0.length k0, .int .i64 x1, .int .i64 x2] Fs [] [.g (viewG bb0 3 pre0 cc0 post0)] (fun v bo so => ∃ lc0 : List Value, v = .tuple #[] ∧ bo = [] ∧ so = [.g (viewG bb0 3 pre0 lc0 post0)] ∧ OL ri G lc0 r ∧ r.length = x0.length) := by
 unfold slices_insertionSortOrdered_int at h
 try dsimp only at h
 refine RetS.of (vs := [_, _, _]) Tryz.func159 rfl Tryz.ntmps159 [(0, _), (1, _), (2, _)] ⟨rfl, rfl, rfl, trivial⟩ rfl hG fun w0 S0 hS0 B0 => ?_
 refine .seq (.region rfl (.mv rfl rfl (.q .ro (.addw rfl rfl) rfl (.av rfl rfl (.re (.block ?_))))))
 refine .loop2 (α := Nat) (fun y => []) [(0, _), (1, _), (2, _), (6, _)] (fun y => []) (fun y => []) [] (fun y => []) [_] (fun y => slices_insertionSortOrdered_int_L1 x2 (w64 (x1 + 1)) x0 y  = some r) (fun y => y) (big) h ⟨rfl, rfl, rfl, rfl, trivial⟩ rfl rfl rfl (fun n7 hI hb10 => ?_)
 have r9 := hI; clear hI
 refine .prune [(0, _), (1, _), (2, _), (6, _)] ⟨rfl, rfl, rfl, rfl, trivial⟩ (.same (bl' := []) (sl' := [_]) (Fs' := G :: Fs) rfl rfl rfl ?_)
 obtain ⟨m16, rfl⟩ : ∃ m, n7 = m + 1 := by cases n7 with | zero => exact absurd (show (none : Option _) = some _ from r9) (by simp) | succ m => exact ⟨m, rfl⟩
 have r15 : slices_insertionSortOrdered_int_B1 x2 (w64 (x1 + 1)) x0 (slices_insertionSortOrdered_int_L1 x2 (w64 (x1 + 1)) x0 m16)  = some r := r9; clear r9; unfold slices_insertionSortOrdered_int_B1 at r15; try dsimp only at r15
 refine .seq (.seq (.region rfl (.mv rfl rfl (.mv rfl rfl (.q .ro (.lss rfl rfl) rfl (.re ?_))))))
 refine .cond_dec rfl (fun c17 => ?_) (fun c17 => ?_)
 ·have r18 := ifT r15 c17; clear r15
  exact absurd r18 (by simp)
 ·have r19 := ifF r15 c17; clear r15
  refine .exit rfl ?_
  cases r19
  refine .retS (.inl rfl) [] [] rfl Tryz.func159 Tryz.results159 trivial mcm ⟨cc0, rfl, rfl, rfl, oo0, rfl⟩
end Go.Proofs.YtfcicopgdahmcaaGreatDoor
end

section
set_option maxHeartbeats 4000000
set_option maxRecDepth 100000
namespace Go.Proofs.YtfcicopgdahmcaaGreatDoor
open Go.RowKit
set_option linter.unusedSimpArgs false
set_option linter.unusedVariables false
set_option synthInstance.maxSize 2000
set_option synthInstance.maxHeartbeats 400000
theorem math_bits_Len64_c {Fs : List Hp} {G : Hp} {x0 : Int} {r : Int} (hG : G ∈ Fs)  (h : math_bits_Len64 x0 = some r) : RetS Tryz.prog 169 #[.int .u64 x0] Fs [] [] (fun v bo so => v = .int .i64 r ∧ bo = [] ∧ so = []) := by
 unfold math_bits_Len64 at h
 try dsimp only at h
 refine RetS.of (vs := [_]) Tryz.func169 rfl Tryz.ntmps169 [(0, _)] ⟨rfl, trivial⟩ rfl hG fun w0 S0 hS0 B0 => ?_
 refine .seq (.region rfl (.av rfl rfl (.re (.seq (.seq (.region rfl (.mv rfl rfl (.q .ro (.geq rfl rfl) rfl (.re ?_)))))))))
 refine .cutI (β := Unit) (fun y => []) [(0, _), (2, _)] (fun y => G :: Fs) (fun y => []) [] (fun y => []) [] (fun y => (math_bits_Len64_J3 x0)  = some r) ⟨rfl, rfl, trivial⟩ [] rfl [] rfl ?_ ?_
 ·intro _ hI
  have r6 := hI; clear hI
  refine .prune [(0, _), (2, _)] ⟨rfl, rfl, trivial⟩ (.same (bl' := []) (sl' := []) (Fs' := G :: Fs) rfl rfl rfl ?_)
  unfold math_bits_Len64_J3 at r6
  try dsimp only at r6
  refine .seq (.seq (.region rfl (.mv rfl rfl (.q .ro (.geq rfl rfl) rfl (.re ?_)))))
  refine .cutI (β := Unit) (fun y => []) [(0, _), (2, _)] (fun y => G :: Fs) (fun y => []) [] (fun y => []) [] (fun y => (math_bits_Len64_J2 x0)  = some r) ⟨rfl, rfl, trivial⟩ [] rfl [] rfl ?_ ?_
  ·intro _ hI
   have r13 := hI; clear hI
   refine .prune [(0, _), (2, _)] ⟨rfl, rfl, trivial⟩ (.same (bl' := []) (sl' := []) (Fs' := G :: Fs) rfl rfl rfl ?_)
   unfold math_bits_Len64_J2 at r13
   try dsimp only at r13
   refine .seq (.seq (.region rfl (.mv rfl rfl (.q .ro (.geq rfl rfl) rfl (.re ?_)))))
   refine .cutI (β := Unit) (fun y => []) [(0, _), (2, _)] (fun y => G :: Fs) (fun y => []) [] (fun y => []) [] (fun y => (math_bits_Len64_J1 x0)  = some r) ⟨rfl, rfl, trivial⟩ [] rfl [] rfl ?_ ?_
   ·intro _ hI
    have r20 := hI; clear hI
    refine .prune [(0, _), (2, _)] ⟨rfl, rfl, trivial⟩ (.same (bl' := []) (sl' := []) (Fs' := G :: Fs) rfl rfl rfl ?_)
    unfold math_bits_Len64_J1 at r20
    try dsimp only at r20
    refine .seq (.region rfl (.mv rfl rfl (.mv rfl rfl (.q .ro (.convw Tryz.underlying251 Tryz.underlying5 rfl) rfl ?_))))
    obtain ⟨u22, hu22, r23⟩ := bind_some r20
    refine .q .ro (.sidx rfl rfl Tryz.underlying9 hu22) rfl (.q .ro (.convw Tryz.underlying5 Tryz.underlying3 rfl) rfl (.q .ro (.addw rfl rfl) rfl (.av rfl rfl (.re ?_))))
    cases r23
    refine .retS (.inr ⟨_, rfl⟩) [.tmp 2] [_] rfl Tryz.func169 Tryz.results169 ⟨RV.tmp rfl, trivial⟩ mcm ⟨rfl, rfl, rfl⟩
   ·intro hb24
    refine .cond_dec rfl (fun c25 => ?_) (fun c25 => ?_)
    ·have r26 := ifT r13 c25; clear r13
     exact absurd r26 (by simp)
    ·have r27 := ifF r13 c25; clear r13
     refine .skip ?_
     exact .arr (hb24 () r27) ⟨rfl, rfl, trivial⟩
  ·intro hb28
   refine .cond_dec rfl (fun c29 => ?_) (fun c29 => ?_)
   ·have r30 := ifT r6 c29; clear r6
    exact absurd r30 (by simp)
   ·have r31 := ifF r6 c29; clear r6
    refine .skip ?_
    exact .arr (hb28 () r31) ⟨rfl, rfl, trivial⟩
 ·intro hb32
  refine .cond_dec rfl (fun c33 => ?_) (fun c33 => ?_)
  ·have r34 := ifT h c33; clear h
   exact absurd r34 (by simp)
  ·have r35 := ifF h c33; clear h
   refine .skip ?_
   exact .arr (hb32 () r35) ⟨rfl, rfl, trivial⟩
theorem math_bits_Len_c {Fs : List Hp} {G : Hp} {x0 : Int} {r : Int} (hG : G ∈ Fs)  (h : math_bits_Len x0 = some r) : RetS Tryz.prog 151 #[.int .u64 x0] Fs [] [] (fun v bo so => v = .int .i64 r ∧ bo = [] ∧ so = []) := by
 unfold math_bits_Len at h
 try dsimp only at h
 refine RetS.of (vs := [_]) Tryz.func151 rfl Tryz.ntmps151 [(0, _)] ⟨rfl, trivial⟩ rfl hG fun w0 S0 hS0 B0 => ?_
 refine .seq (.region rfl (.av rfl rfl (.re (.seq (.cond_false rfl (.skip (.seq (.region rfl (.mv rfl rfl ?_)))))))))
 obtain ⟨u1, hu1, r2⟩ := bind_some h
 refine .callS (b1 := []) (b2 := []) (s1 := []) [_] [] .ro rfl rfl Tryz.call169 rfl rfl (math_bits_Len64_c (G := G) mcs  hu1) rfl (fun v4 bo so h3 => ?_)
 obtain ⟨rfl, rfl, rfl⟩ := h3
 refine .same (bl' := []) (sl' := []) rfl rfl rfl (.av rfl rfl (.re ?_))
 cases r2
 refine .retS (.inr ⟨_, rfl⟩) [.tmp 2] [_] rfl Tryz.func151 Tryz.results151 ⟨RV.tmp rfl, trivial⟩ mcm ⟨rfl, rfl, rfl⟩
end Go.Proofs.YtfcicopgdahmcaaGreatDoor
end

section
set_option maxHeartbeats 4000000
set_option maxRecDepth 100000
namespace Go.Proofs.YtfcicopgdahmcaaGreatDoor
open Go.RowKit
set_option linter.unusedSimpArgs false
set_option linter.unusedVariables false
set_option synthInstance.maxSize 2000
set_option synthInstance.maxHeartbeats 400000
theorem slices_pdqsortOrdered_int_R_c (n : Nat) : ∀ {Fs : List Hp} {G : Hp} {a0 : Option Addr} {k0 : Nat} {x0 : List Int} {cc0 : List Value} {bb0 : Option Nat} {pre0 post0 : List Value} {x1 : Int} {x2 : Int} {x3 : Int} {r : (List Int)} (hG : G ∈ Fs) (vva0 : VA a0 bb0 x0.length k0 pre0 cc0) (oo0 : OL ri G cc0 x0) (h : slices_pdqsortOrdered_int_R n x0 x1 x2 x3 = some r), RetS Tryz.prog 150 #[.slice a0 x0.length k0, .int .i64 x1, .int .i64 x2, .int .i64 x3] Fs [] [.g (viewG bb0 3 pre0 cc0 post0)] (fun v bo so => ∃ lc0 : List Value, v = .tuple #[] ∧ bo = [] ∧ so = [.g (viewG bb0 3 pre0 lc0 post0)] ∧ OL ri G lc0 r ∧ r.length = x0.length) := by
 induction n with
 | zero => intro Fs G a0 k0 x0 cc0 bb0 pre0 post0 x1 x2 x3 r hG vva0 oo0 h; exact absurd h (by unfold slices_pdqsortOrdered_int_R; simp)
 | succ n ih =>
  intro Fs G a0 k0 x0 cc0 bb0 pre0 post0 x1 x2 x3 r hG vva0 oo0 h
  unfold slices_pdqsortOrdered_int_R at h
  unfold slices_pdqsortOrdered_int_B2 at h
  try dsimp only at h
  refine RetS.of (vs := [_, _, _, _]) Tryz.func150 rfl Tryz.ntmps150 [(0, _), (1, _), (2, _), (3, _)] ⟨rfl, rfl, rfl, rfl, trivial⟩ rfl hG fun w0 S0 hS0 B0 => ?_
  refine .seq (.region rfl (.av rfl rfl (.re (.seq (.region rfl (.av rfl rfl (.re (.block ?_))))))))
  refine .loop2 (α := Nat) (fun y => []) [(0, _), (1, _), (2, _), (3, _), (8, _), (9, _)] (fun y => []) (fun y => []) [] (fun y => []) [_] (fun y => slices_pdqsortOrdered_int_L1 x1 x2 x0 y  = some r) (fun y => y) (big) h ⟨rfl, rfl, rfl, rfl, rfl, rfl, trivial⟩ rfl rfl rfl (fun n20 hI hb23 => ?_)
  have r22 := hI; clear hI
  refine .prune [(0, _), (1, _), (2, _), (3, _), (8, _), (9, _)] ⟨rfl, rfl, rfl, rfl, rfl, rfl, trivial⟩ (.same (bl' := []) (sl' := [_]) (Fs' := G :: Fs) rfl rfl rfl ?_)
  obtain ⟨m29, rfl⟩ : ∃ m, n20 = m + 1 := by cases n20 with | zero => exact absurd (show (none : Option _) = some _ from r22) (by simp) | succ m => exact ⟨m, rfl⟩
  have r28 : slices_pdqsortOrdered_int_B1 x1 x2 x0 (slices_pdqsortOrdered_int_L1 x1 x2 x0 m29)  = some r := r22; clear r22; unfold slices_pdqsortOrdered_int_B1 at r28; try dsimp only at r28
  refine .block (.seq (.region rfl (.mv rfl rfl (.mv rfl rfl (.q .ro (.subw rfl rfl) rfl (.av rfl rfl (.re (.seq (.seq (.region rfl (.mv rfl rfl (.q .ro (.leq rfl rfl) rfl (.re ?_)))))))))))))
  refine .cond_dec rfl (fun c30 => ?_) (fun c30 => ?_)
  ·have r31 := ifT r28 c30; clear r28
   refine .seq (.region rfl (.mv rfl rfl (.mv rfl rfl (.mv rfl rfl ?_))))
   obtain ⟨u32, hu32, r33⟩ := bind_some r31
   refine .callS (b1 := []) (b2 := []) (s1 := [_]) [_, _, _] [] .ro rfl rfl Tryz.call159 rfl rfl (slices_insertionSortOrdered_int_c (G := G) mcs vva0 oo0 hu32) rfl (fun v35 bo so h34 => ?_)
   obtain ⟨cs36, rfl, rfl, rfl, o37, hl38⟩ := h34
   refine .same (bl' := []) (sl' := [_]) rfl rfl rfl ?_
   have va40 := VA.call vva0 oo0 o37 hl38
   refine .reval 0 hl38 rfl (.reval 24 hl38 rfl (.re (.prune [] trivial ?_)))
   cases r33
   refine .retS (.inr ⟨_, rfl⟩) [] [] rfl Tryz.func150 Tryz.results150 trivial mcm ⟨cs36, rfl, rfl, rfl, o37, hl38⟩
  ·have r41 := ifF r28 c30; clear r28
   exact absurd r41 (by simp)
theorem slices_pdqsortOrdered_int_c {Fs : List Hp} {G : Hp} {a0 : Option Addr} {k0 : Nat} {x0 : List Int} {cc0 : List Value} {bb0 : Option Nat} {pre0 post0 : List Value} {x1 : Int} {x2 : Int} {x3 : Int} {r : (List Int)} (hG : G ∈ Fs) (vva0 : VA a0 bb0 x0.length k0 pre0 cc0) (oo0 : OL ri G cc0 x0) (h : slices_pdqsortOrdered_int x0 x1 x2 x3 = some r) : RetS Tryz.prog 150 #[.slice a0 x0.length k0, .int .i64 x1, .int .i64 x2, .int .i64 x3] Fs [] [.g (viewG bb0 3 pre0 cc0 post0)] (fun v bo so => ∃ lc0 : List Value, v = .tuple #[] ∧ bo = [] ∧ so = [.g (viewG bb0 3 pre0 lc0 post0)] ∧ OL ri G lc0 r ∧ r.length = x0.length) := by
 unfold slices_pdqsortOrdered_int at h
 exact slices_pdqsortOrdered_int_R_c big hG vva0 oo0 h
theorem slices_Sort_Lintint_c {Fs : List Hp} {G : Hp} {a0 : Option Addr} {k0 : Nat} {x0 : List Int} {cc0 : List Value} {bb0 : Option Nat} {pre0 post0 : List Value} {r : (List Int)} (hG : G ∈ Fs) (vva0 : VA a0 bb0 x0.length k0 pre0 cc0) (oo0 : OL ri G cc0 x0) (h : slices_Sort_Lintint x0 = some r) : RetS Tryz.prog 129 #[.slice a0 x0.length k0] Fs [] [.g (viewG bb0 3 pre0 cc0 post0)] (fun v bo so => ∃ lc0 : List Value, v = .tuple #[] ∧ bo = [] ∧ so = [.g (viewG bb0 3 pre0 lc0 post0)] ∧ OL ri G lc0 r ∧ r.length = x0.length) := by
 unfold slices_Sort_Lintint at h
 try dsimp only at h
 refine RetS.of (vs := [_]) Tryz.func129 rfl Tryz.ntmps129 [(0, _)] ⟨rfl, trivial⟩ rfl hG fun w0 S0 hS0 B0 => ?_
 refine .seq (.region rfl (.mv rfl rfl (.q .ro (.len_sl rfl rfl sl22) rfl (.av rfl rfl (.re (.region rfl (.mv rfl rfl (.mv rfl rfl (.mv rfl rfl (.q .ro (.convw Tryz.underlying3 Tryz.underlying212 rfl) rfl ?_))))))))))
 obtain ⟨u2, hu2, r3⟩ := bind_some h
 refine .callS (b1 := []) (b2 := []) (s1 := []) [_] [] .ro rfl rfl Tryz.call151 rfl rfl (math_bits_Len_c (G := G) mcs  hu2) rfl (fun v5 bo so h4 => ?_)
 obtain ⟨rfl, rfl, rfl⟩ := h4
 refine .same (bl' := []) (sl' := [_]) rfl rfl rfl ?_
 obtain ⟨u6, hu6, r7⟩ := bind_some r3
 refine .callS (b1 := []) (b2 := []) (s1 := [_]) [_, _, _, _] [] .ro rfl rfl Tryz.call150 rfl rfl (slices_pdqsortOrdered_int_c (G := G) mcs vva0 oo0 hu6) rfl (fun v9 bo so h8 => ?_)
 obtain ⟨cs10, rfl, rfl, rfl, o11, hl12⟩ := h8
 refine .same (bl' := []) (sl' := [_]) rfl rfl rfl ?_
 have va14 := VA.call vva0 oo0 o11 hl12
 refine .reval 0 hl12 rfl (.reval 3 hl12 rfl (.reval 5 hl12 rfl (.re ?_)))
 cases r7
 refine .retS (.inl rfl) [] [] rfl Tryz.func129 Tryz.results129 trivial mcm ⟨cs10, rfl, rfl, rfl, o11, hl12⟩
theorem slices_Compact_Lintint_c {Fs : List Hp} {G : Hp} {a0 : Option Addr} {k0 : Nat} {x0 : List Int} {cc0 : List Value} {bb0 : Option Nat} {pre0 post0 : List Value} {r : ((Int × Int) × (List Int))} (hG : G ∈ Fs) (vva0 : VA a0 bb0 x0.length k0 pre0 cc0) (oo0 : OL ri G cc0 x0) (h : slices_Compact_Lintint x0 = some r) : RetS Tryz.prog 130 #[.slice a0 x0.length k0] Fs [] [.g (viewG bb0 3 pre0 cc0 post0)] (fun v bo so => ∃ pq0 : Value, ∃ lc0 : List Value, v = pq0 ∧ bo = [] ∧ so = [.g (viewG bb0 3 pre0 lc0 post0)] ∧ PartV a0 1 pq0 r.1.1.toNat (r.1.2 - r.1.1).toNat ∧ OL ri G lc0 r.2 ∧ r.2.length = x0.length) := by
 unfold slices_Compact_Lintint at h
 try dsimp only at h
 refine RetS.of (vs := [_]) Tryz.func130 rfl Tryz.ntmps130 [(0, _)] ⟨rfl, trivial⟩ rfl hG fun w0 S0 hS0 B0 => ?_
 refine .seq (.region rfl (.av rfl rfl (.re (.seq (.seq (.region rfl (.mv rfl rfl (.q .ro (.len_sl rfl rfl sl22) rfl (.q .ro (.lss rfl rfl) rfl (.re ?_))))))))))
 refine .cond_dec rfl (fun c2 => ?_) (fun c2 => ?_)
 ·have r3 := ifT h c2; clear h
  refine .seq (.region rfl (.mv rfl rfl (.av rfl rfl (.re ?_))))
  cases r3
  refine .retS (.inr ⟨_, rfl⟩) [.tmp 2] [_] rfl Tryz.func130 Tryz.results130 ⟨RV.tmp rfl, trivial⟩ mcm ⟨_, cc0, rfl, rfl, rfl, (PartV.all vva0.1), oo0, rfl⟩
 ·have r4 := ifF h c2; clear h
  exact absurd r4 (by simp)
end Go.Proofs.YtfcicopgdahmcaaGreatDoor
end
