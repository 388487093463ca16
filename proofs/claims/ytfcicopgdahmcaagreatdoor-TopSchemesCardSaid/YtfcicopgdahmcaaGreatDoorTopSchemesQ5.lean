/- What the proof needs, gathered by wip/gen/shake.py. -/
import Derived.Calls
import Derived.Deep.Quiet
import Derived.Below
import Derived.Laws.AppendOwn
import Derived.WalkKit
import Derived.Laws.OwnMore
import Derived.Deep.Slices
import Derived.ChangeOld
import Derived.ArgAppend
import Derived.RangeFuncIn
import Derived.RangeFuncRecord
import Derived.RangeFuncLeaves
import Derived.Laws.MakeOwn
import Derived.IntWalk
import Derived.Laws.IdiomStrings
import Derived.Laws.Cover3
import Derived.Laws.CopyOwn
import Derived.MapKept
import Derived.RangeFuncNested
import Derived.Test.YtfcicopgdahmcaaGreatDoorRows
import Derived.LaidEql
import Derived.Stop.Asserts
import Derived.RowKitTokens
import Derived.Test.YtfcicopgdahmcaaGreatDoorCards
import Derived.LaidLaws
import Derived.Look8
import Derived.MakeChecks
import Derived.Test.YtfcicopgdahmcaaGreatDoorTie
import Derived.LaidMore
import Derived.Lay
import Derived.SevenTiedAt
import Derived.Stop.Joined
import Derived.ProofKit
import Derived.OpenShut
import Derived.ShutString
import Derived.Test.YtfcicopgdahmcaaGreatDoorTopSchemesQ4

section
set_option maxHeartbeats 4000000
set_option maxRecDepth 100000
namespace Go.Proofs.YtfcicopgdahmcaaGreatDoor
open Go.RowKit
set_option linter.unusedSimpArgs false
set_option linter.unusedVariables false
set_option synthInstance.maxSize 2000
set_option synthInstance.maxHeartbeats 400000
variable {Fs : List Hp} {G : Hp} {a2 a0_0 a4 a4_0 a0 : Option Addr} {k2 p0 k0_0 k4 k4_0 k0 : Nat}
theorem parity_Decode_c {x0_0 : Int} {x1 : Int} {x2 : List (Bool × (List Int))} {r : (((List Int) × (List Int)) × Int)} (hG : G ∈ Fs) (s2 : SlR (Rep.pair Rep.bool (Rep.sl ri)) G a2 k2 x2) (h : parity_Decode x0_0 x1 x2 = some r) : RetW Tryz.prog 24 #[.agg #[.int .i64 x0_0], .int .i64 x1, .slice a2 x2.length k2] Fs [] [] (fun v bo so G => ∃ a0 : Option Addr, ∃ k0 : Nat, ∃ a1 : Option Addr, ∃ k1 : Nat, v = .tuple #[.agg #[.slice a0 r.1.1.length k0, .slice a1 r.1.2.length k1], .int .i64 r.2] ∧ bo = [] ∧ so = [] ∧ SlR ri G a0 k0 r.1.1 ∧ SlR ri G a1 k1 r.1.2) := by
 unfold parity_Decode at h
 try dsimp only at h
 refine RetW.st [(0, _), (1, _), (2, _)] Tryz.func24 Tryz.ntmps24 hG fun w0 S0 hS0 B0 => ?_
 refine .go 2 ?_
 refine .box [_] .ro rfl rfl rfl (fun b1 hb1 => ?_)
 refine .alloc .ro ty65 rfl (fun b2 hb2 => ?_)
 refine .go 4 ?_
 refine .q .ro (.load_own_a 1 [_] rfl rfl ty45 rfl) rfl ?_
 obtain ⟨u3, hu3, r4⟩ := bind_some h
 refine .cV [_] Tryz.call72 (residue_Of_c mcs  hu3) ?_
 refine .go 7 ?_
 refine .block (.go 6 ?_)
 refine .cB r4 (fun c7 r8 => ?_) (fun c7 r9 => ?_)
 ·refine .go 2 ?_
  refine .q .ro (.build [_, _] [] ty65 pl65 rfl rfl) rfl (.store 0 [_, _] [_, _] .ro rfl rfl rfl ty65 rfl rfl rfl rfl (.go 2 ?_))
  cases r8
  refine .rW 2 [.cell 6 65, .tmp 7] [_, _] Tryz.func24 Tryz.results24 ⟨RV.cell_a 0 [_, _] rfl rfl ty65 rfl, RV.tmp rfl, trivial⟩ B0 hS0 (fun G' hg => ⟨none, 0, none, 0, rfl, rfl, rfl, (SlR.mono hg (SlR.nil (Rp' := ri))), (SlR.mono hg (SlR.nil (Rp' := ri)))⟩)
 ·refine .go 5 ?_
  refine .kR (fun y => y = ⟨[(28, .bool (decide ((x1 < 0) ∨ (64 < x1))))], G :: Fs, [], []⟩) [(1, _), (2, _), (6, _), (8, _)] [_, _] [0, 1] [] [] 3 ?_ ?_
  ·rintro _ rfl
   refine .gn 1 ?_
   refine .kR (fun y => y = ⟨[(33, .bool (decide (((x1 < 0) ∨ (64 < x1)) ∨ ((x2.length : Int) < 2))))], G :: Fs, [], []⟩) [(1, _), (2, _), (6, _), (8, _)] [_, _] [0, 1] [] [] 4 ?_ ?_
   ·rintro _ rfl
    refine .gn 1 ?_
    refine .kR (fun y => y = ⟨[(38, .bool (decide ((((x1 < 0) ∨ (64 < x1)) ∨ ((x2.length : Int) < 2)) ∨ (10 < (x2.length : Int)))))], G :: Fs, [], []⟩) [(1, _), (2, _), (6, _), (8, _)] [_, _] [0, 1] [] [] 4 ?_ ?_
    ·rintro _ rfl
     refine .gn 2 ?_
     refine .cH r9 (fun c22 r23 => ?_) (fun c22 r24 => ?_)
     ·refine .go 2 ?_
      refine .q .ro (.build [_, _] [] ty65 pl65 rfl rfl) rfl (.store 0 [_, _] [_, _] .ro rfl rfl rfl ty65 rfl rfl rfl rfl (.go 2 ?_))
      cases r23
      refine .rW 2 [.cell 6 65, .tmp 7] [_, _] Tryz.func24 Tryz.results24 ⟨RV.cell_a 0 [_, _] rfl rfl ty65 rfl, RV.tmp rfl, trivial⟩ B0 hS0 (fun G' hg => ⟨none, 0, none, 0, rfl, rfl, rfl, (SlR.mono hg (SlR.nil (Rp' := ri))), (SlR.mono hg (SlR.nil (Rp' := ri)))⟩)
     ·refine .go 13 ?_
      refine .kB (fun y => ∃ (Z0 : List (List Int)) (Z1 : _) (Z2 : Nat) (Z3 Z4 : _), y = ⟨[(10, .slice Z1 Z0.length Z2)], G :: Fs, [(b1, .cells #[.int .i64 Z4] 45 (0, 0))], [.s (.slice Z1 Z0.length Z2) 22 1 Z0.length Z3]⟩ ∧ OL (Rep.sl ri) G Z3 Z0 ∧ (parity_Decode_J1 x1 u3.1) Z0 Z4 = some r) [(1, _), (6, _), (8, _)] [_] [0] [] [] ?_ ?_
      ·rintro _ ⟨v12, a13, k16, cs17, v20, rfl, o21, r25⟩
       refine .gn 0 ?_
       unfold parity_Decode_J1 at r25
       try dsimp only at r25
       refine .go 5 ?_
       refine .freezeR 0 rfl rfl o21 [] rfl B0 (fun G26 e27 B28 s29 => ?_)
       obtain ⟨u30, hu30, r31⟩ := bind_some r25
       refine .cW [_] Tryz.call69 (parity_each_c mcs s29 hu30) B28 (fun v32 bo so G33 e34 B35 h36 => ?_)
       obtain ⟨F37, c38, rfl, rfl, rfl, hc39, hi40⟩ := h36
       refine .gn 0 ?_
       obtain ⟨u41, hu41, r42⟩ := bind_some r31
       refine .cS [_, _, _] Tryz.call68 (parity_sum_c mcs hc39 hi40 hu41) (fun v43 bo so h44 => ?_)
       obtain ⟨a46, k47, cs48, rfl, rfl, rfl, o49⟩ := h44
       refine .gn 0 ?_
       refine .q .ro (.build [_, _] [(0, _)] ty65 pl65 rfl rfl) rfl (.store 1 [_, _] [_, _] .ro rfl rfl rfl ty65 rfl rfl rfl rfl (.go 2 ?_))
       refine .freezeR 0 rfl rfl o49 [] rfl B35 (fun G50 e52 B53 s54 => ?_)
       cases r42
       refine .rW 2 [.cell 6 65, .tmp 7] [_, _] Tryz.func24 Tryz.results24 ⟨RV.cell_a 1 [_, _] rfl rfl ty65 rfl, RV.tmp rfl, trivial⟩ B53 hS0 (fun G' hg => ⟨a46, k47, none, 0, rfl, rfl, rfl, (SlR.mono hg s54), (SlR.mono hg (SlR.nil (Rp' := ri)))⟩)
      ·intro hb55
       refine .block (.own_nil 22 1 ?_)
       refine .lp (fun y m => ∃ (Z0 : Nat) (Z1 : List (Bool × (List Int))) (Z2 : List (List Int)) (Z3 : _) (Z4 : Nat) (Z5 : _), y = ⟨[(10, .slice Z3 Z2.length Z4), (42, .int .i64 (Z0 : Int))], [], [], [.s (.slice Z3 Z2.length Z4) 22 1 Z2.length Z5]⟩ ∧ Z1.length = m ∧ OL (Rep.sl ri) G Z5 Z2 ∧ List.drop Z0 x2 = Z1 ∧ parity_Decode_L2 (parity_Decode_J1 x1 u3.1) x1 u3.1 x0_0 Z1 Z2 = some r) [(1, _), (6, _), (8, _), (40, _), (41, _)] [_, _] [] ⟨0, x2, ([] : List (List Int)), none, 0, [], rfl, rfl, (OL.nil (Rp' := (Rep.sl ri))), rfl, r24⟩ (fun y m hI hb56 => ?_)
       obtain ⟨i57, w58, v59, a61, k62, cs66, rfl, rfl, o67, g70, r71⟩ := hI
       refine .gn 0 ?_
       cases w58 with
       | nil =>
        rw [parity_Decode_L2] at r71; try dsimp only at r71
        refine .go 5 ?_
        refine .cond_dec rfl (fun c => absurd c (drop_nil g70)) (fun _ => ?_)
        refine .exit rfl (.pull 1 rfl [_, _] rfl ?_)
        exact (hb55 _ ⟨v59, a61, k62, cs66, x0_0, rfl, o67, r71⟩).ar
       | cons x74 xs75 =>
        have r76 : parity_Decode_B2 (parity_Decode_J1 x1 u3.1) x1 u3.1 x0_0 (parity_Decode_L2 (parity_Decode_J1 x1 u3.1) x1 u3.1 x0_0 xs75) x74 v59 = some r := r71; clear r71; unfold parity_Decode_B2 at r76; try dsimp only at r76
        refine .go 5 ?_
        refine .cond_dec rfl (fun _ => ?_) (fun c => absurd (drop_lt g70) c)
        refine .go 2 ?_
        refine .block (.go 2 ?_)
        obtain ⟨c77, p78, h79⟩ := SlR.get s2 (drop_idx g70)
        obtain ⟨_, _, rfl, rfl, a80, k81, rfl, s82⟩ := h79
        refine .q .ro (.idxR s2 rfl rfl (drop_idx g70) sl60 ty63.sz) rfl (.q .ro (.load_rp_a [_, _] p78 mcs rfl ty63 rfl) rfl ?_)
        refine .alloc .ro ty63 rfl (fun b83 hb83 => ?_)
        refine .store 0 [_, _] [_, _, _] .ro rfl rfl rfl ty63 rfl rfl rfl rfl (.go 2 ?_)
        refine .block (.go 7 ?_)
        refine .cB r76 (fun c84 r85 => ?_) (fun c84 r86 => ?_)
        ·refine .go 2 ?_
         refine .q .ro (.build [_, _] [] ty65 pl65 rfl rfl) rfl (.store 1 [_, _] [_, _, _] .ro rfl rfl rfl ty65 rfl rfl rfl rfl (.go 2 ?_))
         cases r85
         refine .drop 0 1 _ [] rfl rfl ?_
         refine .rW 3 [.cell 6 65, .tmp 7] [_, _] Tryz.func24 Tryz.results24 ⟨RV.cell_a 1 [_, _] rfl rfl ty65 rfl, RV.tmp rfl, trivial⟩ B0 hS0 (fun G' hg => ⟨none, 0, none, 0, rfl, rfl, rfl, (SlR.mono hg (SlR.nil (Rp' := ri))), (SlR.mono hg (SlR.nil (Rp' := ri)))⟩)
        ·refine .go 9 ?_
         refine .cH r86 (fun c87 r88 => ?_) (fun c87 r89 => ?_)
         ·refine .go 2 ?_
          refine .q .ro (.build [_, _] [] ty65 pl65 rfl rfl) rfl (.store 1 [_, _] [_, _, _] .ro rfl rfl rfl ty65 rfl rfl rfl rfl (.go 2 ?_))
          cases r88
          refine .drop 0 1 _ [] rfl rfl ?_
          refine .rW 3 [.cell 6 65, .tmp 7] [_, _] Tryz.func24 Tryz.results24 ⟨RV.cell_a 1 [_, _] rfl rfl ty65 rfl, RV.tmp rfl, trivial⟩ B0 hS0 (fun G' hg => ⟨none, 0, none, 0, rfl, rfl, rfl, (SlR.mono hg (SlR.nil (Rp' := ri))), (SlR.mono hg (SlR.nil (Rp' := ri)))⟩)
         ·refine .go 5 ?_
          obtain ⟨u90, hu90, r91⟩ := bind_some r89
          refine .cV [_, _] Tryz.call73 (residue_Field_All_c mcs s82 hu90) ?_
          refine .go 3 ?_
          refine .cB r91 (fun c92 r93 => ?_) (fun c92 r94 => ?_)
          ·refine .go 2 ?_
           refine .q .ro (.build [_, _] [] ty65 pl65 rfl rfl) rfl (.store 1 [_, _] [_, _, _] .ro rfl rfl rfl ty65 rfl rfl rfl rfl (.go 2 ?_))
           cases r93
           refine .drop 0 1 _ [] rfl rfl ?_
           refine .rW 3 [.cell 6 65, .tmp 7] [_, _] Tryz.func24 Tryz.results24 ⟨RV.cell_a 1 [_, _] rfl rfl ty65 rfl, RV.tmp rfl, trivial⟩ B0 hS0 (fun G' hg => ⟨none, 0, none, 0, rfl, rfl, rfl, (SlR.mono hg (SlR.nil (Rp' := ri))), (SlR.mono hg (SlR.nil (Rp' := ri)))⟩)
          ·refine .go 6 ?_
           refine .lit [_] [(0, _)] .ro sl51 ty22 rfl rfl rfl rfl rfl rfl (fun b95 hb95 => ?_)
           have o96 : OL (Rep.sl ri) G [.slice a80 x74.2.length k81] ([x74.2] : List (List Int)) := ((OL.cons rfl (Rep.slI s82) (OL.nil (Rp' := (Rep.sl ri)))) :)
           refine .reval 68 (n' := ([x74.2] : List (List Int)).length) rfl rfl ?_
           obtain ⟨u97, hu97, r98⟩ := bind_some r94
           refine .appO (Q := (Rep.sl ri)) 0 .ro sl51 ty22 rfl rfl rfl rfl rfl rfl o67 o96 rfl rfl rfl B0 hu97 rfl (fun a99 k100 cs101 o102 => ?_)
           refine .go 7 ?_
           refine .drop 1 0 [_, _] _ rfl rfl ?_
           exact (hb56 _ _ ⟨(i57 + 1), xs75, u97, a99, k100, cs101, rfl, rfl, o102, (drop_succ g70), r98⟩ (Nat.lt_succ_self _)).ax ⟨rfl, (congrArg (fun z => some (Value.int .i64 z)) (idx_wrap (SlR.len s2) g70)), rfl, rfl, rfl, rfl, rfl, trivial⟩
    ·intro hb19
     refine .split 34 rfl (fun c18 => ?_) (fun c18 => ?_)
     ·refine .go 4 ?_
      exact (hb19 _ rfl).ax ⟨dor_t c18, rfl, rfl, rfl, rfl, trivial⟩
     ·refine .go 7 ?_
      exact (hb19 _ rfl).ax ⟨dor_f c18, rfl, rfl, rfl, rfl, trivial⟩
   ·intro hb15
    refine .split 29 rfl (fun c14 => ?_) (fun c14 => ?_)
    ·refine .go 4 ?_
     exact (hb15 _ rfl).ax ⟨dor_t c14, rfl, rfl, rfl, rfl, trivial⟩
    ·refine .go 7 ?_
     exact (hb15 _ rfl).ax ⟨dor_f c14, rfl, rfl, rfl, rfl, trivial⟩
  ·intro hb11
   refine .split 25 rfl (fun c10 => ?_) (fun c10 => ?_)
   ·refine .go 3 ?_
    exact (hb11 _ rfl).ax ⟨dor_t c10, rfl, rfl, rfl, rfl, trivial⟩
   ·refine .go 5 ?_
    exact (hb11 _ rfl).ax ⟨dor_f c10, rfl, rfl, rfl, rfl, trivial⟩
theorem curve_Limits_c {x0_0 : Int} {x1_0 : Int} {x1_1 : Int} {x2 : Int} {r : ((List Int) × Int)} (hG : G ∈ Fs)  (h : curve_Limits x0_0 (x1_0, x1_1) x2 = some r) : RetS Tryz.prog 74 #[.agg #[.int .i64 x0_0], .agg #[.int .i64 x1_0, .int .i64 x1_1], .int .i64 x2] Fs [] [] (fun v bo so => ∃ (oa0 : Option Addr) (ok0 : Nat) (oc0 : List Value), v = .tuple #[.slice oa0 r.1.length ok0, .int .i64 r.2] ∧ bo = [] ∧ so = [.s (.slice oa0 r.1.length ok0) 3 1 r.1.length oc0] ∧ OL ri G oc0 r.1) := by
 unfold curve_Limits at h
 try dsimp only at h
 refine RetS.st [(0, _), (1, _), (2, _)] Tryz.func74 Tryz.ntmps74 hG fun w0 S0 hS0 B0 => ?_
 refine .go 2 ?_
 refine .box [_] .ro rfl rfl rfl (fun b1 hb1 => ?_)
 refine .box [_, _] .ro rfl rfl rfl (fun b2 hb2 => ?_)
 refine .go 6 ?_
 refine .q .ro (.load_own_a 1 [_] rfl rfl ty45 rfl) rfl (.q .ro (.load_own_a 0 [_, _] rfl rfl ty69 rfl) rfl (.go 1 ?_))
 obtain ⟨u3, hu3, r4⟩ := bind_some h
 refine .cV [_, _, _] Tryz.call111 (curve_check_c mcs  hu3) ?_
 refine .go 7 ?_
 refine .cH r4 (fun c7 r8 => ?_) (fun c7 r10 => ?_)
 ·refine .go 6 ?_
  refine .own_nil 3 1 ?_
  cases r8
  refine .drop 2 0 [] _ rfl rfl ?_
  refine .rS [.tmp 6, .tmp 7] [_, _] Tryz.func74 Tryz.results74 ⟨none, 0, [], rfl, rfl, rfl, (OL.nil (Rp' := ri))⟩
 ·refine .go 14 ?_
  refine .block (.own_nil 3 1 ?_)
  refine .lp (fun y m => ∃ (Z0 : Nat) (Z1 : List Int) (Z2 : _) (Z3 : Nat) (Z4 Z5 : _), y = ⟨[(9, .slice Z2 Z1.length Z3), (21, .int .i64 Z5)], [], [], [.s (.slice Z2 Z1.length Z3) 3 1 Z1.length Z4]⟩ ∧ Z0 = m ∧ OL ri G Z4 Z1 ∧ curve_Limits_L1 (w64 (x2 * x1_1)) x0_0 Z0 Z1 Z5 = some r) [(3, _), (20, _)] [_, _] [] ⟨big, ([] : List Int), none, 0, [], 0, rfl, rfl, (OL.nil (Rp' := ri)), r10⟩ (fun y m hI hb63 => ?_)
  obtain ⟨n53, v55, a56, k57, cs58, v61, rfl, rfl, o59, r62⟩ := hI
  refine .gn 0 ?_
  obtain ⟨m69, rfl⟩ : ∃ m, n53 = m + 1 := by cases n53 with | zero => exact absurd (show (none : Option _) = some _ from r62) (by simp) | succ m => exact ⟨m, rfl⟩
  have r68 : curve_Limits_B1 (w64 (x2 * x1_1)) x0_0 (curve_Limits_L1 (w64 (x2 * x1_1)) x0_0 m69) v55 v61 = some r := r62; clear r62; unfold curve_Limits_B1 at r68; try dsimp only at r68
  refine .go 5 ?_
  refine .cH r68 (fun c70 r71 => ?_) (fun c70 r82 => ?_)
  ·refine .go 2 ?_
   refine .block (.go 4 ?_)
   refine .lit [_] [(0, _)] .ro sl22 ty3 rfl rfl rfl rfl rfl rfl (fun b72 hb72 => ?_)
   have o73 : OL ri G [.int .i64 x0_0] ([x0_0] : List Int) := ((OL.cons rfl (Rep.intI .i64 x0_0) (OL.nil (Rp' := ri))) :)
   refine .reval 26 (n' := ([x0_0] : List Int).length) rfl rfl ?_
   obtain ⟨u79, hu79, r80⟩ := bind_some r71
   refine .appO (Q := ri) 0 .ro sl22 ty3 rfl rfl rfl rfl rfl rfl o59 o73 rfl rfl rfl B0 hu79 rfl (fun a75 k76 cs77 o78 => ?_)
   refine .go 7 ?_
   exact (hb63 _ _ ⟨m69, u79, a75, k76, cs77, (w64 (v61 + 1)), rfl, rfl, o78, r80⟩ (Nat.lt_succ_self _)).ar
  ·refine .exit rfl ?_
   refine .go 6 ?_
   cases r82
   refine .drop 2 0 [] _ rfl rfl ?_
   refine .rS [.tmp 6, .tmp 7] [_, _] Tryz.func74 Tryz.results74 ⟨a56, k57, cs58, rfl, rfl, rfl, o59⟩
theorem make_Order_c {x0_0 : List Int} {x0_1 : Int} {x1 : Int} {r : ((List Int) × ((List Int) × Int))} (hG : G ∈ Fs) (s0_0 : SlR ri G a0_0 k0_0 x0_0) (h : make_Order (x0_0, x0_1) x1 = some r) : RetW Tryz.prog 127 #[.pointer (some ⟨p0, 0, none⟩), .int .i64 x1] Fs [(p0, .cells #[.slice a0_0 x0_0.length k0_0, .int .i64 x0_1] 121 (0, 0))] [] (fun v bo so G => ∃ a0 : Option Addr, ∃ k0 : Nat, ∃ (oa0 : Option Addr) (ok0 : Nat) (oc0 : List Value), v = .slice oa0 r.1.length ok0 ∧ bo = [(p0, .cells #[.slice a0 r.2.1.length k0, .int .i64 r.2.2] 121 (0, 0))] ∧ so = [.s (.slice oa0 r.1.length ok0) 3 1 r.1.length oc0] ∧ SlR ri G a0 k0 r.2.1 ∧ OL ri G oc0 r.1) := by
 unfold make_Order at h
 try dsimp only at h
 refine RetW.st [(0, _), (1, _)] Tryz.func127 Tryz.ntmps127 hG fun w0 S0 hS0 B0 => ?_
 refine .go 15 ?_
 refine .kB (fun y => ∃ (Z0 : List Int) (Z1 : _) (Z2 : Nat) (Z3 Z4 : _), y = ⟨[(5, .slice Z1 Z0.length Z2)], G :: Fs, [(p0, .cells #[.slice a0_0 x0_0.length k0_0, .int .i64 Z4] 121 (0, 0))], [.s (.slice Z1 Z0.length Z2) 3 1 Z0.length Z3]⟩ ∧ OL ri G Z3 Z0 ∧ (make_Order_J2 x0_0) Z0 Z4 = some r) [(0, _), (6, _)] [] [] [] [] ?_ ?_
 ·rintro _ ⟨v67, a68, k69, cs70, v73, rfl, o71, r75⟩
  refine .gn 0 ?_
  unfold make_Order_J2 at r75
  try dsimp only at r75
  refine .go 1 ?_
  refine .block ?_
  refine .freezeR 0 rfl rfl o71 [] rfl B0 (fun G13 e14 B15 s16 => ?_)
  refine .own_nil 3 1 ?_
  refine .lp (fun y m => ∃ (Z0 : Nat) (Z1 : _) (Z2 : List Int) (Z3 : _) (Z4 : Nat) (Z5 : List Int) (Z6 : _) (Z7 : Nat) (Z8 : _) (Z9 : List Int) (Z10 : _) (Z11 : Nat) (Z12 : _), y = ⟨[(5, .slice Z3 Z2.length Z4), (6, .slice Z6 Z5.length Z7)], [Z1], [(p0, .cells #[.slice Z10 Z9.length Z11, .int .i64 Z12] 121 (0, 0))], [.s (.slice Z6 Z5.length Z7) 3 1 Z5.length Z8]⟩ ∧ Z0 = m ∧ HpLe G13 Z1 ∧ Bd w0 S0 Fs Z1 ∧ SlR ri Z1 Z3 Z4 Z2 ∧ OL ri Z1 Z8 Z5 ∧ SlR ri Z1 Z10 Z11 Z9 ∧ make_Order_L1 Z0 Z2 Z5 Z9 Z12 = some r) [(0, _)] [] [] ⟨big, G13, v67, a68, k69, ([] : List Int), none, 0, [], x0_0, a0_0, k0_0, v73, rfl, rfl, (HpLe.refl _), B15, s16, (OL.nil (Rp' := ri)), (SlR.mono e14 s0_0), r75⟩ (fun y m hI hb17 => ?_)
  obtain ⟨n19, G20, v21, a23, k24, v25, a26, k27, cs28, v29, a30, k31, v32, rfl, rfl, e33, B34, s35, o36, s37, r38⟩ := hI
  refine .gn 0 ?_
  obtain ⟨m39, rfl⟩ : ∃ m, n19 = m + 1 := by cases n19 with | zero => exact absurd (show (none : Option _) = some _ from r38) (by simp) | succ m => exact ⟨m, rfl⟩
  have r40 : make_Order_B1 (make_Order_L1 m39) v21 v25 v29 v32 = some r := r38; clear r38; unfold make_Order_B1 at r40; try dsimp only at r40
  refine .go 7 ?_
  refine .cH r40 (fun c41 r42 => ?_) (fun c41 r43 => ?_)
  ·refine .go 1 ?_
   refine .block (.go 5 ?_)
   obtain ⟨u44, hu44, r45⟩ := bind_some r42
   refine .callS (b1 := [_]) (b2 := []) (s1 := []) [_, _] [] .ro rfl rfl Tryz.call18 rfl rfl (make_Deck_Next_c mcs s37 hu44) rfl (fun v46 bo so h47 => ?_)
   obtain ⟨a48, k49, rfl, rfl, rfl, s50⟩ := h47
   refine .gn 7 ?_
   obtain ⟨u51, hu51, r52⟩ := bind_some r45
   obtain ⟨c53, p54, h55⟩ := SlR.get s35 hu51
   obtain rfl := h55
   refine .q .ro (.idxR s35 rfl rfl hu51 sl22 ty3.sz) rfl (.q .ro (.load_rp p54 mcs rfl ty3 rfl) rfl ?_)
   refine .lit [_] [(0, _)] .ro sl22 ty3 rfl rfl rfl rfl rfl rfl (fun b56 hb56 => ?_)
   have o57 : OL ri G20 [.int .i64 u51] ([u51] : List Int) := ((OL.cons rfl (Rep.intI .i64 u51) (OL.nil (Rp' := ri))) :)
   refine .reval 30 (n' := ([u51] : List Int).length) rfl rfl ?_
   obtain ⟨u58, hu58, r59⟩ := bind_some r52
   refine .appO (Q := ri) 0 .ro sl22 ty3 rfl rfl rfl rfl rfl rfl o36 o57 rfl rfl rfl B34 hu58 rfl (fun a60 k61 cs62 o63 => ?_)
   refine .go 2 ?_
   refine .drawL (.q 0 (.q 1 (.q 2 (.q 3 (.q 4 (.q 5 (.q 6 (.q 7 (.e 8 1 (.q 9 .nil)))))))))) [_] (by kernel_rfl) (by kernel_rfl) (pick_mem [0] rfl) (.go 3 ?_)
   obtain ⟨u65, hu65, r66⟩ := bind_some r59
   obtain ⟨a72, k74, h76, s77⟩ := SlR.sub3 s35 hu65
   refine .dq (.sliceR3n s35 rfl hu65 sl22 ty3.sz rfl rfl h76) rfl (.go 3 ?_)
   obtain ⟨u78, hu78, r79⟩ := bind_some r66
   obtain ⟨a80, k81, h82, s83⟩ := SlR.sub s35 hu78
   refine .dq (.sliceR s35 rfl hu78 sl22 ty3.sz (fun h => .yes' rfl h) (fun _ => .no) h82) rfl ?_
   obtain ⟨u84, hu84, r85⟩ := bind_some r79
   refine .appF (Q := ri) .d1 sl22 ty3 rfl rfl rfl rfl rfl s77 (sub3_full h76) rfl s83 rfl hu84 rfl B34 (fun a86 k87 G88 e89 B90 s91 => ?_)
   refine .clsL e89 (pick_mem [0] rfl) (.go 3 ?_)
   exact (hb17 _ _ ⟨m39, G88, u84, a86, k87, u58, a60, k61, cs62, u44.2.1, a48, k49, u44.2.2, rfl, rfl, (HpLe.trans e33 e89), B90, s91, (OL.mono e89 o63), (SlR.mono e89 s50), r85⟩ (Nat.lt_succ_self _)).ar
  ·refine .exit rfl ?_
   refine .go 5 ?_
   cases r43
   refine .rW 0 [.tmp 4] [_] Tryz.func127 Tryz.results127 ⟨RV.tmp rfl, trivial⟩ B34 hS0 (fun G' hg => ⟨a30, k31, a26, k27, cs28, rfl, rfl, rfl, (SlR.mono hg s37), (OL.mono hg o36)⟩)
 ·intro hb92
  refine .block (.own_nil 3 1 ?_)
  refine .lp (fun y m => ∃ (Z0 : Nat) (Z1 : List Int) (Z2 : _) (Z3 : Nat) (Z4 Z5 : _), y = ⟨[(5, .slice Z2 Z1.length Z3), (10, .int .i64 Z5)], [], [], [.s (.slice Z2 Z1.length Z3) 3 1 Z1.length Z4]⟩ ∧ Z0 = m ∧ OL ri G Z4 Z1 ∧ make_Order_L3 (make_Order_J2 x0_0) x1 x0_1 Z0 Z1 Z5 = some r) [(0, _), (6, _), (9, _)] [_] [] ⟨big, ([] : List Int), none, 0, [], 0, rfl, rfl, (OL.nil (Rp' := ri)), h⟩ (fun y m hI hb93 => ?_)
  obtain ⟨n94, v95, a96, k97, cs98, v99, rfl, rfl, o100, r101⟩ := hI
  refine .gn 0 ?_
  obtain ⟨m102, rfl⟩ : ∃ m, n94 = m + 1 := by cases n94 with | zero => exact absurd (show (none : Option _) = some _ from r101) (by simp) | succ m => exact ⟨m, rfl⟩
  have r103 : make_Order_B3 (make_Order_J2 x0_0) x1 x0_1 (make_Order_L3 (make_Order_J2 x0_0) x1 x0_1 m102) v95 v99 = some r := r101; clear r101; unfold make_Order_B3 at r103; try dsimp only at r103
  refine .go 5 ?_
  refine .cH r103 (fun c104 r105 => ?_) (fun c104 r106 => ?_)
  ·refine .go 2 ?_
   refine .block (.go 8 ?_)
   refine .lit [_] [(0, _)] .ro sl22 ty3 rfl rfl rfl rfl rfl rfl (fun b107 hb107 => ?_)
   have o108 : OL ri G [.int .i64 v99] ([v99] : List Int) := ((OL.cons rfl (Rep.intI .i64 v99) (OL.nil (Rp' := ri))) :)
   refine .reval 15 (n' := ([v99] : List Int).length) rfl rfl ?_
   obtain ⟨u109, hu109, r110⟩ := bind_some r105
   refine .appO (Q := ri) 0 .ro sl22 ty3 rfl rfl rfl rfl rfl rfl o100 o108 rfl rfl rfl B0 hu109 rfl (fun a111 k112 cs113 o114 => ?_)
   refine .go 7 ?_
   exact (hb93 _ _ ⟨m102, u109, a111, k112, cs113, (w64 (v99 + 1)), rfl, rfl, o114, r110⟩ (Nat.lt_succ_self _)).ar
  ·refine .exit rfl ?_
   exact (hb92 _ ⟨v95, a96, k97, cs98, x0_1, rfl, o100, r106⟩).ar
theorem make_Answers_c {x0_0 : List Int} {x0_1 : Int} {x1_0 : Int} {x2 : List (List Int)} {x3 : Int} {x4 : Int} {r : ((List (Bool × (List Int))) × (List Int) × ((List Int) × Int))} (hG : G ∈ Fs) (s0_0 : SlR ri G a0_0 k0_0 x0_0) (s2 : SlR (Rep.sl ri) G a2 k2 x2) (h : make_Answers (x0_0, x0_1) x1_0 x2 x3 x4 = some r) : RetW Tryz.prog 75 #[.pointer (some ⟨p0, 0, none⟩), .agg #[.int .i64 x1_0], .slice a2 x2.length k2, .int .i64 x3, .int .i64 x4] Fs [(p0, .cells #[.slice a0_0 x0_0.length k0_0, .int .i64 x0_1] 121 (0, 0))] [] (fun v bo so G => ∃ a0 : Option Addr, ∃ k0 : Nat, ∃ a1 : Option Addr, ∃ k1 : Nat, ∃ a2 : Option Addr, ∃ k2 : Nat, v = .tuple #[.slice a0 r.1.length k0, .slice a1 r.2.1.length k1] ∧ bo = [(p0, .cells #[.slice a2 r.2.2.1.length k2, .int .i64 r.2.2.2] 121 (0, 0))] ∧ so = [] ∧ SlR (Rep.pair Rep.bool (Rep.sl ri)) G a0 k0 r.1 ∧ SlR ri G a1 k1 r.2.1 ∧ SlR ri G a2 k2 r.2.2.1) := by
 unfold make_Answers at h
 try dsimp only at h
 refine RetW.st [(0, _), (1, _), (2, _), (3, _), (4, _)] Tryz.func75 Tryz.ntmps75 hG fun w0 S0 hS0 B0 => ?_
 refine .go 2 ?_
 refine .box [_] .ro rfl rfl rfl (fun b1 hb1 => ?_)
 refine .go 14 ?_
 refine .kB (fun y => ∃ (Z0 : List (Bool × (List Int))) (Z1 : _) (Z2 : Nat) (Z3 Z4 Z5 Z6 : _), y = ⟨[(12, .slice Z1 Z0.length Z2)], G :: Fs, [(b1, .cells #[.int .i64 Z5] 45 (0, 0)), (p0, .cells #[.slice a0_0 x0_0.length k0_0, .int .i64 Z6] 121 (0, 0))], [.s (.slice Z1 Z0.length Z2) 63 2 Z0.length Z4, .g (packG 3 1 Z3)]⟩ ∧ NS shp63 ri shE63 G Z3 Z4 Z0 ∧ (make_Answers_J4 x2 x3 x4 x0_0) Z0 Z5 Z6 = some r) [(0, _), (2, _), (3, _), (4, _), (6, _)] [] [] [] [] ?_ ?_
 ·rintro _ ⟨v13, a14, k15, es16, cs17, v19, v20, rfl, o21, r23⟩
  refine .gn 0 ?_
  unfold make_Answers_J4 at r23
  try dsimp only at r23
  refine .go 4 ?_
  obtain ⟨u24, hu24, r25⟩ := bind_some r23
  refine .makeR (G := G) (Q := Rep.bool) .ro sl174 ty4 rfl rfl rfl ((Rep.boolI false) :) rfl rfl hu24 rfl rfl (fun b26 cs27 hb26 o28 => ?_)
  refine .go 8 ?_
  obtain ⟨u29, hu29, r30⟩ := bind_some r25
  refine .pull 1 rfl [_, _] rfl ?_
  refine .callW (b1 := [_]) (b2 := [_]) (s1 := []) [_, _] [] .ro rfl rfl Tryz.call127 rfl rfl (make_Order_c mcs s0_0 hu29) rfl B0 (fun v31 bo so G32 e33 B34 h35 => ?_)
  obtain ⟨a36, k37, a38, k39, cs40, rfl, rfl, rfl, s41, o42⟩ := h35
  refine .gn 3 ?_
  refine .kB (fun y => ∃ (Z0 : List (Bool × (List Int))) (Z1 Z2 : _) (Z3 : List Bool) (Z4 : _) (Z5 : Nat) (Z6 : _) (Z7 : List Int) (Z8 : _) (Z9 : Nat) (Z10 Z11 : _), y = ⟨[(12, .slice a14 Z0.length k15), (15, .slice Z4 Z3.length Z5)], G32 :: Fs, [(p0, .cells #[.slice Z8 Z7.length Z9, .int .i64 Z10] 121 (0, 0)), (b1, .cells #[.int .i64 Z11] 45 (0, 0))], [.s (.slice a14 Z0.length k15) 63 2 Z0.length Z2, .g (packG 3 1 Z1), .s (.slice Z4 Z3.length Z5) 4 1 Z3.length Z6]⟩ ∧ NS shp63 ri shE63 G32 Z1 Z2 Z0 ∧ Z0.length = v13.length ∧ OL Rep.bool G32 Z6 Z3 ∧ SlR ri G32 Z8 Z9 Z7 ∧ make_Answers_J2 Z0 Z3 Z7 Z10 Z11 = some r) [] [] [] [_] [0] ?_ ?_
  ·rintro _ ⟨v43, es44, cs46, v47, a48, k49, cs50, v52, a53, k54, v55, v56, rfl, o57, hl58, o59, s61, r62⟩
   refine .gn 0 ?_
   unfold make_Answers_J2 at r62
   try dsimp only at r62
   refine .go 11 ?_
   refine .block (.own_nil 3 1 ?_)
   refine .lp (fun y m => ∃ (Z0 : Nat) (Z1 : List Bool) (Z2 : List Int) (Z3 : _) (Z4 : Nat) (Z5 : _), y = ⟨[(19, .slice Z3 Z2.length Z4), (111, .int .i64 (Z0 : Int))], [], [], [.s (.slice Z3 Z2.length Z4) 3 1 Z2.length Z5]⟩ ∧ Z1.length = m ∧ OL ri G32 Z5 Z2 ∧ List.drop Z0 v47 = Z1 ∧ make_Answers_L1 v52 v55 v43 Z1 Z0 Z2 = some r) [(12, _), (109, _), (110, _)] [_, _] [_, _, _, _] ⟨0, v47, ([] : List Int), none, 0, [], rfl, rfl, (OL.nil (Rp' := ri)), rfl, r62⟩ (fun y m hI hb65 => ?_)
   obtain ⟨i66, w67, v68, a69, k70, cs71, rfl, rfl, o72, g73, r74⟩ := hI
   refine .gn 0 ?_
   cases w67 with
   | nil =>
    rw [make_Answers_L1] at r74; try dsimp only at r74
    refine .go 5 ?_
    refine .cond_dec rfl (fun c => absurd c (drop_nil g73)) (fun _ => ?_)
    refine .exit rfl (.go 7 ?_)
    refine .pullS 2 rfl [_, _, _, _, _] rfl (.pullS 2 rfl [_, _, _, _, _] rfl ?_)
    refine .freezeNs (Rep.pair Rep.bool (Rep.sl ri)) shP63 rfl o57 rfl rfl rfl B34 (fun G76 e77 B78 s79 => ?_)
    refine .freezeR 0 rfl rfl (OL.mono e77 o72) [_, _] rfl B78 (fun G80 e81 B82 s83 => ?_)
    cases r74
    refine .pull 1 rfl [_, _] rfl (.drop 1 0 [_] _ rfl rfl (.drop 0 2 _ [] rfl rfl ?_))
    refine .rW 0 [.tmp 10, .tmp 11] [_, _] Tryz.func75 Tryz.results75 ⟨RV.tmp rfl, RV.tmp rfl, trivial⟩ B82 hS0 (fun G' hg => ⟨a14, k15, a69, k70, a53, k54, rfl, rfl, rfl, (SlR.mono hg (SlR.mono e81 s79)), (SlR.mono hg s83), (SlR.mono hg (SlR.mono (HpLe.trans e77 e81) s61))⟩)
   | cons x84 xs85 =>
    have r86 : make_Answers_B1 v52 v55 v43 (make_Answers_L1 v52 v55 v43 xs85 (i66 + 1)) x84 i66 v68 = some r := r74; clear r74; unfold make_Answers_B1 at r86; try dsimp only at r86
    refine .go 5 ?_
    refine .cond_dec rfl (fun _ => ?_) (fun c => absurd (drop_lt g73) c)
    refine .go 2 ?_
    refine .block (.go 3 ?_)
    obtain ⟨c87, p88, h89⟩ := OL.get o59 (drop_idx g73)
    obtain rfl := h89
    refine .q .ro (.idxO 3 rfl rfl rfl (drop_idx g73) sl174 ty4.sz) rfl (.q .ro (.loadO 3 0 rfl (drop_idx g73) p88 rfl (.inl ⟨rfl, rfl⟩) ty4 rfl) rfl (.go 7 ?_))
    refine .cB r86 (fun c90 r91 => ?_) (fun c90 r92 => ?_)
    ·refine .go 4 ?_
     refine .lit [_] [(0, _)] .ro sl22 ty3 rfl rfl rfl rfl rfl rfl (fun b93 hb93 => ?_)
     have o94 : OL ri G32 [.int .i64 (w64 ((i66 : Int) + 1))] ([(w64 ((i66 : Int) + 1))] : List Int) := ((OL.cons rfl (Rep.intI .i64 (w64 ((i66 : Int) + 1))) (OL.nil (Rp' := ri))) :)
     refine .reval 120 (n' := ([(w64 ((i66 : Int) + 1))] : List Int).length) rfl rfl ?_
     obtain ⟨u95, hu95, r96⟩ := bind_some r91
     refine .appO (Q := ri) 0 .ro sl22 ty3 rfl rfl rfl rfl rfl rfl o72 o94 rfl rfl rfl B34 hu95 rfl (fun a97 k98 cs99 o100 => ?_)
     refine .go 7 ?_
     exact (hb65 _ _ ⟨(i66 + 1), xs85, u95, a97, k98, cs99, rfl, rfl, o100, (drop_succ g73), r96⟩ (Nat.lt_succ_self _)).ax ⟨rfl, (congrArg (fun z => some (Value.int .i64 z)) (idx_wrap (OL.len' o59) g73)), rfl, rfl, rfl, trivial⟩
    ·refine .go 6 ?_
     exact (hb65 _ _ ⟨(i66 + 1), xs85, v68, a69, k70, cs71, rfl, rfl, o72, (drop_succ g73), r92⟩ (Nat.lt_succ_self _)).ax ⟨rfl, (congrArg (fun z => some (Value.int .i64 z)) (idx_wrap (OL.len' o59) g73)), rfl, rfl, rfl, trivial⟩
  ·intro hb101
   refine .block (.pullS 1 rfl [_, _, _, _] rfl (.pullS 3 rfl [_, _, _, _] rfl (.pullS 3 rfl [_, _, _, _] rfl ?_)))
   refine .lp (fun y m => ∃ (Z0 : Nat) (Z1 : List Int) (Z2 : List (Bool × (List Int))) (Z3 Z4 : _) (Z5 : List Bool) (Z6 : _) (Z7 : Nat) (Z8 : _) (Z9 : List Int) (Z10 : _) (Z11 : Nat) (Z12 : _), y = ⟨[(12, .slice a14 Z2.length k15), (15, .slice Z6 Z5.length Z7), (43, .int .i64 (Z0 : Int))], [], [(p0, .cells #[.slice Z10 Z9.length Z11, .int .i64 Z12] 121 (0, 0))], [.s (.slice a14 Z2.length k15) 63 2 Z2.length Z4, .g (packG 3 1 Z3), .s (.slice Z6 Z5.length Z7) 4 1 Z5.length Z8]⟩ ∧ Z1.length = m ∧ NS shp63 ri shE63 G32 Z3 Z4 Z2 ∧ Z2.length = v13.length ∧ OL Rep.bool G32 Z8 Z5 ∧ SlR ri G32 Z10 Z11 Z9 ∧ List.drop Z0 u29.1 = Z1 ∧ make_Answers_L3 make_Answers_J2 x2 x3 x4 v19 Z1 Z0 Z2 Z5 Z9 Z12 = some r) [(0, _), (2, _), (3, _), (4, _), (6, _), (41, _), (42, _)] [_] [_] ⟨0, u29.1, v13, es16, cs17, u24, (some ⟨b26, 0, none⟩), u24.length, cs27, u29.2.1, a36, k37, u29.2.2, rfl, rfl, (NS.mono e33 o21), rfl, (OL.mono e33 o28), s41, rfl, r30⟩ (fun y m hI hb102 => ?_)
   obtain ⟨i103, w104, v105, es106, cs107, v108, a109, k110, cs111, v112, a113, k114, v115, rfl, rfl, o116, hl117, o118, s119, g120, r121⟩ := hI
   refine .gn 0 ?_
   cases w104 with
   | nil =>
    rw [make_Answers_L3] at r121; try dsimp only at r121
    refine .go 5 ?_
    refine .cond_dec rfl (fun c => absurd c (drop_nil g120)) (fun _ => ?_)
    refine .exit rfl ?_
    exact (hb101 _ ⟨v105, es106, cs107, v108, a109, k110, cs111, v112, a113, k114, v115, v19, rfl, o116, hl117, o118, s119, r121⟩).ar
   | cons x122 xs123 =>
    have r124 : make_Answers_B3 make_Answers_J2 x2 x3 x4 v19 (make_Answers_L3 make_Answers_J2 x2 x3 x4 v19 xs123 (i103 + 1)) x122 i103 v105 v108 v112 v115 = some r := r121; clear r121; unfold make_Answers_B3 at r124; try dsimp only at r124
    refine .go 5 ?_
    refine .cond_dec rfl (fun _ => ?_) (fun c => absurd (drop_lt g120) c)
    refine .go 2 ?_
    refine .block (.go 3 ?_)
    obtain ⟨c125, p126, h127⟩ := OL.get o42 (drop_idx g120)
    obtain rfl := h127
    refine .q .ro (.idxO 3 rfl rfl rfl (drop_idx g120) sl22 ty3.sz) rfl (.q .ro (.loadO 3 0 rfl (drop_idx g120) p126 rfl (.inl ⟨rfl, rfl⟩) ty3 rfl) rfl (.go 9 ?_))
    obtain ⟨u128, h129, r130⟩ := bind_some r124
    refine .kR (fun y => y = ⟨[(58, .bool u128)], G32 :: Fs, [], []⟩) [(12, _), (15, _), (43, _), (0, _), (2, _), (3, _), (4, _), (6, _), (41, _), (42, _), (16, _), (17, _)] [_, _] [0, 1] [_, _, _, _] [0, 1, 2, 3] 7 ?_ ?_
    ·rintro _ rfl
     refine .gn 1 ?_
     refine .cB r130 (fun c131 r132 => ?_) (fun c131 r133 => ?_)
     ·refine .go 5 ?_
      obtain ⟨u134, hu134, r135⟩ := bind_some r132
      obtain ⟨c136, p137, h138⟩ := SlR.get (SlR.mono e33 s2) hu134
      obtain ⟨a139, k140, rfl, s141⟩ := h138
      refine .q .ro (.idxR (SlR.mono e33 s2) rfl rfl hu134 sl51 ty22.sz) rfl (.q .ro (.load_rp p137 mcs rfl ty22 rfl) rfl (.go 1 ?_))
      obtain ⟨u142, hu142, r143⟩ := bind_some r135
      refine .callS (b1 := [_]) (b2 := [_]) (s1 := []) [_, _] [] .ro rfl rfl Tryz.call18 rfl rfl (make_Deck_Next_c mcs s119 hu142) rfl (fun v144 bo so h145 => ?_)
      obtain ⟨a146, k147, rfl, rfl, rfl, s148⟩ := h145
      refine .gn 3 ?_
      refine .drawO (.q 0 (.q 1 (.q 2 (.q 3 (.q 4 (.q 5 (.q 6 (.q 7 (.q 8 (.q 9 (.q 10 (.q 11 (.q 12 (.q 13 (.q 14 (.q 15 (.q 16 (.q 17 (.q 18 (.q 21 (.q 22 (.e 19 1 (.q 20 (.q 23 (.q 24 (.e 25 2 .nil)))))))))))))))))))))))))) [_] [_, _] (by kernel_rfl) (by kernel_rfl) (pick_mem [1] rfl) (pick_mem [0, 1] rfl) (.dqO (.move rfl) rfl (.dqO (.move rfl) rfl ?_))
      obtain ⟨u149, hu149, r150⟩ := bind_some r143
      obtain ⟨e151, c152, he153, hn154, ho155, p156, h157⟩ := NS.get o116 hu149
      obtain ⟨_, _, rfl, rfl, rfl⟩ := h157
      refine .dqO (.idxO 0 rfl rfl rfl hu149 sl60 ty63.sz) rfl (.dqO (.fieldO 0 0 rfl hu149 rfl (.inl ⟨rfl, rfl⟩) fl63_1 ty22.sz) rfl (.dqO (.loadO 0 1 rfl hu149 p156 rfl (.inr rfl) ty22 rfl) rfl (.dqO (.move rfl) rfl (.dqO (.move rfl) rfl (.dqO (.move rfl) rfl ?_)))))
      obtain ⟨u158, hu158, r159⟩ := bind_some r150
      obtain ⟨e160, c161, he162, hn163, ho164, p165, h166⟩ := NS.get o116 hu158
      obtain ⟨_, _, rfl, rfl, rfl⟩ := h166
      refine .dqO (.idxO 0 rfl rfl rfl hu158 sl60 ty63.sz) rfl (.dqO (.fieldO 0 0 rfl hu158 rfl (.inl ⟨rfl, rfl⟩) fl63_1 ty22.sz) rfl (.dqO (.loadO 0 1 rfl hu158 p165 rfl (.inr rfl) ty22 rfl) rfl (.dqO (.move rfl) rfl ?_)))
      obtain ⟨u167, hu167, r168⟩ := bind_some r159
      obtain ⟨c169, p170, h171⟩ := OL.get ho164 hu167
      obtain rfl := h171
      refine .dqO (.inN 1 rfl he162 hn163 (.idxO (l := u158.2) 0 rfl rfl rfl hu167 sl22 ty3.sz)) rfl (.dqO (.inN 1 rfl he162 hn163 (.loadO (l := u158.2) 0 0 rfl hu167 p170 rfl (.inl ⟨rfl, rfl⟩) ty3 rfl)) rfl (.dqO (.addw rfl rfl) rfl (.dqO (.move rfl) rfl (.dqO (.fieldAddr 0 rfl fl45_0 ty3.sz rfl) rfl (.dqO (.load_own 0 rfl rfl ty3 rfl) rfl (.dqO (.subw rfl rfl) rfl (.dqO (.fieldAddr 0 rfl fl45_0 ty3.sz rfl) rfl (.dqO (.load_own 0 rfl rfl ty3 rfl) rfl ?_))))))))
      obtain ⟨u172, hu172, r173⟩ := bind_some r168
      refine .callS (b1 := [_]) (b2 := [_]) (s1 := []) [_, _] [] .d1 rfl rfl Tryz.call18 rfl rfl (make_Deck_Next_c mcs s148 hu172) rfl (fun v175 bo so h176 => ?_)
      obtain ⟨a177, k178, rfl, rfl, rfl, s179⟩ := h176
      refine .gn 0 ?_
      refine .clsO (HpLe.refl _) (pick_mem [1] rfl) (pick_mem [0, 1] rfl) (.dqO (.addw rfl rfl) rfl ?_)
      obtain ⟨u180, hu180, r181⟩ := bind_some r173
      refine .dqO (.remt rfl rfl (nz_some hu180)) rfl ?_
      obtain ⟨u182, hu182, r183⟩ := bind_some r181
      obtain ⟨c184, p185, h186⟩ := OL.get ho155 hu182
      obtain rfl := h186
      refine .dqO (.inN 1 rfl he153 hn154 (.idxO (l := u149.2) 0 rfl rfl rfl hu182 sl22 ty3.sz)) rfl (.takeN 1 rfl he153 hn154 ?_)
      obtain ⟨u187, hu187, r188⟩ := bind_some r183
      refine .storeR 0 0 (Q := ri) .d2 rfl rfl ho155 hu187 rfl (.inl ⟨rfl, rfl⟩) rfl ty3 p185 ((Rep.intI .i64 (Int.tmod (w64 ((w64 (u167 + 1)) + u172.1)) v19)) :) rfl rfl (fun cs189 hlcs189 o190 => ?_)
      obtain ⟨u191, hu191, r192⟩ := bind_some r188
      refine .backNs (S := shp63) 0 1 rfl rfl rfl o116 he153 hu149 (Eq.trans hlcs189 hn154.symm) o190 hu191 (fun es193 hles193 o194 hmes193 => ?_)
      refine .reval 12 hles193 rfl (.reval 66 hles193 rfl (.reval 72 hles193 rfl (.go 4 ?_)))
      obtain ⟨u195, hu195, r196⟩ := bind_some r192
      obtain ⟨c197, p198, h199⟩ := OL.get o118 hu195
      obtain rfl := h199
      refine .q .ro (.idxO 2 rfl rfl rfl hu195 sl174 ty4.sz) rfl ?_
      obtain ⟨u200, hu200, r201⟩ := bind_some r196
      refine .storeR 2 0 (Q := Rep.bool) .ro rfl rfl o118 hu200 rfl (.inl ⟨rfl, rfl⟩) rfl ty4 p198 ((Rep.boolI true) :) rfl rfl (fun cs202 hlcs202 o203 => ?_)
      refine .reval 15 hlcs202 rfl (.reval 91 hlcs202 rfl (.go 6 ?_))
      exact (hb102 _ _ ⟨(i103 + 1), xs123, u191, es193, cs107, u200, a109, k110, cs202, u172.2.1, a177, k178, u172.2.2, rfl, rfl, o194, (hles193.trans hl117), o203, s179, (drop_succ g120), r201⟩ (Nat.lt_succ_self _)).ax ⟨rfl, rfl, (congrArg (fun z => some (Value.int .i64 z)) (idx_wrap (OL.len' o42) g120)), rfl, rfl, rfl, rfl, rfl, rfl, rfl, trivial⟩
     ·refine .go 6 ?_
      refine .kR (fun y => y = ⟨[(103, .bool (decide ((x3 ≤ (i103 : Int)) ∧ ((i103 : Int) < (w64 (x3 + x4))))))], G32 :: Fs, [], []⟩) [(12, _), (15, _), (43, _), (0, _), (2, _), (3, _), (4, _), (6, _), (41, _), (42, _), (17, _)] [_, _] [0, 1] [_, _, _, _] [0, 1, 2, 3] 6 ?_ ?_
      ·rintro _ rfl
       refine .gn 1 ?_
       refine .cH r133 (fun c204 r205 => ?_) (fun c204 r206 => ?_)
       ·refine .go 3 ?_
        refine .q .ro (.build [_, _] [] ty63 pl63 rfl rfl) rfl ?_
        obtain ⟨u207, hu207, r208⟩ := bind_some r205
        obtain ⟨e209, c210, he211, hn212, ho213, p214, h215⟩ := NS.get o116 hu207
        obtain ⟨_, _, rfl, rfl, rfl⟩ := h215
        refine .q .ro (.idxO 0 rfl rfl rfl hu207 sl60 ty63.sz) rfl (.own_nil 3 1 (.takeN 2 rfl he211 hn212 (.drop 0 1 _ [_, _, _, _, _] rfl rfl ?_)))
        obtain ⟨u216, hu216, r217⟩ := bind_some r208
        refine .storeNs (S := shp63) (s' := (false, ([] : List Int))) 0 1 .ro rfl rfl rfl rfl o116 he211 rfl (OL.nil (Rp' := ri)) hu216 rfl (.inl ⟨rfl, rfl⟩) rfl ty63 p214 ((Rep.pairI (Rep.boolI false) (show Rep.hdr.r G32 [.slice none ([] : List Int).length 0] (none, ([] : List Int).length, 0) from rfl)) :) rfl rfl rfl (fun es218 cs219 hlcs219 o220 => ?_)
        refine .reval 12 hlcs219 rfl (.reval 104 hlcs219 rfl (.go 6 ?_))
        exact (hb102 _ _ ⟨(i103 + 1), xs123, u216, es218, cs219, v108, a109, k110, cs111, v112, a113, k114, v115, rfl, rfl, o220, (hlcs219.trans hl117), o118, s119, (drop_succ g120), r217⟩ (Nat.lt_succ_self _)).ax ⟨rfl, rfl, (congrArg (fun z => some (Value.int .i64 z)) (idx_wrap (OL.len' o42) g120)), rfl, rfl, rfl, rfl, rfl, rfl, rfl, trivial⟩
       ·refine .go 6 ?_
        exact (hb102 _ _ ⟨(i103 + 1), xs123, v105, es106, cs107, v108, a109, k110, cs111, v112, a113, k114, v115, rfl, rfl, o116, hl117, o118, s119, (drop_succ g120), r206⟩ (Nat.lt_succ_self _)).ax ⟨rfl, rfl, (congrArg (fun z => some (Value.int .i64 z)) (idx_wrap (OL.len' o42) g120)), rfl, rfl, rfl, rfl, rfl, rfl, rfl, trivial⟩
      ·intro hb221
       refine .split 97 rfl (fun c222 => ?_) (fun c222 => ?_)
       ·refine .go 11 ?_
        exact (hb221 _ rfl).ax ⟨dand_t c222, rfl, rfl, rfl, rfl, rfl, rfl, rfl, rfl, rfl, rfl, rfl, trivial⟩
       ·refine .go 6 ?_
        exact (hb221 _ rfl).ax ⟨dand_f c222, rfl, rfl, rfl, rfl, rfl, rfl, rfl, rfl, rfl, rfl, rfl, trivial⟩
    ·intro hb223
     refine .split 51 rfl (fun c224 => ?_) (fun c224 => ?_)
     ·have r225 := ifT h129 c224
      refine .go 5 ?_
      obtain ⟨u226, hu226, r227⟩ := bind_some r225
      obtain ⟨c228, p229, h230⟩ := SlR.get (SlR.mono e33 s2) hu226
      obtain ⟨a231, k232, rfl, s233⟩ := h230
      refine .q .ro (.idxR (SlR.mono e33 s2) rfl rfl hu226 sl51 ty22.sz) rfl (.go 1 ?_)
      refine .q .ro (.load_rp p229 mcs rfl ty22 rfl) rfl (.go 5 ?_)
      exact (hb223 _ rfl).ax ⟨sval r227, rfl, rfl, rfl, rfl, rfl, rfl, rfl, rfl, rfl, rfl, rfl, rfl, trivial⟩
     ·have r234 := ifF h129 c224
      refine .go 7 ?_
      exact (hb223 _ rfl).ax ⟨sval r234, rfl, rfl, rfl, rfl, rfl, rfl, rfl, rfl, rfl, rfl, rfl, rfl, trivial⟩
 ·intro hb235
  refine .block (.packE 3 1 (.own_nil 63 2 (.pullS 1 rfl [_, _] rfl (.pullS 1 rfl [_, _] rfl ?_))))
  refine .lp (fun y m => ∃ (Z0 : Nat) (Z1 : List (List Int)) (Z2 : List (Bool × (List Int))) (Z3 : _) (Z4 : Nat) (Z5 Z6 : _), y = ⟨[(12, .slice Z3 Z2.length Z4), (24, .int .i64 (Z0 : Int))], [], [], [.s (.slice Z3 Z2.length Z4) 63 2 Z2.length Z6, .g (packG 3 1 Z5)]⟩ ∧ Z1.length = m ∧ NS shp63 ri shE63 G Z5 Z6 Z2 ∧ List.drop Z0 x2 = Z1 ∧ make_Answers_L5 (make_Answers_J4 x2 x3 x4 x0_0) x1_0 x0_1 Z1 Z2 = some r) [(0, _), (2, _), (3, _), (4, _), (6, _), (22, _), (23, _)] [_, _] [] ⟨0, x2, ([] : List (Bool × (List Int))), none, 0, [], [], rfl, rfl, (NS.nil (S := shp63) (Q := ri) (E := shE63)), rfl, h⟩ (fun y m hI hb236 => ?_)
  obtain ⟨i237, w238, v239, a240, k241, es242, cs243, rfl, rfl, o244, g245, r246⟩ := hI
  refine .gn 0 ?_
  cases w238 with
  | nil =>
   rw [make_Answers_L5] at r246; try dsimp only at r246
   refine .go 5 ?_
   refine .cond_dec rfl (fun c => absurd c (drop_nil g245)) (fun _ => ?_)
   refine .exit rfl ?_
   exact (hb235 _ ⟨v239, a240, k241, es242, cs243, x1_0, x0_1, rfl, o244, r246⟩).ar
  | cons x247 xs248 =>
   have r249 : make_Answers_B5 (make_Answers_J4 x2 x3 x4 x0_0) x1_0 x0_1 (make_Answers_L5 (make_Answers_J4 x2 x3 x4 x0_0) x1_0 x0_1 xs248) x247 v239 = some r := r246; clear r246; unfold make_Answers_B5 at r249; try dsimp only at r249
   refine .go 5 ?_
   refine .cond_dec rfl (fun _ => ?_) (fun c => absurd (drop_lt g245) c)
   refine .go 2 ?_
   refine .block (.go 2 ?_)
   obtain ⟨c250, p251, h252⟩ := SlR.get s2 (drop_idx g245)
   obtain ⟨a253, k254, rfl, s255⟩ := h252
   refine .q .ro (.idxR s2 rfl rfl (drop_idx g245) sl51 ty22.sz) rfl (.q .ro (.load_rp p251 mcs rfl ty22 rfl) rfl (.go 5 ?_))
   refine .own_nil 3 1 ?_
   obtain ⟨u256, hu256, r257⟩ := bind_some r249
   refine .appR (Q := ri) 0 .ro sl22 ty3 rfl rfl rfl rfl rfl (OL.nil (Rp' := ri)) rfl rfl s255 rfl mcs hu256 rfl (fun a258 k259 cs260 o261 => ?_)
   refine .q .ro (.build [_, _] [(0, _), (1, _)] ty63 pl63 rfl rfl) rfl ?_
   refine .lit [_, _] [(0, _)] .ro sl60 ty63 rfl rfl rfl rfl rfl rfl (fun b262 hb262 => ?_)
   have o263 : NS shp63 ri shE63 G [⟨a258, u256.length, k259, cs260⟩] [.bool true, .slice a258 u256.length k259] ([(true, u256)] : List (Bool × (List Int))) := (NS.one (S := shp63) (E := shE63) (s := (true, u256)) (l := u256) (Rep.pairI (Rep.boolI true) (show Rep.hdr.r G [.slice a258 u256.length k259] (a258, u256.length, k259) from rfl)) rfl o261 :)
   refine .pullS 1 rfl [_, _, _, _] rfl (.pack1 rfl (.reval 32 (n' := ([(true, u256)] : List (Bool × (List Int))).length) rfl rfl ?_))
   obtain ⟨u264, hu264, r265⟩ := bind_some r257
   refine .pullS 1 rfl [_, _, _, _] rfl ?_
   refine .appNs (S := shp63) 0 1 .ro sl60 ty63 rfl rfl rfl rfl rfl rfl rfl rfl o244 o263 rfl rfl hu264 rfl B0 (fun a266 k267 cs268 o269 => ?_)
   refine .go 7 ?_
   exact (hb236 _ _ ⟨(i237 + 1), xs248, u264, a266, k267, (es242 ++ [⟨a258, u256.length, k259, cs260⟩]), cs268, rfl, rfl, o269, (drop_succ g245), r265⟩ (Nat.lt_succ_self _)).ax ⟨rfl, (congrArg (fun z => some (Value.int .i64 z)) (idx_wrap (SlR.len s2) g245)), rfl, rfl, rfl, rfl, rfl, rfl, rfl, trivial⟩
theorem top_read_c {x0_0 : List Int} {x0_1 : Int} {x1_0 : Int} {x2_0 : Int} {x2_1 : Int} {x3 : Int} {x4 : List (List Int)} {x5 : Int} {x6 : Int} {x7 : Int} {r : (((List Int) × (List Int)) × (List Int) × Bool × ((List Int) × Int))} (hG : G ∈ Fs) (hg0 : Rp G (.pointer (some ⟨0, 0, none⟩)) [ifc233 (some 12)]) (s0_0 : SlR ri G a0_0 k0_0 x0_0) (s4 : SlR (Rep.sl ri) G a4 k4 x4) (h : top_read (x0_0, x0_1) x1_0 (x2_0, x2_1) x3 x4 x5 x6 x7 = some r) : RetW Tryz.prog 25 #[.pointer (some ⟨p0, 0, none⟩), .agg #[.int .i64 x1_0], .agg #[.int .i64 x2_0, .int .i64 x2_1], .int .i64 x3, .slice a4 x4.length k4, .int .i64 x5, .int .i64 x6, .int .i64 x7] Fs [(p0, .cells #[.slice a0_0 x0_0.length k0_0, .int .i64 x0_1] 121 (0, 0))] [] (fun v bo so G => ∃ a0 : Option Addr, ∃ k0 : Nat, ∃ a1 : Option Addr, ∃ k1 : Nat, ∃ a2 : Option Addr, ∃ k2 : Nat, ∃ a3 : Option Addr, ∃ k3 : Nat, v = .tuple #[.agg #[.slice a0 r.1.1.length k0, .slice a1 r.1.2.length k1], .slice a2 r.2.1.length k2, .bool r.2.2.1] ∧ bo = [(p0, .cells #[.slice a3 r.2.2.2.1.length k3, .int .i64 r.2.2.2.2] 121 (0, 0))] ∧ so = [] ∧ SlR ri G a0 k0 r.1.1 ∧ SlR ri G a1 k1 r.1.2 ∧ SlR ri G a2 k2 r.2.1 ∧ SlR ri G a3 k3 r.2.2.2.1) := by
 unfold top_read at h
 try dsimp only at h
 refine RetW.st [(0, _), (1, _), (2, _), (3, _), (4, _), (5, _), (6, _), (7, _)] Tryz.func25 Tryz.ntmps25 hG fun w0 S0 hS0 B0 => ?_
 refine .go 2 ?_
 refine .box [_] .ro rfl rfl rfl (fun b1 hb1 => ?_)
 refine .box [_, _] .ro rfl rfl rfl (fun b2 hb2 => ?_)
 refine .alloc .ro ty65 rfl (fun b3 hb3 => ?_)
 refine .go 5 ?_
 refine .q .ro (.load_own_a 2 [_] rfl rfl ty45 rfl) rfl (.q .ro (.load_own_a 1 [_, _] rfl rfl ty69 rfl) rfl (.go 2 ?_))
 obtain ⟨u4, hu4, r5⟩ := bind_some h
 refine .cS [_, _, _] Tryz.call74 (curve_Limits_c mcs  hu4) (fun v7 bo so h6 => ?_)
 obtain ⟨a9, k10, cs11, rfl, rfl, rfl, o12⟩ := h6
 refine .gn 7 ?_
 refine .kG (fun y => ∃ (Z0 : _) (Z1 : List (List Int)) (Z2 : _) (Z3 : Nat) (Z4 : _) (Z5 : List Int) (Z6 : _) (Z7 : Nat) (Z8 : _), y = ⟨[(21, .slice Z2 Z1.length Z3), (23, .int .i64 Z4)], Z0 :: Fs, [(p0, .cells #[.slice Z6 Z5.length Z7, .int .i64 Z8] 121 (0, 0))], []⟩ ∧ HpLe G Z0 ∧ Bd w0 S0 Fs Z0 ∧ SlR (Rep.sl ri) Z0 Z2 Z3 Z1 ∧ SlR ri Z0 Z6 Z7 Z5 ∧ (top_read_J3 x3 x4 x6 x7 u4.2 x2_0 x2_1 x1_0) Z1 Z4 Z5 Z8 = some r) [(0, _), (3, _), (4, _), (6, _), (7, _), (9, _), (10, _), (16, _), (20, _)] [_, _, _] [0, 1, 2] [] [] ?_ ?_
 ·rintro _ ⟨G13, v14, a15, k16, v17, v18, a19, k20, v21, rfl, e24, B26, s27, s28, r29⟩
  refine .gn 0 ?_
  unfold top_read_J3 at r29
  try dsimp only at r29
  refine .go 6 ?_
  refine .kR (fun y => y = ⟨[(59, .bool (decide ((u4.2 ≠ 0) ∨ (v17 ≠ 0))))], G13 :: Fs, [], []⟩) [(21, _), (0, _), (3, _), (4, _), (6, _), (7, _), (9, _), (10, _), (16, _)] [_, _, _, _] [0, 1, 2, 3] [] [] 3 ?_ ?_
  ·rintro _ rfl
   refine .gn 1 ?_
   refine .cH r29 (fun c30 r31 => ?_) (fun c30 r32 => ?_)
   ·refine .go 2 ?_
    refine .q .ro (.build [_, _] [] ty65 pl65 rfl rfl) rfl (.store 1 [_, _] [_, _, _, _] .ro rfl rfl rfl ty65 rfl rfl rfl rfl (.go 3 ?_))
    cases r31
    refine .pull 3 rfl [_, _, _, _] rfl (.pull 3 rfl [_, _, _, _] rfl (.pull 3 rfl [_, _, _, _] rfl ?_))
    refine .rW 3 [.cell 16 65, .tmp 17, .tmp 18] [_, _, _] Tryz.func25 Tryz.results25 ⟨RV.cell_a 0 [_, _] rfl rfl ty65 rfl, RV.tmp rfl, RV.tmp rfl, trivial⟩ B26 hS0 (fun G' hg => ⟨none, 0, none, 0, none, 0, a19, k20, rfl, rfl, rfl, (SlR.mono hg (SlR.nil (Rp' := ri))), (SlR.mono hg (SlR.nil (Rp' := ri))), (SlR.mono hg (SlR.nil (Rp' := ri))), (SlR.mono hg s28)⟩)
   ·refine .go 12 ?_
    refine .kB (fun y => ∃ (Z0 : _) (Z1 : List (List Int)) (Z2 : _) (Z3 : Nat) (Z4 : _), y = ⟨[(24, .slice Z2 Z1.length Z3)], Z0 :: Fs, [], [.s (.slice Z2 Z1.length Z3) 22 1 Z1.length Z4]⟩ ∧ HpLe G13 Z0 ∧ Bd w0 S0 Fs Z0 ∧ OL (Rep.sl ri) Z0 Z4 Z1 ∧ (top_read_J1 x3 x6 x7 v18 v21 x2_0 x2_1 x1_0) Z1 = some r) [(0, _), (3, _), (6, _), (7, _), (9, _), (10, _), (16, _)] [_, _, _, _] [0, 1, 2, 3] [] [] ?_ ?_
    ·rintro _ ⟨G33, v34, a35, k36, cs37, rfl, e38, B39, o40, r41⟩
     refine .gn 0 ?_
     unfold top_read_J1 at r41
     try dsimp only at r41
     refine .go 3 ?_
     refine .q .ro (.load_own_a 3 [_] rfl rfl ty45 rfl) rfl (.go 3 ?_)
     refine .freezeR 0 rfl rfl o40 [] rfl B39 (fun G42 e43 B44 s46 => ?_)
     obtain ⟨u47, hu47, r48⟩ := bind_some r41
     refine .callW (b1 := [_]) (b2 := [_, _, _]) (s1 := []) [_, _, _, _, _] [] .ro rfl rfl Tryz.call75 rfl rfl (make_Answers_c mcs (SlR.mono (HpLe.trans e38 e43) s28) s46 hu47) rfl B44 (fun v52 bo so G53 e54 B55 h57 => ?_)
     obtain ⟨a58, k59, a60, k61, a62, k63, rfl, rfl, rfl, s66, s67, s68⟩ := h57
     refine .gn 8 ?_
     refine .q .ro (.load_own_a 3 [_] rfl rfl ty45 rfl) rfl (.q .ro (.load_own_a 2 [_, _] rfl rfl ty69 rfl) rfl (.go 2 ?_))
     obtain ⟨u70, hu70, r71⟩ := bind_some r48
     refine .cW [_, _, _, _] Tryz.call50 (curve_Decode_c mcs (Rp.mono (HpLe.trans (HpLe.trans (HpLe.trans e24 e38) e43) e54) hg0) s66 hu70) B55 (fun v72 bo so G73 e76 B77 h78 => ?_)
     obtain ⟨a79, k80, a81, k82, rfl, rfl, rfl, s83, s84⟩ := h78
     refine .gn 3 ?_
     refine .alloc .ro ty65 rfl (fun b85 hb85 => ?_)
     refine .store 0 [_, _] [_, _, _, _, _] .ro rfl rfl rfl ty65 rfl rfl rfl rfl (.go 4 ?_)
     refine .q .ro (.load_own_a 0 [_, _] rfl rfl ty65 rfl) rfl (.go 3 ?_)
     refine .store 2 [_, _] [_, _, _, _, _] .ro rfl rfl rfl ty65 rfl rfl rfl rfl (.go 3 ?_)
     cases r71
     refine .pull 1 rfl [_, _, _, _, _] rfl (.pull 4 rfl [_, _, _, _, _] rfl (.pull 4 rfl [_, _, _, _, _] rfl (.pull 4 rfl [_, _, _, _, _] rfl (.pull 4 rfl [_, _, _, _, _] rfl ?_))))
     refine .rW 4 [.cell 16 65, .tmp 17, .tmp 18] [_, _, _] Tryz.func25 Tryz.results25 ⟨RV.cell_a 1 [_, _] rfl rfl ty65 rfl, RV.tmp rfl, RV.tmp rfl, trivial⟩ B77 hS0 (fun G' hg => ⟨a79, k80, a81, k82, a60, k61, a62, k63, rfl, rfl, rfl, (SlR.mono hg s83), (SlR.mono hg s84), (SlR.mono hg (SlR.mono e76 s67)), (SlR.mono hg (SlR.mono e76 s68))⟩)
    ·intro hb86
     refine .block (.own_nil 22 1 ?_)
     refine .lp (fun y m => ∃ (Z0 : Nat) (Z1 : List (List Int)) (Z2 : _) (Z3 : List (List Int)) (Z4 : _) (Z5 : Nat) (Z6 : _), y = ⟨[(24, .slice Z4 Z3.length Z5), (63, .int .i64 (Z0 : Int))], [Z2], [], [.s (.slice Z4 Z3.length Z5) 22 1 Z3.length Z6]⟩ ∧ Z1.length = m ∧ HpLe G13 Z2 ∧ Bd w0 S0 Fs Z2 ∧ OL (Rep.sl ri) Z2 Z6 Z3 ∧ List.drop Z0 v14 = Z1 ∧ top_read_L2 (top_read_J1 x3 x6 x7 v18 v21 x2_0 x2_1 x1_0) x3 x4 v18 v21 x1_0 Z1 Z3 = some r) [(0, _), (3, _), (4, _), (6, _), (7, _), (9, _), (10, _), (16, _), (61, _), (62, _)] [_, _, _, _] [] ⟨0, v14, G13, ([] : List (List Int)), none, 0, [], rfl, rfl, (HpLe.refl _), B26, (OL.nil (Rp' := (Rep.sl ri))), rfl, r32⟩ (fun y m hI hb87 => ?_)
     obtain ⟨i88, w89, G90, v91, a92, k93, cs94, rfl, rfl, e95, B96, o97, g98, r99⟩ := hI
     refine .gn 0 ?_
     cases w89 with
     | nil =>
      rw [top_read_L2] at r99; try dsimp only at r99
      refine .go 5 ?_
      refine .cond_dec rfl (fun c => absurd c (drop_nil g98)) (fun _ => ?_)
      refine .exit rfl ?_
      exact (hb86 _ ⟨G90, v91, a92, k93, cs94, rfl, e95, B96, o97, r99⟩).ar
     | cons x100 xs101 =>
      have r102 : top_read_B2 (top_read_J1 x3 x6 x7 v18 v21 x2_0 x2_1 x1_0) x3 x4 v18 v21 x1_0 (top_read_L2 (top_read_J1 x3 x6 x7 v18 v21 x2_0 x2_1 x1_0) x3 x4 v18 v21 x1_0 xs101) x100 v91 = some r := r99; clear r99; unfold top_read_B2 at r102; try dsimp only at r102
      refine .go 5 ?_
      refine .cond_dec rfl (fun _ => ?_) (fun c => absurd (drop_lt g98) c)
      refine .go 2 ?_
      refine .block (.go 2 ?_)
      obtain ⟨c103, p104, h105⟩ := SlR.get (SlR.mono e95 s27) (drop_idx g98)
      obtain ⟨a106, k107, rfl, s108⟩ := h105
      refine .q .ro (.idxR (SlR.mono e95 s27) rfl rfl (drop_idx g98) sl51 ty22.sz) rfl (.q .ro (.load_rp p104 mcs rfl ty22 rfl) rfl (.go 4 ?_))
      refine .q .ro (.load_own_a 3 [_] rfl rfl ty45 rfl) rfl (.go 3 ?_)
      obtain ⟨u109, hu109, r110⟩ := bind_some r102
      refine .cS [_, _, _, _] Tryz.call23 (parity_Answer_c mcs (SlR.mono (HpLe.trans e24 e95) s4) s108 hu109) (fun v111 bo so h112 => ?_)
      obtain ⟨a113, k114, cs115, rfl, rfl, rfl, o116⟩ := h112
      refine .gn 12 ?_
      refine .cH r110 (fun c117 r118 => ?_) (fun c117 r119 => ?_)
      ·refine .go 2 ?_
       refine .q .ro (.build [_, _] [] ty65 pl65 rfl rfl) rfl (.store 1 [_, _] [_, _, _, _] .ro rfl rfl rfl ty65 rfl rfl rfl rfl (.go 3 ?_))
       cases r118
       refine .drop 0 2 _ [] rfl rfl (.pull 3 rfl [_, _, _, _] rfl (.pull 3 rfl [_, _, _, _] rfl (.pull 3 rfl [_, _, _, _] rfl ?_)))
       refine .rW 3 [.cell 16 65, .tmp 17, .tmp 18] [_, _, _] Tryz.func25 Tryz.results25 ⟨RV.cell_a 0 [_, _] rfl rfl ty65 rfl, RV.tmp rfl, RV.tmp rfl, trivial⟩ B96 hS0 (fun G' hg => ⟨none, 0, none, 0, none, 0, a19, k20, rfl, rfl, rfl, (SlR.mono hg (SlR.nil (Rp' := ri))), (SlR.mono hg (SlR.nil (Rp' := ri))), (SlR.mono hg (SlR.nil (Rp' := ri))), (SlR.mono hg (SlR.mono e95 s28))⟩)
      ·refine .go 4 ?_
       refine .freezeR 0 rfl rfl o116 [_] rfl B96 (fun G120 e121 B122 s123 => ?_)
       refine .lit [_] [(0, _)] .ro sl51 ty22 rfl rfl rfl rfl rfl rfl (fun b124 hb124 => ?_)
       have o125 : OL (Rep.sl ri) G120 [.slice a113 u109.1.length k114] ([u109.1] : List (List Int)) := ((OL.cons rfl (Rep.slI s123) (OL.nil (Rp' := (Rep.sl ri)))) :)
       refine .reval 80 (n' := ([u109.1] : List (List Int)).length) rfl rfl ?_
       obtain ⟨u126, hu126, r127⟩ := bind_some r119
       refine .appO (Q := (Rep.sl ri)) 0 .ro sl51 ty22 rfl rfl rfl rfl rfl rfl (OL.mono e121 o97) o125 rfl rfl rfl B122 hu126 rfl (fun a128 k129 cs130 o131 => ?_)
       refine .go 7 ?_
       exact (hb87 _ _ ⟨(i88 + 1), xs101, G120, u126, a128, k129, cs130, rfl, rfl, (HpLe.trans e95 e121), B122, o131, (drop_succ g98), r127⟩ (Nat.lt_succ_self _)).ax ⟨rfl, (congrArg (fun z => some (Value.int .i64 z)) (idx_wrap (SlR.len s27) g98)), rfl, rfl, rfl, rfl, rfl, rfl, rfl, rfl, rfl, rfl, trivial⟩
  ·intro hb132
   refine .split 56 rfl (fun c133 => ?_) (fun c133 => ?_)
   ·refine .go 3 ?_
    exact (hb132 _ rfl).ax ⟨dor_t c133, rfl, rfl, rfl, rfl, rfl, rfl, rfl, rfl, rfl, trivial⟩
   ·refine .go 5 ?_
    exact (hb132 _ rfl).ax ⟨dor_f c133, rfl, rfl, rfl, rfl, rfl, rfl, rfl, rfl, rfl, trivial⟩
 ·intro hb134
  refine .freezeR 0 rfl rfl o12 [] rfl B0 (fun G135 e136 B137 s138 => ?_)
  refine .drawL (.q 0 (.q 1 (.q 2 (.q 3 (.q 4 (.q 5 (.q 6 (.alt (.e 7 1 (.alt (.e 8 1 (.q 9 (.q 10 (.q 11 (.q 12 (.e 13 1 (.q 14 (.e 15 1 (.q 16 .nil))))))))) (.e 13 1 (.e 8 1 (.q 9 (.q 10 (.q 11 (.q 12 (.q 14 (.e 15 1 (.q 16 .nil))))))))))) (.e 13 1 (.e 7 1 (.e 8 1 (.q 9 (.q 10 (.q 11 (.q 12 (.q 14 (.e 15 1 (.q 16 .nil)))))))))))))))))) [_, _, _] (by kernel_rfl) (by kernel_rfl) (pick_mem [0, 1, 2] rfl) ?_
  obtain ⟨u139, hu139, r140⟩ := bind_some r5
  obtain ⟨u141, hu141, r142⟩ := bind_some r140
  refine .dq (.load_own_a 2 [_] rfl rfl ty45 rfl) rfl (.dq (.load_own_a 1 [_, _] rfl rfl ty69 rfl) rfl (.go 5 ?_))
  refine .alt ?_ ?_
  ·refine .pull 3 rfl [_, _, _, _] rfl ?_
   refine .callW (b1 := [_]) (b2 := [_, _, _]) (s1 := []) [_, _] [] .d1 rfl rfl Tryz.call22 rfl rfl (make_Seed_c mcs (SlR.mono e136 s0_0) s138 hu139) rfl B137 (fun v143 bo so G144 e145 B146 h147 => ?_)
   obtain ⟨a148, k149, a150, k151, rfl, rfl, rfl, s152, s153⟩ := h147
   refine .gn 0 ?_
   refine .clsL e145 (pick_mem [1, 2, 3] rfl) ?_
   refine .alt ?_ ?_
   ·refine .callW (b1 := []) (b2 := [_, _, _, _]) (s1 := []) [_, _, _, _, _] [] .d1 rfl rfl Tryz.call49 rfl rfl (curve_Queries_c mcs s152 hu141) rfl B146 (fun v154 bo so G155 e156 B157 h158 => ?_)
    obtain ⟨a159, k160, a161, k162, rfl, rfl, rfl, s163, s164⟩ := h158
    refine .gn 0 ?_
    refine .clsL (HpLe.trans e145 e156) (pick_mem [1, 2, 3] rfl) (.go 4 ?_)
    refine .alloc .d1 ty56 rfl (fun b165 hb165 => ?_)
    refine .clsL (HpLe.trans e145 e156) (pick_mem [2, 3, 4] rfl) (.go 1 ?_)
    refine .store 0 [_, _] [_, _, _, _, _] .d1 rfl rfl rfl ty56 rfl rfl rfl rfl (.clsL (HpLe.trans e145 e156) (pick_mem [2, 3, 4] rfl) (.go 2 ?_))
    refine .drop 1 0 [_, _, _, _] _ rfl rfl ?_
    exact (hb134 _ ⟨G155, u141.1, a159, k160, u141.2.2, u139.2.1, a150, k151, u139.2.2, rfl, (HpLe.trans (HpLe.trans e136 e145) e156), B157, s163, (SlR.mono e156 s153), r142⟩).ar
   ·refine .alloc .d1 ty56 rfl (fun b166 hb166 => ?_)
    refine .clsL e145 (pick_mem [2, 3, 4] rfl) ?_
    refine .callW (b1 := []) (b2 := [_, _, _, _, _]) (s1 := []) [_, _, _, _, _] [] .d1 rfl rfl Tryz.call49 rfl rfl (curve_Queries_c mcs s152 hu141) rfl B146 (fun v167 bo so G168 e169 B170 h171 => ?_)
    obtain ⟨a172, k173, a174, k175, rfl, rfl, rfl, s176, s177⟩ := h171
    refine .gn 0 ?_
    refine .clsL (HpLe.trans e145 e169) (pick_mem [2, 3, 4] rfl) (.go 5 ?_)
    refine .store 0 [_, _] [_, _, _, _, _] .d1 rfl rfl rfl ty56 rfl rfl rfl rfl (.clsL (HpLe.trans e145 e169) (pick_mem [2, 3, 4] rfl) (.go 2 ?_))
    refine .drop 1 0 [_, _, _, _] _ rfl rfl ?_
    exact (hb134 _ ⟨G168, u141.1, a172, k173, u141.2.2, u139.2.1, a150, k151, u139.2.2, rfl, (HpLe.trans (HpLe.trans e136 e145) e169), B170, s176, (SlR.mono e169 s153), r142⟩).ar
  ·refine .alloc .d1 ty56 rfl (fun b178 hb178 => ?_)
   refine .clsL (HpLe.refl _) (pick_mem [1, 2, 3] rfl) (.pull 4 rfl [_, _, _, _, _] rfl ?_)
   refine .callW (b1 := [_]) (b2 := [_, _, _, _]) (s1 := []) [_, _] [] .d1 rfl rfl Tryz.call22 rfl rfl (make_Seed_c mcs (SlR.mono e136 s0_0) s138 hu139) rfl B137 (fun v179 bo so G180 e181 B182 h183 => ?_)
   obtain ⟨a184, k185, a186, k187, rfl, rfl, rfl, s188, s189⟩ := h183
   refine .gn 0 ?_
   refine .clsL e181 (pick_mem [2, 3, 4] rfl) ?_
   refine .callW (b1 := []) (b2 := [_, _, _, _, _]) (s1 := []) [_, _, _, _, _] [] .d1 rfl rfl Tryz.call49 rfl rfl (curve_Queries_c mcs s188 hu141) rfl B182 (fun v190 bo so G191 e192 B193 h194 => ?_)
   obtain ⟨a195, k196, a197, k198, rfl, rfl, rfl, s199, s200⟩ := h194
   refine .gn 0 ?_
   refine .clsL (HpLe.trans e181 e192) (pick_mem [2, 3, 4] rfl) (.go 5 ?_)
   refine .store 1 [_, _] [_, _, _, _, _] .d1 rfl rfl rfl ty56 rfl rfl rfl rfl (.clsL (HpLe.trans e181 e192) (pick_mem [2, 3, 4] rfl) (.go 2 ?_))
   refine .pull 4 rfl [_, _, _, _, _] rfl (.pull 4 rfl [_, _, _, _, _] rfl (.pull 4 rfl [_, _, _, _, _] rfl (.pull 3 rfl [_, _, _, _, _] rfl (.pull 4 rfl [_, _, _, _, _] rfl (.drop 1 0 [_, _, _, _] _ rfl rfl ?_)))))
   exact (hb134 _ ⟨G191, u141.1, a195, k196, u141.2.2, u139.2.1, a186, k187, u139.2.2, rfl, (HpLe.trans (HpLe.trans e136 e181) e192), B193, s199, (SlR.mono e192 s189), r142⟩).ar
theorem coded_Groups_c {x0_0 : Int} {x0_1 : Int} {x0_2 : Int} {x1 : Int} {r : (Int × Int)} (hG : G ∈ Fs)  (h : coded_Groups (x0_0, x0_1, x0_2) x1 = some r) : RetS Tryz.prog 26 #[.agg #[.int .i64 x0_0, .int .i64 x0_1, .int .i64 x0_2], .int .i64 x1] Fs [] [] (rv (.tuple #[.int .i64 r.1, .int .i64 r.2])) := by
 unfold coded_Groups at h
 try dsimp only at h
 refine RetS.st [(0, _), (1, _)] Tryz.func26 Tryz.ntmps26 hG fun w0 S0 hS0 B0 => ?_
 refine .go 2 ?_
 refine .box [_, _, _] .ro rfl rfl rfl (fun b1 hb1 => ?_)
 refine .go 10 ?_
 refine .kR (fun y => y = ⟨[(13, .bool (decide ((x0_2 < 1) ∨ (x1 < 0))))], G :: Fs, [], []⟩) [(1, _), (2, _)] [_] [0] [] [] 3 ?_ ?_
 ·rintro _ rfl
  refine .gn 1 ?_
  refine .kR (fun y => y = ⟨[(17, .bool (decide (((x0_2 < 1) ∨ (x1 < 0)) ∨ (1024 < x1))))], G :: Fs, [], []⟩) [(1, _), (2, _)] [_] [0] [] [] 3 ?_ ?_
  ·rintro _ rfl
   refine .gn 1 ?_
   refine .cH h (fun c10 r11 => ?_) (fun c10 r12 => ?_)
   ·refine .go 5 ?_
    cases r11
    refine .drop 1 0 [] _ rfl rfl ?_
    refine .rS [.tmp 4, .tmp 5] [_, _] Tryz.func26 Tryz.results26 ⟨rfl, rfl, rfl⟩
   ·refine .go 6 ?_
    obtain ⟨u13, hu13, r14⟩ := bind_some r12
    refine .q .ro (.quow rfl rfl (nz_some hu13)) rfl (.go 8 ?_)
    obtain ⟨u15, hu15, r16⟩ := bind_some r14
    refine .q .ro (.remt rfl rfl (nz_some hu15)) rfl (.go 2 ?_)
    refine .cH r16 (fun c17 r18 => ?_) (fun c17 r19 => ?_)
    ·refine .go 11 ?_
     cases r18
     refine .drop 1 0 [] _ rfl rfl ?_
     refine .rS [.tmp 4, .tmp 5] [_, _] Tryz.func26 Tryz.results26 ⟨rfl, rfl, rfl⟩
    ·refine .go 7 ?_
     cases r19
     refine .drop 1 0 [] _ rfl rfl ?_
     refine .rS [.tmp 4, .tmp 5] [_, _] Tryz.func26 Tryz.results26 ⟨rfl, rfl, rfl⟩
  ·intro hb7
   refine .split 14 rfl (fun c6 => ?_) (fun c6 => ?_)
   ·refine .go 3 ?_
    exact (hb7 _ rfl).ax ⟨dor_t c6, rfl, rfl, trivial⟩
   ·refine .go 5 ?_
    exact (hb7 _ rfl).ax ⟨dor_f c6, rfl, rfl, trivial⟩
 ·intro hb3
  refine .split 10 rfl (fun c2 => ?_) (fun c2 => ?_)
  ·refine .go 3 ?_
   exact (hb3 _ rfl).ax ⟨dor_t c2, rfl, rfl, trivial⟩
  ·refine .go 5 ?_
   exact (hb3 _ rfl).ax ⟨dor_f c2, rfl, rfl, trivial⟩
theorem coded_Check_c {x0_0 : Int} {x1_0 : Int} {x1_1 : Int} {x1_2 : Int} {r : Int} (hG : G ∈ Fs)  (h : coded_Check x0_0 (x1_0, x1_1, x1_2) = some r) : RetS Tryz.prog 81 #[.agg #[.int .i64 x0_0], .agg #[.int .i64 x1_0, .int .i64 x1_1, .int .i64 x1_2]] Fs [] [] (rv (.int .i64 r)) := by
 unfold coded_Check at h
 try dsimp only at h
 refine RetS.st [(0, _), (1, _)] Tryz.func81 Tryz.ntmps81 hG fun w0 S0 hS0 B0 => ?_
 refine .go 2 ?_
 refine .box [_] .ro rfl rfl rfl (fun b1 hb1 => ?_)
 refine .box [_, _, _] .ro rfl rfl rfl (fun b2 hb2 => ?_)
 refine .go 5 ?_
 refine .q .ro (.load_own_a 1 [_] rfl rfl ty45 rfl) rfl ?_
 obtain ⟨u3, hu3, r4⟩ := bind_some h
 refine .cV [_] Tryz.call72 (residue_Of_c mcs  hu3) ?_
 refine .go 11 ?_
 refine .cB r4 (fun c7 r8 => ?_) (fun c7 r9 => ?_)
 ·refine .go 4 ?_
  cases r8
  refine .drop 2 0 [] _ rfl rfl ?_
  refine .rS [.tmp 4] [_] Tryz.func81 Tryz.results81 ⟨rfl, rfl, rfl⟩
 ·refine .go 8 ?_
  refine .kR (fun y => y = ⟨[(21, .bool (decide ((x1_0 < 2) ∨ (10 < x1_0))))], G :: Fs, [], []⟩) [(2, _), (3, _)] [_, _] [0, 1] [] [] 4 ?_ ?_
  ·rintro _ rfl
   refine .gn 1 ?_
   refine .kR (fun y => y = ⟨[(28, .bool (decide (((x1_0 < 2) ∨ (10 < x1_0)) ∨ (x0_0 ≤ x1_0))))], G :: Fs, [], []⟩) [(3, _)] [_, _] [0, 1] [] [] 6 ?_ ?_
   ·rintro _ rfl
    refine .gn 1 ?_
    refine .kR (fun y => y = ⟨[(33, .bool (decide ((((x1_0 < 2) ∨ (10 < x1_0)) ∨ (x0_0 ≤ x1_0)) ∨ (x1_1 < 1))))], G :: Fs, [], []⟩) [(3, _)] [_, _] [0, 1] [] [] 4 ?_ ?_
    ·rintro _ rfl
     refine .gn 1 ?_
     refine .kR (fun y => y = ⟨[(38, .bool (decide (((((x1_0 < 2) ∨ (10 < x1_0)) ∨ (x0_0 ≤ x1_0)) ∨ (x1_1 < 1)) ∨ (x1_2 < 1))))], G :: Fs, [], []⟩) [(3, _)] [_, _] [0, 1] [] [] 4 ?_ ?_
     ·rintro _ rfl
      refine .gn 1 ?_
      refine .kR (fun y => y = ⟨[(45, .bool (decide ((((((x1_0 < 2) ∨ (10 < x1_0)) ∨ (x0_0 ≤ x1_0)) ∨ (x1_1 < 1)) ∨ (x1_2 < 1)) ∨ (x1_0 < x1_1))))], G :: Fs, [], []⟩) [(3, _)] [_, _] [0, 1] [] [] 6 ?_ ?_
      ·rintro _ rfl
       refine .gn 1 ?_
       refine .kR (fun y => y = ⟨[(52, .bool (decide (((((((x1_0 < 2) ∨ (10 < x1_0)) ∨ (x0_0 ≤ x1_0)) ∨ (x1_1 < 1)) ∨ (x1_2 < 1)) ∨ (x1_0 < x1_1)) ∨ (x1_0 < x1_2))))], G :: Fs, [], []⟩) [(3, _)] [_, _] [0, 1] [] [] 6 ?_ ?_
       ·rintro _ rfl
        refine .gn 1 ?_
        refine .kR (fun y => y = ⟨[(64, .bool (decide ((((((((x1_0 < 2) ∨ (10 < x1_0)) ∨ (x0_0 ≤ x1_0)) ∨ (x1_1 < 1)) ∨ (x1_2 < 1)) ∨ (x1_0 < x1_1)) ∨ (x1_0 < x1_2)) ∨ (x1_0 < (w64 ((w64 ((w64 (2 * x1_2)) + x1_1)) - 1))))))], G :: Fs, [], []⟩) [] [_, _] [0, 1] [] [] 11 ?_ ?_
        ·rintro _ rfl
         refine .gn 1 ?_
         refine .cH r9 (fun c38 r39 => ?_) (fun c38 r40 => ?_)
         ·refine .go 4 ?_
          cases r39
          refine .drop 2 0 [] _ rfl rfl ?_
          refine .rS [.tmp 4] [_] Tryz.func81 Tryz.results81 ⟨rfl, rfl, rfl⟩
         ·refine .go 5 ?_
          cases r40
          refine .drop 2 0 [] _ rfl rfl ?_
          refine .rS [.tmp 4] [_] Tryz.func81 Tryz.results81 ⟨rfl, rfl, rfl⟩
        ·intro hb35
         refine .split 53 rfl (fun c34 => ?_) (fun c34 => ?_)
         ·refine .go 11 ?_
          exact (hb35 _ rfl).ax ⟨dor_t c34, trivial⟩
         ·refine .go 21 ?_
          exact (hb35 _ rfl).ax ⟨dor_f c34, trivial⟩
       ·intro hb31
        refine .split 46 rfl (fun c30 => ?_) (fun c30 => ?_)
        ·refine .go 6 ?_
         exact (hb31 _ rfl).ax ⟨dor_t c30, rfl, trivial⟩
        ·refine .go 11 ?_
         exact (hb31 _ rfl).ax ⟨dor_f c30, rfl, trivial⟩
      ·intro hb27
       refine .split 39 rfl (fun c26 => ?_) (fun c26 => ?_)
       ·refine .go 6 ?_
        exact (hb27 _ rfl).ax ⟨dor_t c26, rfl, trivial⟩
       ·refine .go 11 ?_
        exact (hb27 _ rfl).ax ⟨dor_f c26, rfl, trivial⟩
     ·intro hb23
      refine .split 34 rfl (fun c22 => ?_) (fun c22 => ?_)
      ·refine .go 4 ?_
       exact (hb23 _ rfl).ax ⟨dor_t c22, rfl, trivial⟩
      ·refine .go 7 ?_
       exact (hb23 _ rfl).ax ⟨dor_f c22, rfl, trivial⟩
    ·intro hb19
     refine .split 29 rfl (fun c18 => ?_) (fun c18 => ?_)
     ·refine .go 4 ?_
      exact (hb19 _ rfl).ax ⟨dor_t c18, rfl, trivial⟩
     ·refine .go 7 ?_
      exact (hb19 _ rfl).ax ⟨dor_f c18, rfl, trivial⟩
   ·intro hb15
    refine .split 22 rfl (fun c14 => ?_) (fun c14 => ?_)
    ·refine .go 6 ?_
     exact (hb15 _ rfl).ax ⟨dor_t c14, rfl, trivial⟩
    ·refine .go 11 ?_
     exact (hb15 _ rfl).ax ⟨dor_f c14, rfl, trivial⟩
  ·intro hb11
   refine .split 17 rfl (fun c10 => ?_) (fun c10 => ?_)
   ·refine .go 4 ?_
    exact (hb11 _ rfl).ax ⟨dor_t c10, rfl, rfl, trivial⟩
   ·refine .go 7 ?_
    exact (hb11 _ rfl).ax ⟨dor_f c10, rfl, rfl, trivial⟩
theorem coded_check_c {x0_0 : Int} {x1_0 : Int} {x1_1 : Int} {x1_2 : Int} {x2 : Int} {r : Int} (hG : G ∈ Fs)  (h : coded_check x0_0 (x1_0, x1_1, x1_2) x2 = some r) : RetS Tryz.prog 76 #[.agg #[.int .i64 x0_0], .agg #[.int .i64 x1_0, .int .i64 x1_1, .int .i64 x1_2], .int .i64 x2] Fs [] [] (rv (.int .i64 r)) := by
 unfold coded_check at h
 try dsimp only at h
 refine RetS.st [(0, _), (1, _), (2, _)] Tryz.func76 Tryz.ntmps76 hG fun w0 S0 hS0 B0 => ?_
 refine .go 2 ?_
 refine .box [_] .ro rfl rfl rfl (fun b1 hb1 => ?_)
 refine .box [_, _, _] .ro rfl rfl rfl (fun b2 hb2 => ?_)
 refine .go 4 ?_
 refine .q .ro (.load_own_a 1 [_] rfl rfl ty45 rfl) rfl (.q .ro (.load_own_a 0 [_, _, _] rfl rfl ty47 rfl) rfl ?_)
 obtain ⟨u3, hu3, r4⟩ := bind_some h
 refine .cV [_, _] Tryz.call81 (coded_Check_c mcs  hu3) ?_
 refine .go 8 ?_
 refine .kR (fun y => y = ⟨[(20, .bool (decide ((u3 = 0) ∧ ((x2 < 1) ∨ (1024 < x2)))))], G :: Fs, [], []⟩) [(7, _)] [_, _] [0, 1] [] [] 7 ?_ ?_
 ·rintro _ rfl
  refine .gn 1 ?_
  refine .cH r4 (fun c15 r16 => ?_) (fun c15 r17 => ?_)
  ·refine .go 4 ?_
   cases r16
   refine .drop 2 0 [] _ rfl rfl ?_
   refine .rS [.tmp 6] [_] Tryz.func76 Tryz.results76 ⟨rfl, rfl, rfl⟩
  ·refine .go 6 ?_
   cases r17
   refine .drop 2 0 [] _ rfl rfl ?_
   refine .rS [.tmp 6] [_] Tryz.func76 Tryz.results76 ⟨rfl, rfl, rfl⟩
 ·intro hb12
  refine .split 13 rfl (fun c11 => ?_) (fun c11 => ?_)
  ·refine .go 6 ?_
   refine .kR (fun y => y = ⟨[(19, .bool (decide ((x2 < 1) ∨ (1024 < x2))))], G :: Fs, [], []⟩) [(7, _), (13, _)] [_, _] [0, 1] [] [] 3 ?_ ?_
   ·rintro _ rfl
    refine .gn 1 ?_
    exact (hb12 _ rfl).ax ⟨dand_t c11, rfl, trivial⟩
   ·intro hb19
    refine .split 16 rfl (fun c18 => ?_) (fun c18 => ?_)
    ·refine .go 4 ?_
     exact (hb19 _ rfl).ax ⟨dor_t c18, rfl, rfl, trivial⟩
    ·refine .go 6 ?_
     exact (hb19 _ rfl).ax ⟨dor_f c18, rfl, rfl, trivial⟩
  ·refine .go 3 ?_
   refine .gu_off rfl rfl (.gu_off rfl rfl (.go 2 ?_))
   exact (hb12 _ rfl).ax ⟨dand_f c11, rfl, trivial⟩
theorem coded_Limits_c {x0_0 : Int} {x1_0 : Int} {x1_1 : Int} {x1_2 : Int} {x2 : Int} {r : ((List Int) × Int)} (hG : G ∈ Fs)  (h : coded_Limits x0_0 (x1_0, x1_1, x1_2) x2 = some r) : RetS Tryz.prog 27 #[.agg #[.int .i64 x0_0], .agg #[.int .i64 x1_0, .int .i64 x1_1, .int .i64 x1_2], .int .i64 x2] Fs [] [] (fun v bo so => ∃ (oa0 : Option Addr) (ok0 : Nat) (oc0 : List Value), v = .tuple #[.slice oa0 r.1.length ok0, .int .i64 r.2] ∧ bo = [] ∧ so = [.s (.slice oa0 r.1.length ok0) 3 1 r.1.length oc0] ∧ OL ri G oc0 r.1) := by
 unfold coded_Limits at h
 try dsimp only at h
 refine RetS.st [(0, _), (1, _), (2, _)] Tryz.func27 Tryz.ntmps27 hG fun w0 S0 hS0 B0 => ?_
 refine .go 2 ?_
 refine .box [_] .ro rfl rfl rfl (fun b1 hb1 => ?_)
 refine .box [_, _, _] .ro rfl rfl rfl (fun b2 hb2 => ?_)
 refine .go 6 ?_
 refine .q .ro (.load_own_a 1 [_] rfl rfl ty45 rfl) rfl (.q .ro (.load_own_a 0 [_, _, _] rfl rfl ty47 rfl) rfl (.go 1 ?_))
 obtain ⟨u3, hu3, r4⟩ := bind_some h
 refine .cV [_, _, _] Tryz.call76 (coded_check_c mcs  hu3) ?_
 refine .go 7 ?_
 refine .cH r4 (fun c7 r8 => ?_) (fun c7 r10 => ?_)
 ·refine .go 6 ?_
  refine .own_nil 3 1 ?_
  cases r8
  refine .drop 2 0 [] _ rfl rfl ?_
  refine .rS [.tmp 6, .tmp 7] [_, _] Tryz.func27 Tryz.results27 ⟨none, 0, [], rfl, rfl, rfl, (OL.nil (Rp' := ri))⟩
 ·refine .go 14 ?_
  refine .block (.own_nil 3 1 ?_)
  refine .lp (fun y m => ∃ (Z0 : Nat) (Z1 : List Int) (Z2 : _) (Z3 : Nat) (Z4 Z5 : _), y = ⟨[(9, .slice Z2 Z1.length Z3), (21, .int .i64 Z5)], [], [], [.s (.slice Z2 Z1.length Z3) 3 1 Z1.length Z4]⟩ ∧ Z0 = m ∧ OL ri G Z4 Z1 ∧ coded_Limits_L1 (w64 (x2 * x1_1)) x0_0 Z0 Z1 Z5 = some r) [(3, _), (20, _)] [_, _] [] ⟨big, ([] : List Int), none, 0, [], 0, rfl, rfl, (OL.nil (Rp' := ri)), r10⟩ (fun y m hI hb65 => ?_)
  obtain ⟨n55, v57, a58, k59, cs60, v63, rfl, rfl, o61, r64⟩ := hI
  refine .gn 0 ?_
  obtain ⟨m72, rfl⟩ : ∃ m, n55 = m + 1 := by cases n55 with | zero => exact absurd (show (none : Option _) = some _ from r64) (by simp) | succ m => exact ⟨m, rfl⟩
  have r71 : coded_Limits_B1 (w64 (x2 * x1_1)) x0_0 (coded_Limits_L1 (w64 (x2 * x1_1)) x0_0 m72) v57 v63 = some r := r64; clear r64; unfold coded_Limits_B1 at r71; try dsimp only at r71
  refine .go 5 ?_
  refine .cH r71 (fun c73 r74 => ?_) (fun c73 r85 => ?_)
  ·refine .go 2 ?_
   refine .block (.go 4 ?_)
   refine .lit [_] [(0, _)] .ro sl22 ty3 rfl rfl rfl rfl rfl rfl (fun b75 hb75 => ?_)
   have o76 : OL ri G [.int .i64 x0_0] ([x0_0] : List Int) := ((OL.cons rfl (Rep.intI .i64 x0_0) (OL.nil (Rp' := ri))) :)
   refine .reval 26 (n' := ([x0_0] : List Int).length) rfl rfl ?_
   obtain ⟨u82, hu82, r83⟩ := bind_some r74
   refine .appO (Q := ri) 0 .ro sl22 ty3 rfl rfl rfl rfl rfl rfl o61 o76 rfl rfl rfl B0 hu82 rfl (fun a78 k79 cs80 o81 => ?_)
   refine .go 7 ?_
   exact (hb65 _ _ ⟨m72, u82, a78, k79, cs80, (w64 (v63 + 1)), rfl, rfl, o81, r83⟩ (Nat.lt_succ_self _)).ar
  ·refine .exit rfl ?_
   refine .go 6 ?_
   cases r85
   refine .drop 2 0 [] _ rfl rfl ?_
   refine .rS [.tmp 6, .tmp 7] [_, _] Tryz.func27 Tryz.results27 ⟨a58, k59, cs60, rfl, rfl, rfl, o61⟩
theorem residue_Field_Power_c {x0 : Int} {x1 : Int} {x2 : Int} {r : Int} (hG : G ∈ Fs)  (h : residue_Field_Power x0 x1 x2 = some r) : RetS Tryz.prog 78 #[.int .i64 x0, .int .i64 x1, .int .i64 x2] Fs [] [] (rv (.int .i64 r)) := by
 unfold residue_Field_Power at h
 try dsimp only at h
 refine RetS.st [(0, _), (1, _), (2, _)] Tryz.func78 Tryz.ntmps78 hG fun w0 S0 hS0 B0 => ?_
 refine .go 9 ?_
 refine .block ?_
 refine .lp (fun y m => ∃ (Z0 : Nat) (Z1 Z2 Z3 : _), y = ⟨[(1, .int .i64 Z1), (2, .int .i64 Z2), (7, .int .i64 Z3)], [], [], []⟩ ∧ Z0 = m ∧ residue_Field_Power_L2 x0 Z0 Z1 Z2 Z3 = some r) [(0, _)] [] [] ⟨big, x1, x2, 1, rfl, rfl, h⟩ (fun y m hI hb40 => ?_)
 obtain ⟨n34, v36, v37, v38, rfl, rfl, r39⟩ := hI
 refine .gn 0 ?_
 obtain ⟨m43, rfl⟩ : ∃ m, n34 = m + 1 := by cases n34 with | zero => exact absurd (show (none : Option _) = some _ from r39) (by simp) | succ m => exact ⟨m, rfl⟩
 have r42 : residue_Field_Power_B2 x0 (residue_Field_Power_L2 x0 m43) v36 v37 v38 = some r := r39; clear r39; unfold residue_Field_Power_B2 at r42; try dsimp only at r42
 refine .go 6 ?_
 refine .cH r42 (fun c44 r45 => ?_) (fun c44 r72 => ?_)
 ·refine .go 2 ?_
  refine .block (.go 4 ?_)
  refine .q .ro (.andw rfl rfl) rfl (.go 2 ?_)
  refine .kI (fun y => ∃ (Z0 : _), y = ⟨[(7, .int .i64 Z0)], G :: Fs, [], []⟩ ∧ (residue_Field_Power_J1 (residue_Field_Power_L2 x0 m43) v36 v37 x0) Z0 = some r) [(1, _), (2, _), (0, _)] [] [] [] [] ?_ ?_
  ·rintro _ ⟨v54, rfl, r56⟩
   refine .gn 0 ?_
   unfold residue_Field_Power_J1 at r56
   try dsimp only at r56
   refine .go 4 ?_
   obtain ⟨u60, hu60, r61⟩ := bind_some r56
   refine .cV [_, _, _] Tryz.call77 (residue_Field_Mul_c mcs  hu60) ?_
   refine .go 5 ?_
   refine .q .ro (.shr1 rfl rfl (by decide)) rfl (.go 2 ?_)
   exact (hb40 _ _ ⟨m43, u60, (v37 / 2), v54, rfl, rfl, r61⟩ (Nat.lt_succ_self _)).ar
  ·intro hb64
   refine .cH r45 (fun c65 r66 => ?_) (fun c65 r71 => ?_)
   ·refine .go 4 ?_
    obtain ⟨u67, hu67, r68⟩ := bind_some r66
    refine .cV [_, _, _] Tryz.call77 (residue_Field_Mul_c mcs  hu67) ?_
    refine .go 2 ?_
    exact (hb64 _ ⟨(u67), rfl, r68⟩).ar
   ·refine .go 1 ?_
    exact (hb64 _ ⟨(v38), rfl, r71⟩).ar
 ·refine .exit rfl ?_
  refine .go 5 ?_
  cases r72
  refine .rS [.tmp 6] [_] Tryz.func78 Tryz.results78 ⟨rfl, rfl, rfl⟩
theorem coded_Queries_c {x0_0 : Int} {x1_0 : Int} {x1_1 : Int} {x1_2 : Int} {x2 : Int} {x3 : Int} {x4_0 : List Int} {x4_1 : Int} {r : ((List (List Int)) × ((List Int) × Int) × Int)} (hG : G ∈ Fs) (s4_0 : SlR ri G a4_0 k4_0 x4_0) (h : coded_Queries x0_0 (x1_0, x1_1, x1_2) x2 x3 (x4_0, x4_1) = some r) : RetW Tryz.prog 28 #[.agg #[.int .i64 x0_0], .agg #[.int .i64 x1_0, .int .i64 x1_1, .int .i64 x1_2], .int .i64 x2, .int .i64 x3, .agg #[.slice a4_0 x4_0.length k4_0, .int .i64 x4_1]] Fs [] [] (fun v bo so G => ∃ a0 : Option Addr, ∃ k0 : Nat, ∃ a1 : Option Addr, ∃ k1 : Nat, v = .tuple #[.slice a0 r.1.length k0, .agg #[.slice a1 r.2.1.1.length k1, .int .i64 r.2.1.2], .int .i64 r.2.2] ∧ bo = [] ∧ so = [] ∧ SlR (Rep.sl ri) G a0 k0 r.1 ∧ SlR ri G a1 k1 r.2.1.1) := by
 unfold coded_Queries at h
 try dsimp only at h
 refine RetW.st [(0, _), (1, _), (2, _), (3, _), (4, _)] Tryz.func28 Tryz.ntmps28 hG fun w0 S0 hS0 B0 => ?_
 refine .go 2 ?_
 refine .box [_] .ro rfl rfl rfl (fun b1 hb1 => ?_)
 refine .box [_, _, _] .ro rfl rfl rfl (fun b2 hb2 => ?_)
 refine .box [_, _] .ro rfl rfl rfl (fun b3 hb3 => ?_)
 refine .go 1 ?_
 refine .alloc .ro ty56 rfl (fun b4 hb4 => ?_)
 refine .go 5 ?_
 refine .q .ro (.load_own_a 3 [_] rfl rfl ty45 rfl) rfl (.q .ro (.load_own_a 2 [_, _, _] rfl rfl ty47 rfl) rfl (.go 1 ?_))
 obtain ⟨u5, hu5, r6⟩ := bind_some h
 refine .cV [_, _, _] Tryz.call76 (coded_check_c mcs  hu5) ?_
 refine .go 7 ?_
 refine .cH r6 (fun c9 r10 => ?_) (fun c9 r11 => ?_)
 ·refine .go 2 ?_
  refine .q .ro (.build [_, _] [] ty56 pl56 rfl rfl) rfl (.go 2 ?_)
  refine .store 0 [_, _] [_, _, _, _] .ro rfl rfl rfl ty56 rfl rfl rfl rfl (.go 2 ?_)
  cases r10
  refine .rW 4 [.tmp 10, .cell 11 56, .tmp 12] [_, _, _] Tryz.func28 Tryz.results28 ⟨RV.tmp rfl, RV.cell_a 0 [_, _] rfl rfl ty56 rfl, RV.tmp rfl, trivial⟩ B0 hS0 (fun G' hg => ⟨none, 0, none, 0, rfl, rfl, rfl, (SlR.mono hg (SlR.nil (Rp' := (Rep.sl ri)))), (SlR.mono hg (SlR.nil (Rp' := ri)))⟩)
 ·refine .go 7 ?_
  refine .kR (fun y => y = ⟨[(36, .bool (decide ((x3 < 0) ∨ (x2 ≤ x3))))], G :: Fs, [], []⟩) [(2, _), (3, _), (5, _), (6, _), (9, _), (11, _)] [_, _, _, _] [0, 1, 2, 3] [] [] 4 ?_ ?_
  ·rintro _ rfl
   refine .gn 1 ?_
   refine .cH r11 (fun c16 r17 => ?_) (fun c16 r18 => ?_)
   ·refine .go 2 ?_
    refine .q .ro (.build [_, _] [] ty56 pl56 rfl rfl) rfl (.go 1 ?_)
    refine .store 0 [_, _] [_, _, _, _] .ro rfl rfl rfl ty56 rfl rfl rfl rfl (.go 2 ?_)
    cases r17
    refine .rW 4 [.tmp 10, .cell 11 56, .tmp 12] [_, _, _] Tryz.func28 Tryz.results28 ⟨RV.tmp rfl, RV.cell_a 0 [_, _] rfl rfl ty56 rfl, RV.tmp rfl, trivial⟩ B0 hS0 (fun G' hg => ⟨none, 0, none, 0, rfl, rfl, rfl, (SlR.mono hg (SlR.nil (Rp' := (Rep.sl ri)))), (SlR.mono hg (SlR.nil (Rp' := ri)))⟩)
   ·refine .go 3 ?_
    refine .q .ro (.load_own_a 1 [_, _] rfl rfl ty56 rfl) rfl (.go 6 ?_)
    obtain ⟨u19, hu19, r20⟩ := bind_some r18
    refine .cW [_, _, _] Tryz.call65 (tape_Draws_c mcs s4_0 hu19) B0 (fun v22 bo so G23 e24 B25 h21 => ?_)
    obtain ⟨a27, k28, a31, k32, cs33, rfl, rfl, rfl, s29, o34⟩ := h21
    refine .gn 4 ?_
    refine .store 1 [_, _] [_, _, _, _] .ro rfl rfl rfl ty56 rfl rfl rfl rfl (.go 9 ?_)
    refine .cH r20 (fun c35 r36 => ?_) (fun c35 r37 => ?_)
    ·refine .go 2 ?_
     refine .q .ro (.build [_, _] [] ty56 pl56 rfl rfl) rfl (.go 2 ?_)
     refine .store 0 [_, _] [_, _, _, _] .ro rfl rfl rfl ty56 rfl rfl rfl rfl (.go 2 ?_)
     cases r36
     refine .drop 0 1 _ [] rfl rfl ?_
     refine .rW 4 [.tmp 10, .cell 11 56, .tmp 12] [_, _, _] Tryz.func28 Tryz.results28 ⟨RV.tmp rfl, RV.cell_a 0 [_, _] rfl rfl ty56 rfl, RV.tmp rfl, trivial⟩ B25 hS0 (fun G' hg => ⟨none, 0, none, 0, rfl, rfl, rfl, (SlR.mono hg (SlR.nil (Rp' := (Rep.sl ri)))), (SlR.mono hg (SlR.nil (Rp' := ri)))⟩)
    ·refine .go 16 ?_
     refine .kB (fun y => ∃ (Z0 : _) (Z1 : List (List Int)) (Z2 : _) (Z3 : Nat) (Z4 Z5 Z6 Z7 Z8 Z9 Z10 : _), y = ⟨[(17, .slice Z2 Z1.length Z3)], Z0 :: Fs, [(b4, .cells #[.slice none 0 0, .int .i64 Z5] 56 (0, 0)), (b3, .cells #[.slice a27 u19.1.1.length k28, .int .i64 Z6] 56 (0, 0)), (b2, .cells #[.int .i64 Z7, .int .i64 Z8, .int .i64 Z9] 47 (0, 0)), (b1, .cells #[.int .i64 Z10] 45 (0, 0))], [.s (.slice Z2 Z1.length Z3) 22 1 Z1.length Z4]⟩ ∧ HpLe G23 Z0 ∧ Bd w0 S0 Fs Z0 ∧ OL (Rep.sl ri) Z0 Z4 Z1 ∧ (coded_Queries_J1 u19.1.1) Z1 Z5 Z6 Z7 Z8 Z9 Z10 = some r) [(9, _), (11, _)] [] [] [] [] ?_ ?_
     ·rintro _ ⟨G14, v15, a26, k30, cs38, v39, v40, v41, v42, v43, v44, rfl, e46, B48, o49, r50⟩
      refine .gn 0 ?_
      unfold coded_Queries_J1 at r50
      try dsimp only at r50
      refine .go 1 ?_
      refine .freezeR 0 rfl rfl o49 [] rfl B48 (fun G52 e53 B54 s55 => ?_)
      refine .drawL (.q 0 (.q 1 (.q 2 (.e 3 1 (.q 4 .nil))))) [_, _, _] (by kernel_rfl) (by kernel_rfl) (pick_mem [1, 2, 3] rfl) (.go 1 ?_)
      refine .dq (.load_own_a 0 [_, _] rfl rfl ty56 rfl) rfl (.go 1 ?_)
      refine .store 0 [_, _] [_, _, _, _] .d1 rfl rfl rfl ty56 rfl rfl rfl rfl (.clsL (HpLe.refl _) (pick_mem [1, 2, 3] rfl) (.go 2 ?_))
      cases r50
      refine .rW 4 [.tmp 10, .cell 11 56, .tmp 12] [_, _, _] Tryz.func28 Tryz.results28 ⟨RV.tmp rfl, RV.cell_a 0 [_, _] rfl rfl ty56 rfl, RV.tmp rfl, trivial⟩ B54 hS0 (fun G' hg => ⟨a26, k30, a27, k28, rfl, rfl, rfl, (SlR.mono hg s55), (SlR.mono hg (SlR.mono (HpLe.trans e46 e53) s29))⟩)
     ·intro hb57
      refine .block (.own_nil 22 1 ?_)
      refine .freezeR 1 rfl rfl o34 [_] rfl B25 (fun G58 e59 B60 s61 => ?_)
      refine .pull 3 rfl [_, _, _, _] rfl (.pull 3 rfl [_, _, _, _] rfl (.pull 3 rfl [_, _, _, _] rfl (.pull 3 rfl [_, _, _, _] rfl ?_)))
      refine .lp (fun y m => ∃ (Z0 : Nat) (Z1 : _) (Z2 : List (List Int)) (Z3 : _) (Z4 : Nat) (Z5 Z6 Z7 Z8 Z9 Z10 Z11 Z12 : _), y = ⟨[(17, .slice Z3 Z2.length Z4), (18, .int .i64 Z6)], [Z1], [(b4, .cells #[.slice none 0 0, .int .i64 Z7] 56 (0, 0)), (b3, .cells #[.slice a27 u19.1.1.length k28, .int .i64 Z8] 56 (0, 0)), (b2, .cells #[.int .i64 Z9, .int .i64 Z10, .int .i64 Z11] 47 (0, 0)), (b1, .cells #[.int .i64 Z12] 45 (0, 0))], [.s (.slice Z3 Z2.length Z4) 22 1 Z2.length Z5]⟩ ∧ Z0 = m ∧ HpLe G58 Z1 ∧ Bd w0 S0 Fs Z1 ∧ OL (Rep.sl ri) Z1 Z5 Z2 ∧ coded_Queries_L5 (coded_Queries_J1 u19.1.1) x2 x3 u19.2.1 x0_0 Z0 Z2 Z6 Z7 Z8 Z9 Z10 Z11 Z12 = some r) [(2, _), (3, _), (6, _), (9, _), (11, _), (14, _), (16, _)] [] [] ⟨big, G58, ([] : List (List Int)), none, 0, [], 1, 0, u19.1.2, x1_0, x1_1, x1_2, x0_0, rfl, rfl, (HpLe.refl _), B60, (OL.mono e59 (OL.nil (Rp' := (Rep.sl ri)))), r37⟩ (fun y m hI hb62 => ?_)
      obtain ⟨n63, G66, v67, a68, k69, cs70, v71, v72, v73, v74, v75, v81, v82, rfl, rfl, e83, B84, o85, r86⟩ := hI
      refine .gn 0 ?_
      obtain ⟨m87, rfl⟩ : ∃ m, n63 = m + 1 := by cases n63 with | zero => exact absurd (show (none : Option _) = some _ from r86) (by simp) | succ m => exact ⟨m, rfl⟩
      have r88 : coded_Queries_B5 (coded_Queries_J1 u19.1.1) x2 x3 u19.2.1 x0_0 (coded_Queries_L5 (coded_Queries_J1 u19.1.1) x2 x3 u19.2.1 x0_0 m87) v67 v71 v72 v73 v74 v75 v81 v82 = some r := r86; clear r86; unfold coded_Queries_B5 at r88; try dsimp only at r88
      refine .go 8 ?_
      refine .cH r88 (fun c89 r90 => ?_) (fun c89 r91 => ?_)
      ·refine .go 2 ?_
       refine .block (.go 10 ?_)
       refine .kB (fun y => ∃ (Z0 : List Int) (Z1 : _) (Z2 : Nat) (Z3 Z4 Z5 Z6 Z7 Z8 Z9 : _), y = ⟨[(19, .slice Z1 Z0.length Z2)], G66 :: Fs, [(b4, .cells #[.slice none 0 0, .int .i64 Z4] 56 (0, 0)), (b3, .cells #[.slice a27 u19.1.1.length k28, .int .i64 Z5] 56 (0, 0)), (b2, .cells #[.int .i64 Z6, .int .i64 Z7, .int .i64 Z8] 47 (0, 0)), (b1, .cells #[.int .i64 Z9] 45 (0, 0))], [.s (.slice Z1 Z0.length Z2) 3 1 Z0.length Z3]⟩ ∧ OL ri G66 Z3 Z0 ∧ (coded_Queries_J2 (coded_Queries_L5 (coded_Queries_J1 u19.1.1) x2 x3 u19.2.1 x0_0 m87) v71 v67) Z0 Z4 Z5 Z6 Z7 Z8 Z9 = some r) [(17, _), (18, _), (2, _), (3, _), (6, _), (9, _), (11, _), (14, _), (16, _)] [] [] [_] [0] ?_ ?_
       ·rintro _ ⟨v92, a93, k94, cs95, v96, v97, v98, v99, v100, v101, rfl, o102, r103⟩
        refine .gn 0 ?_
        unfold coded_Queries_J2 at r103
        try dsimp only at r103
        refine .go 3 ?_
        refine .freezeR 0 rfl rfl o102 [_] rfl B84 (fun G104 e105 B106 s107 => ?_)
        refine .lit [_] [(0, _)] .ro sl51 ty22 rfl rfl rfl rfl rfl rfl (fun b108 hb108 => ?_)
        have o109 : OL (Rep.sl ri) G104 [.slice a93 v92.length k94] ([v92] : List (List Int)) := ((OL.cons rfl (Rep.slI s107) (OL.nil (Rp' := (Rep.sl ri)))) :)
        refine .reval 100 (n' := ([v92] : List (List Int)).length) rfl rfl ?_
        obtain ⟨u110, hu110, r111⟩ := bind_some r103
        refine .appO (Q := (Rep.sl ri)) 0 .ro sl51 ty22 rfl rfl rfl rfl rfl rfl (OL.mono e105 o85) o109 rfl rfl rfl B106 hu110 rfl (fun a112 k113 cs114 o115 => ?_)
        refine .go 8 ?_
        exact (hb62 _ _ ⟨m87, G104, u110, a112, k113, cs114, (w64 (v71 + 1)), v96, v97, v98, v99, v100, v101, rfl, rfl, (HpLe.trans e83 e105), B106, o115, r111⟩ (Nat.lt_succ_self _)).ar
       ·intro hb116
        refine .block (.own_nil 3 1 ?_)
        refine .lp (fun y m => ∃ (Z0 : Nat) (Z1 : List Int) (Z2 : _) (Z3 : Nat) (Z4 Z5 : _), y = ⟨[(19, .slice Z2 Z1.length Z3), (63, .int .i64 Z5)], [], [], [.s (.slice Z2 Z1.length Z3) 3 1 Z1.length Z4]⟩ ∧ Z0 = m ∧ OL ri G66 Z4 Z1 ∧ coded_Queries_L4 (coded_Queries_J2 (coded_Queries_L5 (coded_Queries_J1 u19.1.1) x2 x3 u19.2.1 x0_0 m87) v71 v67) v71 x2 x3 u19.2.1 x0_0 v72 v73 v74 v75 v81 v82 Z0 Z1 Z5 = some r) [(17, _), (18, _), (2, _), (3, _), (6, _), (9, _), (11, _), (14, _), (16, _), (62, _)] [_, _, _, _] [_] ⟨big, ([] : List Int), none, 0, [], 0, rfl, rfl, (OL.nil (Rp' := ri)), r90⟩ (fun y m hI hb117 => ?_)
        obtain ⟨n118, v119, a120, k121, cs122, v123, rfl, rfl, o124, r125⟩ := hI
        refine .gn 0 ?_
        obtain ⟨m126, rfl⟩ : ∃ m, n118 = m + 1 := by cases n118 with | zero => exact absurd (show (none : Option _) = some _ from r125) (by simp) | succ m => exact ⟨m, rfl⟩
        have r127 : coded_Queries_B4 (coded_Queries_J2 (coded_Queries_L5 (coded_Queries_J1 u19.1.1) x2 x3 u19.2.1 x0_0 m87) v71 v67) v71 x2 x3 u19.2.1 x0_0 v72 v73 v74 v75 v81 v82 (coded_Queries_L4 (coded_Queries_J2 (coded_Queries_L5 (coded_Queries_J1 u19.1.1) x2 x3 u19.2.1 x0_0 m87) v71 v67) v71 x2 x3 u19.2.1 x0_0 v72 v73 v74 v75 v81 v82 m126) v119 v123 = some r := r125; clear r125; unfold coded_Queries_B4 at r127; try dsimp only at r127
        refine .go 5 ?_
        refine .cH r127 (fun c128 r129 => ?_) (fun c128 r130 => ?_)
        ·refine .go 2 ?_
         refine .block (.go 6 ?_)
         refine .drawL (.q 0 (.q 1 (.q 2 (.q 3 (.q 4 (.q 6 (.q 7 (.q 8 (.q 9 (.q 10 (.q 11 (.q 12 (.q 13 (.q 14 (.q 15 (.q 16 (.q 17 (.q 18 (.e 5 1 (.e 19 1 (.e 20 1 (.q 21 .nil)))))))))))))))))))))) [_, _, _, _] (by kernel_rfl) (by kernel_rfl) (pick_mem [0, 1, 2, 3] rfl) (.go 16 ?_)
         obtain ⟨u131, hu131, r132⟩ := bind_some r129
         obtain ⟨a133, k134, h135, s136⟩ := SlR.sub (SlR.mono e83 s61) hu131
         refine .dq (.sliceR (SlR.mono e83 s61) rfl hu131 sl22 ty3.sz (fun h => .yes' rfl h) (fun h => .yes' rfl h) h135) rfl (.go 1 ?_)
         obtain ⟨u137, hu137, r138⟩ := bind_some r132
         refine .cVd [_, _, _] Tryz.call78 (residue_Field_Power_c mcs  hu137) ?_
         refine .clsL (HpLe.refl _) (pick_mem [0, 1, 2, 3] rfl) ?_
         obtain ⟨u139, hu139, r140⟩ := bind_some r138
         refine .cVd [_, _, _] Tryz.call79 (residue_Field_Value_c mcs s136 hu139) ?_
         refine .clsL (HpLe.refl _) (pick_mem [0, 1, 2, 3] rfl) ?_
         obtain ⟨u141, hu141, r142⟩ := bind_some r140
         refine .cVd [_, _, _] Tryz.call77 (residue_Field_Mul_c mcs  hu141) ?_
         refine .clsL (HpLe.refl _) (pick_mem [0, 1, 2, 3] rfl) (.go 9 ?_)
         refine .kI (fun y => ∃ (Z0 : _), y = ⟨[(21, .int .i64 Z0)], G66 :: Fs, [], []⟩ ∧ (coded_Queries_J3 (coded_Queries_L4 (coded_Queries_J2 (coded_Queries_L5 (coded_Queries_J1 u19.1.1) x2 x3 u19.2.1 x0_0 m87) v71 v67) v71 x2 x3 u19.2.1 x0_0 v72 v73 v74 v75 v81 v82 m126) v123 v119) Z0 = some r) [(19, _), (63, _), (17, _), (18, _), (2, _), (3, _), (6, _), (9, _), (11, _), (14, _), (16, _), (62, _)] [_, _, _, _] [0, 1, 2, 3] [_, _] [0, 1] ?_ ?_
         ·rintro _ ⟨v143, rfl, r144⟩
          refine .gn 0 ?_
          unfold coded_Queries_J3 at r144
          try dsimp only at r144
          refine .go 3 ?_
          refine .lit [_] [(0, _)] .ro sl22 ty3 rfl rfl rfl rfl rfl rfl (fun b145 hb145 => ?_)
          have o146 : OL ri G66 [.int .i64 v143] ([v143] : List Int) := ((OL.cons rfl (Rep.intI .i64 v143) (OL.nil (Rp' := ri))) :)
          refine .reval 95 (n' := ([v143] : List Int).length) rfl rfl ?_
          obtain ⟨u147, hu147, r148⟩ := bind_some r144
          refine .appO (Q := ri) 0 .ro sl22 ty3 rfl rfl rfl rfl rfl rfl o124 o146 rfl rfl rfl B84 hu147 rfl (fun a149 k150 cs151 o152 => ?_)
          refine .go 7 ?_
          exact (hb117 _ _ ⟨m126, u147, a149, k150, cs151, (w64 (v123 + 1)), rfl, rfl, o152, r148⟩ (Nat.lt_succ_self _)).ar
         ·intro hb153
          refine .cH r142 (fun c154 r155 => ?_) (fun c154 r156 => ?_)
          ·refine .go 3 ?_
           obtain ⟨u157, hu157, r158⟩ := bind_some r155
           refine .cV [_, _, _] Tryz.call80 (residue_Field_Add_c mcs  hu157) ?_
           refine .go 2 ?_
           exact (hb153 _ ⟨(u157), rfl, r158⟩).ar
          ·refine .go 1 ?_
           exact (hb153 _ ⟨(u141), rfl, r156⟩).ar
        ·refine .exit rfl ?_
         exact (hb116 _ ⟨v119, a120, k121, cs122, v72, v73, v74, v75, v81, v82, rfl, o124, r130⟩).ar
      ·refine .exit rfl ?_
       exact (hb57 _ ⟨G66, v67, a68, k69, cs70, v72, v73, v74, v75, v81, v82, rfl, (HpLe.trans e59 e83), B84, o85, r91⟩).ar
  ·intro hb13
   refine .split 32 rfl (fun c12 => ?_) (fun c12 => ?_)
   ·refine .go 4 ?_
    exact (hb13 _ rfl).ax ⟨dor_t c12, rfl, rfl, rfl, rfl, rfl, rfl, trivial⟩
   ·refine .go 7 ?_
    exact (hb13 _ rfl).ax ⟨dor_f c12, rfl, rfl, rfl, rfl, rfl, rfl, trivial⟩
theorem coded_wide_c {x0 : Int} {r : Bool} (hG : G ∈ Fs)  (h : coded_wide x0 = some r) : RetS Tryz.prog 82 #[.int .i64 x0] Fs [] [] (rv (.bool r)) := by
 unfold coded_wide at h
 try dsimp only at h
 refine RetS.st [(0, _)] Tryz.func82 Tryz.ntmps82 hG fun w0 S0 hS0 B0 => ?_
 refine .go 9 ?_
 refine .kR (fun y => y = ⟨[(8, .bool (decide ((0 ≤ x0) ∧ (x0 ≤ 64))))], G :: Fs, [], []⟩) [(2, _)] [] [] [] [] 3 ?_ ?_
 ·rintro _ rfl
  refine .gn 2 ?_
  cases h
  refine .rS [.tmp 2] [_] Tryz.func82 Tryz.results82 ⟨rfl, rfl, rfl⟩
 ·intro hb2
  refine .split 5 rfl (fun c1 => ?_) (fun c1 => ?_)
  ·refine .go 5 ?_
   exact (hb2 _ rfl).ax ⟨dand_t c1, rfl, trivial⟩
  ·refine .go 3 ?_
   exact (hb2 _ rfl).ax ⟨dand_f c1, rfl, trivial⟩
theorem coded_groups_f1_i {Fs : List Hp} {G : Hp} {p1 : Value} {x1 : Int} {p2 : Value} {a2 : Option Addr} {k2 : Nat} {x2 : List (List Int)} {l : (List (Int × (List (List Int))))} (hG : G ∈ Fs) (hp1 : Rp G p1 [.int .i64 x1]) (hp2 : Rp G p2 [.slice a2 x2.length k2]) (s2 : SlR (Rep.sl ri) G a2 k2 x2) (h : coded_groups_f1 x1 x2 = some l) : IterX Tryz.prog 128 [p1, p2] Fs l.length (fun i v => ∃ x, l[i]? = some x ∧ (Yr.pair (Yr.v ri) (Yr.v (Rep.sl (Rep.sl ri)))).r G v x) := by
 unfold coded_groups_f1 at h
 try dsimp only at h
 intro y 𝒢 ℰ R0 hy hR0
 refine RetG.of (vs := [_, _, _]) Tryz.func128 rfl Tryz.ntmps128 [(0, _), (1, _), (2, _)] ⟨rfl, rfl, rfl, trivial⟩ rfl fun w0 => Cov.dup hG ?_
 have B0 : Bd w0 (blks [] [.g R0]) Fs G := Bd.fin hG
 generalize hS0 : blks [] [.g R0] = S0 at B0 ⊢
 replace h : _ = some (List.drop 0 l) := h
 refine .go 4 ?_
 refine .block ?_
 refine .lp (fun y m => ∃ (Z0 : Nat) (Z1 : Guest) (Z2 : Nat) (Z3 : _), y = ⟨[(4, .int .i64 Z3)], [], [], [.g Z1]⟩ ∧ Z0 = m ∧ 𝒢 Z2 Z1 ∧ Z2 ≤ l.length ∧ coded_groups_f1_L1 x1 x2 Z0 Z3 = some (List.drop Z2 l)) [(0, _), (1, _), (2, _)] [] [] ⟨big, R0, 0, 0, rfl, rfl, hR0, (Nat.zero_le _), h⟩ (fun y m hI hb26 => ?_)
 obtain ⟨n18, R20, i21, v24, rfl, rfl, hR22, le23, r25⟩ := hI
 refine .gn 0 ?_
 obtain ⟨m30, rfl⟩ : ∃ m, n18 = m + 1 := by cases n18 with | zero => exact absurd (show (none : Option _) = some _ from r25) (by simp) | succ m => exact ⟨m, rfl⟩
 have r29 : coded_groups_f1_B1 x1 x2 (coded_groups_f1_L1 x1 x2 m30) v24 = some (List.drop i21 l) := r25; clear r25; unfold coded_groups_f1_B1 at r29; try dsimp only at r29
 refine .go 4 ?_
 refine .q .ro (.load_rp hp1 mcs rfl ty3 rfl) rfl (.go 1 ?_)
 refine .q .ro (.load_rp hp2 mcs rfl ty51 rfl) rfl (.go 3 ?_)
 refine .cH r29 (fun c31 r32 => ?_) (fun c31 r45 => ?_)
 ·refine .go 2 ?_
  refine .block (.go 4 ?_)
  refine .q .ro (.load_rp hp2 mcs rfl ty51 rfl) rfl (.go 1 ?_)
  refine .q .ro (.load_rp hp1 mcs rfl ty3 rfl) rfl (.go 3 ?_)
  refine .q .ro (.load_rp hp1 mcs rfl ty3 rfl) rfl (.go 1 ?_)
  refine .q .ro (.load_rp hp2 mcs rfl ty51 rfl) rfl (.go 1 ?_)
  refine .q .ro (.min2 rfl rfl) rfl ?_
  obtain ⟨u33, hu33, r34⟩ := bind_some r32
  obtain ⟨a35, k36, h37, s38⟩ := SlR.sub s2 hu33
  refine .q .ro (.sliceR s2 rfl hu33 sl51 ty22.sz (fun h => .yes' rfl h) (fun h => .yes' rfl h) h37) rfl ?_
  obtain ⟨h39, r40⟩ := yc_some r34; clear r34
  refine .yieldX hy ⟨_, h39, ⟨[_], _, rfl, ⟨_, rfl, ((Rep.intI .i64 v24) :)⟩, ⟨_, rfl, ((Rep.slI s38) :)⟩⟩⟩ hR22 mcm rfl rfl rfl (fun R41 hR42 => ?_) (fun R43 hE44 => ?_)
  ·refine .q .ro (.not_t rfl) rfl ?_
   refine .go 1 ?_
   refine .cond_false rfl (.go 7 ?_)
   exact (hb26 _ _ ⟨m30, R41, (i21 + 1), (w64 (v24 + 1)), rfl, rfl, hR42, (yc_le h39), r40⟩ (Nat.lt_succ_self _)).ar
  ·refine .q .ro (.not_f rfl) rfl ?_
   refine .go 1 ?_
   refine .cond_true rfl ?_
   refine .leave (.inr ⟨_, rfl⟩) [] [] rfl Tryz.func128 Tryz.results128 trivial mcm (.inl rfl) (fresh_emp _) ⟨rfl, R43, .inr hE44, rfl⟩
 ·refine .exit rfl ?_
  have hi := yc_end r45 le23
  refine .leave (.inl rfl) [] [] rfl Tryz.func128 Tryz.results128 trivial mcm (.inl rfl) (fresh_emp _) ⟨rfl, R20, .inl (hi ▸ hR22), rfl⟩
theorem coded_groups_c {x0 : List (List Int)} {x1 : Int} {r : (List (Int × (List (List Int))))} (hG : G ∈ Fs) (s0 : SlR (Rep.sl ri) G a0 k0 x0) (h : coded_groups x0 x1 = some r) : RetW Tryz.prog 83 #[.slice a0 x0.length k0, .int .i64 x1] Fs [] [] (fun v bo so G => ∃ (Fi0 : FuncId) (ci0 : List Value), v = .func (.func Fi0) #[] ci0.toArray ∧ bo = [] ∧ so = [] ∧ (∀ args w, (callFunc Fi0 args).run Tryz.prog w = .ok (.enter Fi0 args) w) ∧ IterRX Tryz.prog (Yr.pair (Yr.v ri) (Yr.v (Rep.sl (Rep.sl ri)))) Fi0 ci0 G r) := by
 unfold coded_groups at h
 try dsimp only at h
 refine RetW.st [(0, _), (1, _)] Tryz.func83 Tryz.ntmps83 hG fun w0 S0 hS0 B0 => ?_
 refine .go 2 ?_
 refine .box [_] .ro rfl rfl rfl (fun b1 hb1 => ?_)
 refine .box [_] .ro rfl rfl rfl (fun b2 hb2 => ?_)
 refine .go 4 ?_
 refine .q .ro (.makeFunc (vf := []) (vc := [_, _]) rfl rfl) rfl (.go 2 ?_)
 refine .freezeBR 0 rfl [_] rfl B0 (fun G3 e4 B5 p6 => ?_)
 refine .freezeBR 0 rfl [] rfl B5 (fun G8 e9 B10 p11 => ?_)
 obtain ⟨u13, hu13, r14⟩ := bind_some h
 cases r14
 refine .rW 0 [.tmp 4] [_] Tryz.func83 Tryz.results83 ⟨RV.tmp rfl, trivial⟩ B10 hS0 (fun G' hg => ⟨_, _, rfl, rfl, rfl, Tryz.call128, (fun Fs' G1 hle hm => coded_groups_f1_i (G := G1) hm (Rp.mono (HpLe.trans hg hle) (Rp.mono e9 p6)) (Rp.mono (HpLe.trans hg hle) p11) (SlR.mono (HpLe.trans hg hle) (SlR.mono (HpLe.trans e4 e9) s0)) hu13)⟩)
end Go.Proofs.YtfcicopgdahmcaaGreatDoor
end

section
set_option maxHeartbeats 4000000
set_option maxRecDepth 100000
namespace Go.Proofs.YtfcicopgdahmcaaGreatDoor
open Go.RowKit
set_option linter.unusedSimpArgs false
set_option linter.unusedVariables false
set_option synthInstance.maxSize 2000
set_option synthInstance.maxHeartbeats 400000
variable {Fs : List Hp} {G : Hp} {a3 a0 : Option Addr} {k3 k0 : Nat}
theorem coded_Hold_c {x0_0 : Int} {x1_0 : Int} {x1_1 : Int} {x1_2 : Int} {x2 : Int} {x3 : List (List Int)} {x4 : Int} {r : ((List (List Int)) × Int)} (hG : G ∈ Fs) (s3 : SlR (Rep.sl ri) G a3 k3 x3) (h : coded_Hold x0_0 (x1_0, x1_1, x1_2) x2 x3 x4 = some r) : RetW Tryz.prog 29 #[.agg #[.int .i64 x0_0], .agg #[.int .i64 x1_0, .int .i64 x1_1, .int .i64 x1_2], .int .i64 x2, .slice a3 x3.length k3, .int .i64 x4] Fs [] [] (fun v bo so G => ∃ (oa0 : Option Addr) (ok0 : Nat) (oc0 : List Value), v = .tuple #[.slice oa0 r.1.length ok0, .int .i64 r.2] ∧ bo = [] ∧ so = [.s (.slice oa0 r.1.length ok0) 22 1 r.1.length oc0] ∧ OL (Rep.sl ri) G oc0 r.1) := by
 unfold coded_Hold at h
 try dsimp only at h
 refine RetW.st [(0, _), (1, _), (2, _), (3, _), (4, _)] Tryz.func29 Tryz.ntmps29 hG fun w0 S0 hS0 B0 => ?_
 refine .marks0 (.go 2 ?_)
 refine .box [_] .ro rfl rfl rfl (fun b1 hb1 => ?_)
 refine .box [_, _, _] .ro rfl rfl rfl (fun b2 hb2 => ?_)
 refine .box [_] .ro rfl rfl rfl (fun b3 hb3 => ?_)
 refine .box [_] .ro rfl rfl rfl (fun b4 hb4 => ?_)
 refine .go 6 ?_
 refine .q .ro (.load_own_a 3 [_] rfl rfl ty45 rfl) rfl (.q .ro (.load_own_a 2 [_, _, _] rfl rfl ty47 rfl) rfl ?_)
 obtain ⟨u5, hu5, r6⟩ := bind_some h
 refine .cV [_, _] Tryz.call81 (coded_Check_c mcs  hu5) ?_
 refine .go 7 ?_
 refine .cH r6 (fun c9 r10 => ?_) (fun c9 r12 => ?_)
 ·refine .go 6 ?_
  refine .own_nil 22 1 ?_
  cases r10
  refine .drop 4 0 [] _ rfl rfl (.pullS 1 rfl [_, _] rfl ?_)
  refine .out (.inr ⟨_, rfl⟩) rfl (Cov.unmarkAll _ _ ?_)
  refine .outW [.tmp 10, .tmp 11] [_, _] Tryz.func29 Tryz.results29 ⟨RV.tmp rfl, RV.tmp rfl, trivial⟩ mcm mcs B0 (by subst hS0; simp [blks]) (fun G' hg => ⟨none, 0, [], rfl, rfl, rfl, (OL.mono hg (OL.nil (Rp' := (Rep.sl ri))))⟩)
 ·refine .go 7 ?_
  refine .kR (fun y => y = ⟨[(35, .bool (decide ((x4 < 1) ∨ (x1_0 < x4))))], G :: Fs, [], []⟩) [(3, _), (5, _), (6, _), (7, _), (9, _)] [_, _, _, _] [0, 1, 2, 3] [_] [0] 5 ?_ ?_
  ·rintro _ rfl
   refine .gn 1 ?_
   refine .cH r12 (fun c17 r18 => ?_) (fun c17 r20 => ?_)
   ·refine .go 5 ?_
    refine .own_nil 22 1 ?_
    cases r18
    refine .drop 4 0 [] _ rfl rfl (.pullS 1 rfl [_, _] rfl ?_)
    refine .out (.inr ⟨_, rfl⟩) rfl (Cov.unmarkAll _ _ ?_)
    refine .outW [.tmp 10, .tmp 11] [_, _] Tryz.func29 Tryz.results29 ⟨RV.tmp rfl, RV.tmp rfl, trivial⟩ mcm mcs B0 (by subst hS0; simp [blks]) (fun G' hg => ⟨none, 0, [], rfl, rfl, rfl, (OL.mono hg (OL.nil (Rp' := (Rep.sl ri))))⟩)
   ·refine .go 5 ?_
    obtain ⟨u21, hu21, r22⟩ := bind_some r20
    refine .cV [_] Tryz.call82 (coded_wide_c mcs  hu21) ?_
    refine .go 2 ?_
    refine .kR (fun y => y = ⟨[(43, .bool (decide (((!u21) = true) ∨ (1024 < (x3.length : Int)))))], G :: Fs, [], []⟩) [(3, _), (5, _), (6, _), (7, _), (9, _)] [_, _, _, _] [0, 1, 2, 3] [_] [0] 4 ?_ ?_
    ·rintro _ rfl
     refine .gn 1 ?_
     refine .cH r22 (fun c29 r30 => ?_) (fun c29 r32 => ?_)
     ·refine .go 5 ?_
      refine .own_nil 22 1 ?_
      cases r30
      refine .drop 4 0 [] _ rfl rfl (.pullS 1 rfl [_, _] rfl ?_)
      refine .out (.inr ⟨_, rfl⟩) rfl (Cov.unmarkAll _ _ ?_)
      refine .outW [.tmp 10, .tmp 11] [_, _] Tryz.func29 Tryz.results29 ⟨RV.tmp rfl, RV.tmp rfl, trivial⟩ mcm mcs B0 (by subst hS0; simp [blks]) (fun G' hg => ⟨none, 0, [], rfl, rfl, rfl, (OL.mono hg (OL.nil (Rp' := (Rep.sl ri))))⟩)
     ·refine .go 5 ?_
      refine .alloc .ro ty140 rfl (fun b33 hb33 => ?_)
      refine .store 0 [_] [_, _, _, _, _] .ro rfl rfl rfl ty140 rfl rfl rfl rfl (.go 8 ?_)
      refine .cutBD (β := Int × Int × Int × Int × Int × Int × Int) (fun y => mks mk0.1) (fun y => []) [(3, _), (6, _), (7, _), (9, _), (13, _)] (fun y => G :: Fs) (fun y => [(b33, .cells #[.int .i64 y.1] 140 (0, 0)), (b4, .cells #[.int .i64 y.2.1] 3 (0, 0)), (b3, .cells #[.int .i64 y.2.2.1] 3 (0, 0)), (b2, .cells #[.int .i64 y.2.2.2.1, .int .i64 y.2.2.2.2.1, .int .i64 y.2.2.2.2.2.1] 47 (0, 0)), (b1, .cells #[.int .i64 y.2.2.2.2.2.2] 45 (0, 0))]) [] (fun y => []) [_] (fun y => (coded_Hold_J5 x3) y.1 y.2.1 y.2.2.1 y.2.2.2.1 y.2.2.2.2.1 y.2.2.2.2.2.1 y.2.2.2.2.2.2 = some r) ⟨rfl, rfl, rfl, rfl, rfl, trivial⟩ [] rfl [0] rfl ?_ ?_
      ·intro y hI
       obtain ⟨v11, v15, v16, v19, v23, v24, v27⟩ := y
       have r28 := hI; clear hI
       try dsimp only at r28
       refine .gn 0 ?_
       unfold coded_Hold_J5 at r28
       try dsimp only at r28
       refine .go 2 ?_
       refine .alloc .ro ty51 rfl (fun b31 hb31 => ?_)
       refine .go 7 ?_
       obtain ⟨u34, hu34, r35⟩ := bind_some r28
       refine .cW [_, _] Tryz.call83 (coded_groups_c mcs s3 hu34) B0 (fun v36 bo so G37 e38 B39 h40 => ?_)
       obtain ⟨F41, c42, rfl, rfl, rfl, hc43, hi44⟩ := h40
       refine .gn 1 ?_
       refine .cutBD (β := Hp × MK × List (List Int) × Option Addr × Nat × List Value × Int × Int × Int × Int × Int × Int × Int) (fun y => mks y.2.1.1) (fun y => []) [(16, _)] (fun y => y.1 :: Fs) (fun y => [(b31, .cells #[.slice y.2.2.2.1 y.2.2.1.length y.2.2.2.2.1] 51 (0, 0)), (b33, .cells #[.int .i64 y.2.2.2.2.2.2.1] 140 (0, 0)), (b4, .cells #[.int .i64 y.2.2.2.2.2.2.2.1] 3 (0, 0)), (b3, .cells #[.int .i64 y.2.2.2.2.2.2.2.2.1] 3 (0, 0)), (b2, .cells #[.int .i64 y.2.2.2.2.2.2.2.2.2.1, .int .i64 y.2.2.2.2.2.2.2.2.2.2.1, .int .i64 y.2.2.2.2.2.2.2.2.2.2.2.1] 47 (0, 0)), (b1, .cells #[.int .i64 y.2.2.2.2.2.2.2.2.2.2.2.2] 45 (0, 0))]) [] (fun y => [.g (marksG y.2.1), .s (.slice y.2.2.2.1 y.2.2.1.length y.2.2.2.2.1) 22 1 y.2.2.1.length y.2.2.2.2.2.1]) [] (fun y => HpLe G37 y.1 ∧ Bd w0 S0 Fs y.1 ∧ OL (Rep.sl ri) y.1 y.2.2.2.2.2.1 y.2.2.1 ∧ coded_Hold_J1 y.2.2.1 y.2.2.2.2.2.2.1 y.2.2.2.2.2.2.2.1 y.2.2.2.2.2.2.2.2.1 y.2.2.2.2.2.2.2.2.2.1 y.2.2.2.2.2.2.2.2.2.2.1 y.2.2.2.2.2.2.2.2.2.2.2.1 y.2.2.2.2.2.2.2.2.2.2.2.2 = some r) ⟨rfl, trivial⟩ [] rfl [] rfl ?_ ?_
       ·intro y hI
        obtain ⟨G46, mk48, v49, a50, k52, cs53, v54, v55, v56, v57, v58, v59, v60⟩ := y
        obtain ⟨e61, B62, o63, r65⟩ := hI
        try dsimp only at e61 B62 o63 r65
        refine .gn 0 ?_
        unfold coded_Hold_J1 at r65
        try dsimp only at r65
        refine .go 6 ?_
        cases r65
        refine .drop 6 0 [] _ rfl rfl ?_
        refine .out (.inr ⟨_, rfl⟩) rfl (Cov.unmarkAll _ _ ?_)
        refine .outW [.tmp 10, .tmp 11] [_, _] Tryz.func29 Tryz.results29 ⟨RV.tmp rfl, RV.tmp rfl, trivial⟩ mcm mcs B62 (by subst hS0; simp [blks]) (fun G' hg => ⟨a50, k52, cs53, rfl, rfl, rfl, (OL.mono hg o63)⟩)
       ·intro hb66
        refine .block (.own_nil 22 1 (.pull 5 rfl [_, _, _, _, _, _] rfl (.pull 5 rfl [_, _, _, _, _, _] rfl (.pull 5 rfl [_, _, _, _, _, _] rfl (.pull 5 rfl [_, _, _, _, _, _] rfl (.pull 5 rfl [_, _, _, _, _, _] rfl (.pull 5 rfl [_, _, _, _, _, _] rfl (.emp ?_))))))))
        refine .rangeX (α := List (List Int) × Option Addr × Nat × List Value × Int × Int × Int × Int × Int × Int × Int × Hp) (β := Unit) (fun y => [y.2.2.2.2.2.2.2.2.2.2.2]) (fun y => [(b31, .cells #[.slice y.2.1 y.1.length y.2.2.1] 51 (0, 0)), (b33, .cells #[.int .i64 y.2.2.2.2.1] 140 (0, 0)), (b4, .cells #[.int .i64 y.2.2.2.2.2.1] 3 (0, 0)), (b3, .cells #[.int .i64 y.2.2.2.2.2.2.1] 3 (0, 0)), (b2, .cells #[.int .i64 y.2.2.2.2.2.2.2.1, .int .i64 y.2.2.2.2.2.2.2.2.1, .int .i64 y.2.2.2.2.2.2.2.2.2.1] 47 (0, 0)), (b1, .cells #[.int .i64 y.2.2.2.2.2.2.2.2.2.2.1] 45 (0, 0))]) (fun y => [.s (.slice y.2.1 y.1.length y.2.2.1) 22 1 y.1.length y.2.2.2.1]) (fun _ => []) (fun _ => []) (fun _ => []) (fun _ => .skip) (fun i y => (∀ G', HpLe G37 G' → HpLe y.2.2.2.2.2.2.2.2.2.2.2 G' → OL (Rep.sl ri) G' y.2.2.2.1 y.1) ∧ coded_Hold_L4 coded_Hold_J1 (List.drop i u34) y.1 y.2.2.2.2.1 y.2.2.2.2.2.1 y.2.2.2.2.2.2.1 y.2.2.2.2.2.2.2.1 y.2.2.2.2.2.2.2.2.1 y.2.2.2.2.2.2.2.2.2.1 y.2.2.2.2.2.2.2.2.2.2.1 = some r) (fun _ => False) (([] : List (List Int)), none, 0, [], v11, v15, v16, v19, v23, v24, v27, empHp)  c42 rfl rfl hc43 rfl (fun G hG b => by rw [List.mem_singleton.1 hG]; rfl) rfl rfl (hi44 _ G37 (HpLe.refl _) mcs) (fun _ _ hv => by obtain ⟨_, _, hv⟩ := hv; exact (Yr.len _ hv).trans rfl) (by kernel_rfl) ⟨(fun G' h1 _ => OL.mono h1 (OL.nil (Rp' := (Rep.sl ri)))), r35⟩ ?_ ?_ (fun _ _ h => h.elim)
        ·intro l68 tm69 D70 i71 y v72 hV74 hI w75 S76 hw77
         obtain ⟨v79, a80, k84, cs85, v86, v87, v88, v89, v90, v91, v92, G93⟩ := y
         obtain ⟨o94, r95⟩ := hI
         try dsimp only at o94 r95
         obtain ⟨x96, h97, h98⟩ := hV74
         refine .union (Fin := (G93 :: G37 :: Fs)) bd_fin (fun G99 e100 B101 => ?_)
         have e102 : HpLe G37 G99 := ext_le e100 (List.mem_cons_of_mem _ mcs)
         have e103 : HpLe G93 G99 := ext_le e100 mcs
         replace o94 := o94 G99 e102 e103
         obtain ⟨_, _, rfl, h104, h105⟩ := h98
         obtain ⟨v106, rfl, h107⟩ := h104
         obtain ⟨rfl, _⟩ := List.cons.inj h107
         obtain ⟨v108, rfl, h109⟩ := h105
         obtain ⟨a110, k111, h112, s113⟩ := h109
         obtain ⟨rfl, _⟩ := List.cons.inj h112
         rw [drop_cons h97] at r95
         have r114 : coded_Hold_B4 coded_Hold_J1 (coded_Hold_L4 coded_Hold_J1 (List.drop (i71 + 1) u34)) x96 v79 v86 v87 v88 v89 v90 v91 v92 = some r := r95; clear r95; unfold coded_Hold_B4 at r114; try dsimp only at r114
         refine .gn 3 ?_
         refine .beginRound 6 rfl rfl [_, _, _, _, _, _, _] rfl (.block (.go 3 ?_))
         obtain ⟨u115, hu115, r116⟩ := bind_some r114
         refine .makeR (G := G99) (Q := ri) .ro sl22 ty3 rfl rfl rfl ((Rep.intI .i64 0) :) rfl rfl hu115 rfl rfl (fun b117 cs118 hb117 o119 => ?_)
         refine .go 9 ?_
         refine .kB (fun y => ∃ (Z0 : List Int) (Z1 : _) (Z2 : Nat) (Z3 Z4 Z5 Z6 Z7 Z8 Z9 Z10 : _), y = ⟨[(19, .slice Z1 Z0.length Z2)], G99 :: (G93 :: G37 :: Fs), [(b33, .cells #[.int .i64 Z4] 140 (0, 0)), (b4, .cells #[.int .i64 Z5] 3 (0, 0)), (b3, .cells #[.int .i64 Z6] 3 (0, 0)), (b2, .cells #[.int .i64 Z7, .int .i64 Z8, .int .i64 Z9] 47 (0, 0)), (b1, .cells #[.int .i64 Z10] 45 (0, 0))], [.s (.slice Z1 Z0.length Z2) 3 1 Z0.length Z3]⟩ ∧ OL ri G99 Z3 Z0 ∧ (coded_Hold_J2 (coded_Hold_L4 coded_Hold_J1 (List.drop (i71 + 1) u34)) v79) Z0 Z4 Z5 Z6 Z7 Z8 Z9 Z10 = some r) [(16, _)] [_, _] [0, 6] [_] [1] ?_ ?_
         ·rintro _ ⟨v120, a121, k122, cs123, v124, v125, v126, v127, v128, v129, v130, rfl, o131, r132⟩
          refine .gn 0 ?_
          unfold coded_Hold_J2 at r132
          try dsimp only at r132
          refine .go 3 ?_
          refine .freezeR 0 rfl rfl o131 [_] rfl B101 (fun G133 e134 B135 s136 => ?_)
          refine .lit [_] [(0, _)] .ro sl51 ty22 rfl rfl rfl rfl rfl rfl (fun b137 hb137 => ?_)
          have o138 : OL (Rep.sl ri) G133 [.slice a121 v120.length k122] ([v120] : List (List Int)) := ((OL.cons rfl (Rep.slI s136) (OL.nil (Rp' := (Rep.sl ri)))) :)
          refine .reval 87 (n' := ([v120] : List (List Int)).length) rfl rfl ?_
          obtain ⟨u139, hu139, r141⟩ := bind_some r132
          refine .appO (Q := (Rep.sl ri)) 0 .ro sl51 ty22 rfl rfl rfl rfl rfl rfl (OL.mono e134 o94) o138 rfl rfl rfl B135 hu139 rfl (fun a142 k143 cs144 o145 => ?_)
          refine .store 5 [_] [_, _, _, _, _, _, _] .ro rfl rfl rfl ty51 rfl rfl rfl rfl (.go 2 ?_)
          refine .pull 6 rfl [_, _, _, _, _, _, _] rfl (.pull 5 rfl [_, _, _, _, _, _, _] rfl (.pull 5 rfl [_, _, _, _, _, _, _] rfl (.pull 5 rfl [_, _, _, _, _, _, _] rfl (.pull 5 rfl [_, _, _, _, _, _, _] rfl (.pull 5 rfl [_, _, _, _, _, _, _] rfl (.pull 6 rfl [_, _, _, _, _, _, _] rfl ?_))))))
          refine .round_endX (u139, a142, k143, cs144, v124, v125, v126, v127, v128, v129, v130, G133) 6 rfl rfl ⟨(fun G' _ h2 => OL.mono h2 o145), r141⟩ rfl rfl (fun F hF => by rcases List.mem_cons.1 hF with rfl | hF; exact mcs; exact List.mem_cons_of_mem _ (List.mem_cons_of_mem _ hF)) (fun F hF => by rw [List.mem_singleton.1 hF]; exact B135)
         ·intro hb146
          refine .block ?_
          refine .lp (fun y m => ∃ (Z0 : Nat) (Z1 : List (List Int)) (Z2 : List Int) (Z3 : _) (Z4 : Nat) (Z5 : _), y = ⟨[(19, .slice Z3 Z2.length Z4), (71, .int .i64 (Z0 : Int))], [], [], [.s (.slice Z3 Z2.length Z4) 3 1 Z2.length Z5]⟩ ∧ Z1.length = m ∧ OL ri G99 Z5 Z2 ∧ List.drop Z0 x96.2 = Z1 ∧ coded_Hold_L3 (coded_Hold_J2 (coded_Hold_L4 coded_Hold_J1 (List.drop (i71 + 1) u34)) v79) v86 v87 v88 v89 v90 v91 v92 Z1 Z0 Z2 = some r) [(9, _), (13, _), (16, _), (69, _), (70, _)] [_, _, _, _, _, _, _] [_] ⟨0, x96.2, u115, (some ⟨b117, 0, none⟩), u115.length, cs118, rfl, rfl, o119, rfl, r116⟩ (fun y m hI hb147 => ?_)
          obtain ⟨i148, w149, v150, a151, k152, cs153, rfl, rfl, o154, g155, r156⟩ := hI
          refine .gn 0 ?_
          cases w149 with
          | nil =>
           rw [coded_Hold_L3] at r156; try dsimp only at r156
           refine .go 5 ?_
           refine .cond_dec rfl (fun c => absurd c (drop_nil g155)) (fun _ => ?_)
           refine .exit rfl (.pull 6 rfl [_, _, _, _, _, _, _] rfl (.pull 1 rfl [_, _, _, _, _, _, _] rfl (.pull 6 rfl [_, _, _, _, _, _, _] rfl (.pull 6 rfl [_, _, _, _, _, _, _] rfl (.pull 6 rfl [_, _, _, _, _, _, _] rfl (.pull 6 rfl [_, _, _, _, _, _, _] rfl (.pull 6 rfl [_, _, _, _, _, _, _] rfl ?_)))))))
           exact (hb146 _ ⟨v150, a151, k152, cs153, v86, v87, v88, v89, v90, v91, v92, rfl, o154, r156⟩).ar
          | cons x157 xs158 =>
           have r159 : coded_Hold_B3 (coded_Hold_J2 (coded_Hold_L4 coded_Hold_J1 (List.drop (i71 + 1) u34)) v79) v86 v87 v88 v89 v90 v91 v92 (coded_Hold_L3 (coded_Hold_J2 (coded_Hold_L4 coded_Hold_J1 (List.drop (i71 + 1) u34)) v79) v86 v87 v88 v89 v90 v91 v92 xs158 (i148 + 1)) x157 i148 v150 = some r := r156; clear r156; unfold coded_Hold_B3 at r159; try dsimp only at r159
           refine .go 5 ?_
           refine .cond_dec rfl (fun _ => ?_) (fun c => absurd (drop_lt g155) c)
           refine .go 2 ?_
           refine .block (.go 3 ?_)
           obtain ⟨c160, p161, h162⟩ := SlR.get (SlR.mono e102 s113) (drop_idx g155)
           obtain ⟨a163, k164, rfl, s165⟩ := h162
           refine .q .ro (.idxR (SlR.mono e102 s113) rfl rfl (drop_idx g155) sl51 ty22.sz) rfl (.q .ro (.load_rp p161 mcs rfl ty22 rfl) rfl (.go 3 ?_))
           refine .drawL (.q 0 (.q 1 (.q 2 (.q 3 (.q 4 (.q 6 (.e 5 1 (.e 7 2 .nil)))))))) [_, _, _, _, _, _, _] (by kernel_rfl) (by kernel_rfl) (pick_mem [0, 1, 2, 3, 4, 5, 6] rfl) (.go 6 ?_)
           obtain ⟨u166, hu166, r167⟩ := bind_some r159
           refine .cVd [_, _, _] Tryz.call78 (residue_Field_Power_c mcs  hu166) ?_
           refine .clsL (HpLe.refl _) (pick_mem [0, 1, 2, 3, 4, 5, 6] rfl) ?_
           refine .toV 0 rfl (fun vb168 po169 va170 vb171 => ?_)
           obtain ⟨u172, hu172, r173⟩ := bind_some r167
           refine .callS (b1 := []) (b2 := [_, _, _, _, _, _, _]) (s1 := [_]) [_, _, _, _] [] .d2 rfl rfl Tryz.call67 rfl rfl (residue_Field_AddTimes_c mcs va170 o154 s165 hu172) rfl (fun v174 bo so h175 => ?_)
           obtain ⟨cs176, rfl, rfl, rfl, o177, hl178⟩ := h175
           refine .gn 0 ?_
           refine .ofV 0 rfl vb171 hl178 o177 rfl (.reval 19 hl178 rfl (.reval 77 hl178 rfl (.go 6 ?_)))
           exact (hb147 _ _ ⟨(i148 + 1), xs158, u172, a151, k152, cs176, rfl, rfl, o177, (drop_succ g155), r173⟩ (Nat.lt_succ_self _)).ax ⟨rfl, (congrArg (fun z => some (Value.int .i64 z)) (idx_wrap (SlR.len (SlR.mono e102 s113)) g155)), rfl, rfl, rfl, rfl, rfl, trivial⟩
        ·intro q179 y hI hb180
         obtain ⟨v79, a80, k84, cs85, v86, v87, v88, v89, v90, v91, v92, G93⟩ := y
         obtain ⟨o94, r95⟩ := hI
         try dsimp only at o94 r95
         refine .union (Fin := Fs) (bd_cons (Bd.trans (hb180 _ mcs) B39) (bd_cons B39 bd_fin)) (fun G181 e182 B183 => ?_)
         have e184 : HpLe G37 G181 := ext_le e182 (List.mem_cons_of_mem _ mcs)
         have e185 : HpLe G93 G181 := ext_le e182 mcs
         replace o94 := o94 G181 e184 e185
         refine .less (G181 :: Fs) (fun F hF => by rcases List.mem_cons.1 hF with rfl | hF; exact mcs; exact List.mem_cons_of_mem _ (List.mem_cons_of_mem _ (List.mem_cons_of_mem _ hF))) (.gn 0 ?_)
         refine .pullS 1 rfl [_, _] rfl ?_
         refine .mkmerge 6 rfl [_, _, _, _, _, _] rfl (fun mk186 => ?_)
         rw [List.drop_length] at r95; rw [coded_Hold_L4] at r95; try dsimp only at r95
         refine .go 1 ?_
         exact .arr (hb66 (G181, mk186, v79, a80, k84, cs85, v86, v87, v88, v89, v90, v91, v92) ⟨e184, B183, o94, r95⟩) ⟨rfl, trivial⟩
      ·intro hb187
       refine .block ?_
       refine .loopD (β := Nat × List (List Int)) (fun y => mks mk0.1) (fun y => [(48, .int .i64 (y.1 : Int))]) [(3, _), (6, _), (7, _), (9, _), (13, _), (46, _), (47, _)] (fun y => []) (fun y => []) [_, _, _, _, _] (fun y => []) [_] (fun y => List.drop y.1 x3 = y.2 ∧ coded_Hold_L6 (coded_Hold_J5 x3) x0_0 x4 x2 x1_0 x1_1 x1_2 y.2  = some r) (fun y => y.2.length) (0, x3) ⟨rfl, r32⟩ rfl ⟨rfl, rfl, rfl, rfl, rfl, rfl, rfl, rfl, trivial⟩ rfl rfl rfl (fun y hI hb188 => ?_)
       obtain ⟨i189, w190⟩ := y
       obtain ⟨g191, r192⟩ := hI
       try dsimp only at g191 r192
       refine .gn 0 ?_
       cases w190 with
       | nil =>
        rw [coded_Hold_L6] at r192; try dsimp only at r192
        refine .go 5 ?_
        refine .cond_dec rfl (fun c => absurd c (drop_nil g191)) (fun _ => ?_)
        refine .exit rfl ?_
        exact .arr (hb187 (x0_0, x4, x2, x1_0, x1_1, x1_2, x0_0) r192) ⟨rfl, rfl, rfl, rfl, rfl, trivial⟩
       | cons x193 xs194 =>
        have r195 : coded_Hold_B6 (coded_Hold_J5 x3) x0_0 x4 x2 x1_0 x1_1 x1_2 (coded_Hold_L6 (coded_Hold_J5 x3) x0_0 x4 x2 x1_0 x1_1 x1_2 xs194) x193  = some r := r192; clear r192; unfold coded_Hold_B6 at r195; try dsimp only at r195
        refine .go 5 ?_
        refine .cond_dec rfl (fun _ => ?_) (fun c => absurd (drop_lt g191) c)
        refine .go 2 ?_
        refine .block (.go 2 ?_)
        obtain ⟨c196, p197, h198⟩ := SlR.get s3 (drop_idx g191)
        obtain ⟨a199, k200, rfl, s201⟩ := h198
        refine .q .ro (.idxR s3 rfl rfl (drop_idx g191) sl51 ty22.sz) rfl (.q .ro (.load_rp p197 mcs rfl ty22 rfl) rfl (.go 10 ?_))
        refine .cH r195 (fun c202 r203 => ?_) (fun c202 r204 => ?_)
        ·refine .go 5 ?_
         refine .own_nil 22 1 ?_
         cases r203
         refine .drop 5 0 [] _ rfl rfl (.pullS 1 rfl [_, _] rfl ?_)
         refine .out (.inr ⟨_, rfl⟩) rfl (Cov.unmarkAll _ _ ?_)
         refine .outW [.tmp 10, .tmp 11] [_, _] Tryz.func29 Tryz.results29 ⟨RV.tmp rfl, RV.tmp rfl, trivial⟩ mcm mcs B0 (by subst hS0; simp [blks]) (fun G' hg => ⟨none, 0, [], rfl, rfl, rfl, (OL.mono hg (OL.nil (Rp' := (Rep.sl ri))))⟩)
        ·refine .go 5 ?_
         obtain ⟨u205, hu205, r206⟩ := bind_some r204
         refine .cV [_, _] Tryz.call73 (residue_Field_All_c mcs s201 hu205) ?_
         refine .go 2 ?_
         refine .cB r206 (fun c207 r208 => ?_) (fun c207 r209 => ?_)
         ·refine .go 5 ?_
          refine .own_nil 22 1 ?_
          cases r208
          refine .drop 5 0 [] _ rfl rfl (.pullS 1 rfl [_, _] rfl ?_)
          refine .out (.inr ⟨_, rfl⟩) rfl (Cov.unmarkAll _ _ ?_)
          refine .outW [.tmp 10, .tmp 11] [_, _] Tryz.func29 Tryz.results29 ⟨RV.tmp rfl, RV.tmp rfl, trivial⟩ mcm mcs B0 (by subst hS0; simp [blks]) (fun G' hg => ⟨none, 0, [], rfl, rfl, rfl, (OL.mono hg (OL.nil (Rp' := (Rep.sl ri))))⟩)
         ·refine .go 6 ?_
          exact .arr (hb188 ((i189 + 1), xs194) ⟨(drop_succ g191), r209⟩ (Nat.lt_succ_self _)) ⟨(congrArg (fun z => some (Value.int .i64 z)) (idx_wrap (SlR.len s3) g191)), rfl, rfl, rfl, rfl, rfl, rfl, rfl, trivial⟩
    ·intro hb26
     refine .split_b 39 rfl (fun c25 => ?_) (fun c25 => ?_)
     ·refine .go 4 ?_
      exact (hb26 _ rfl).ax ⟨dor_t c25, rfl, rfl, rfl, rfl, rfl, trivial⟩
     ·refine .go 7 ?_
      exact (hb26 _ rfl).ax ⟨dor_f (bne_of c25), rfl, rfl, rfl, rfl, rfl, trivial⟩
  ·intro hb14
   refine .split 30 rfl (fun c13 => ?_) (fun c13 => ?_)
   ·refine .go 5 ?_
    exact (hb14 _ rfl).ax ⟨dor_t c13, rfl, rfl, rfl, rfl, rfl, trivial⟩
   ·refine .go 9 ?_
    exact (hb14 _ rfl).ax ⟨dor_f c13, rfl, rfl, rfl, rfl, rfl, trivial⟩
theorem coded_lowest_c {x0 : List (List Int)} {x1 : Int} {r : (List (List Int))} (hG : G ∈ Fs) (s0 : SlR (Rep.sl ri) G a0 k0 x0) (h : coded_lowest x0 x1 = some r) : RetW Tryz.prog 87 #[.slice a0 x0.length k0, .int .i64 x1] Fs [] [] (fun v bo so G => ∃ (oa0 : Option Addr) (ok0 : Nat) (oc0 : List Value), v = .slice oa0 r.length ok0 ∧ bo = [] ∧ so = [.s (.slice oa0 r.length ok0) 22 1 r.length oc0] ∧ OL (Rep.sl ri) G oc0 r) := by
 unfold coded_lowest at h
 try dsimp only at h
 refine RetW.st [(0, _), (1, _)] Tryz.func87 Tryz.ntmps87 hG fun w0 S0 hS0 B0 => ?_
 refine .go 14 ?_
 refine .block (.own_nil 22 1 ?_)
 refine .lp (fun y m => ∃ (Z0 : Nat) (Z1 : _) (Z2 : List (List Int)) (Z3 : _) (Z4 : Nat) (Z5 Z6 : _), y = ⟨[(5, .slice Z3 Z2.length Z4), (11, .int .i64 Z6)], [Z1], [], [.s (.slice Z3 Z2.length Z4) 22 1 Z2.length Z5]⟩ ∧ Z0 = m ∧ HpLe G Z1 ∧ Bd w0 S0 Fs Z1 ∧ OL (Rep.sl ri) Z1 Z5 Z2 ∧ coded_lowest_L3 x0 x1 Z0 Z2 Z6 = some r) [(0, _), (10, _)] [] [] ⟨big, G, ([] : List (List Int)), none, 0, [], 0, rfl, rfl, (HpLe.refl _), B0, (OL.nil (Rp' := (Rep.sl ri))), h⟩ (fun y m hI hb10 => ?_)
 obtain ⟨n11, G12, v13, a14, k15, cs16, v17, rfl, rfl, e18, B19, o20, r21⟩ := hI
 refine .gn 0 ?_
 obtain ⟨m23, rfl⟩ : ∃ m, n11 = m + 1 := by cases n11 with | zero => exact absurd (show (none : Option _) = some _ from r21) (by simp) | succ m => exact ⟨m, rfl⟩
 have r24 : coded_lowest_B3 x0 x1 (coded_lowest_L3 x0 x1 m23) v13 v17 = some r := r21; clear r21; unfold coded_lowest_B3 at r24; try dsimp only at r24
 refine .go 5 ?_
 refine .cH r24 (fun c25 r26 => ?_) (fun c25 r27 => ?_)
 ·refine .go 2 ?_
  refine .block (.go 16 ?_)
  refine .kB (fun y => ∃ (Z0 : List Int) (Z1 : _) (Z2 : Nat) (Z3 : _), y = ⟨[(7, .slice Z1 Z0.length Z2)], G12 :: Fs, [], [.s (.slice Z1 Z0.length Z2) 3 1 Z0.length Z3]⟩ ∧ OL ri G12 Z3 Z0 ∧ (coded_lowest_J1 (coded_lowest_L3 x0 x1 m23) v17 v13) Z0 = some r) [(5, _), (11, _), (0, _), (10, _)] [] [] [_] [0] ?_ ?_
  ·rintro _ ⟨v28, a29, k30, cs31, rfl, o32, r33⟩
   refine .gn 0 ?_
   unfold coded_lowest_J1 at r33
   try dsimp only at r33
   refine .go 3 ?_
   refine .freezeR 0 rfl rfl o32 [_] rfl B19 (fun G34 e35 B36 s37 => ?_)
   refine .lit [_] [(0, _)] .ro sl51 ty22 rfl rfl rfl rfl rfl rfl (fun b38 hb38 => ?_)
   have o39 : OL (Rep.sl ri) G34 [.slice a29 v28.length k30] ([v28] : List (List Int)) := ((OL.cons rfl (Rep.slI s37) (OL.nil (Rp' := (Rep.sl ri)))) :)
   refine .reval 29 (n' := ([v28] : List (List Int)).length) rfl rfl ?_
   obtain ⟨u40, hu40, r41⟩ := bind_some r33
   refine .appO (Q := (Rep.sl ri)) 0 .ro sl51 ty22 rfl rfl rfl rfl rfl rfl (OL.mono e35 o20) o39 rfl rfl rfl B36 hu40 rfl (fun a42 k43 cs44 o45 => ?_)
   refine .go 7 ?_
   exact (hb10 _ _ ⟨m23, G34, u40, a42, k43, cs44, (w64 (v17 + 1)), rfl, rfl, (HpLe.trans e18 e35), B36, o45, r41⟩ (Nat.lt_succ_self _)).ar
  ·intro hb46
   refine .block (.own_nil 3 1 ?_)
   refine .lp (fun y m => ∃ (Z0 : Nat) (Z1 : List (List Int)) (Z2 : List Int) (Z3 : _) (Z4 : Nat) (Z5 : _), y = ⟨[(7, .slice Z3 Z2.length Z4), (16, .int .i64 (Z0 : Int))], [], [], [.s (.slice Z3 Z2.length Z4) 3 1 Z2.length Z5]⟩ ∧ Z1.length = m ∧ OL ri G12 Z5 Z2 ∧ List.drop Z0 x0 = Z1 ∧ coded_lowest_L2 (coded_lowest_J1 (coded_lowest_L3 x0 x1 m23) v17 v13) v17 Z1 Z2 = some r) [(5, _), (11, _), (0, _), (10, _), (6, _), (14, _), (15, _)] [] [_] ⟨0, x0, ([] : List Int), none, 0, [], rfl, rfl, (OL.nil (Rp' := ri)), rfl, r26⟩ (fun y m hI hb47 => ?_)
   obtain ⟨i48, w49, v50, a52, k53, cs54, rfl, rfl, o55, g56, r57⟩ := hI
   refine .gn 0 ?_
   cases w49 with
   | nil =>
    rw [coded_lowest_L2] at r57; try dsimp only at r57
    refine .go 5 ?_
    refine .cond_dec rfl (fun c => absurd c (drop_nil g56)) (fun _ => ?_)
    refine .exit rfl ?_
    exact (hb46 _ ⟨v50, a52, k53, cs54, rfl, o55, r57⟩).ar
   | cons x58 xs59 =>
    have r60 : coded_lowest_B2 (coded_lowest_J1 (coded_lowest_L3 x0 x1 m23) v17 v13) v17 (coded_lowest_L2 (coded_lowest_J1 (coded_lowest_L3 x0 x1 m23) v17 v13) v17 xs59) x58 v50 = some r := r57; clear r57; unfold coded_lowest_B2 at r60; try dsimp only at r60
    refine .go 5 ?_
    refine .cond_dec rfl (fun _ => ?_) (fun c => absurd (drop_lt g56) c)
    refine .go 2 ?_
    refine .block (.go 2 ?_)
    obtain ⟨c61, p62, h63⟩ := SlR.get (SlR.mono e18 s0) (drop_idx g56)
    obtain ⟨a65, k66, rfl, s67⟩ := h63
    refine .q .ro (.idxR (SlR.mono e18 s0) rfl rfl (drop_idx g56) sl51 ty22.sz) rfl (.q .ro (.load_rp p62 mcs rfl ty22 rfl) rfl (.go 6 ?_))
    obtain ⟨u68, hu68, r69⟩ := bind_some r60
    refine .cV [_, _] Tryz.call114 (columns_Coefficient_c mcs s67 hu68) ?_
    refine .lit [_] [(0, _)] .ro sl22 ty3 rfl rfl rfl rfl rfl rfl (fun b70 hb70 => ?_)
    have o71 : OL ri G12 [.int .i64 u68] ([u68] : List Int) := ((OL.cons rfl (Rep.intI .i64 u68) (OL.nil (Rp' := ri))) :)
    refine .reval 24 (n' := ([u68] : List Int).length) rfl rfl ?_
    obtain ⟨u72, hu72, r73⟩ := bind_some r69
    refine .appO (Q := ri) 0 .ro sl22 ty3 rfl rfl rfl rfl rfl rfl o55 o71 rfl rfl rfl B19 hu72 rfl (fun a74 k75 cs76 o77 => ?_)
    refine .go 7 ?_
    exact (hb47 _ _ ⟨(i48 + 1), xs59, u72, a74, k75, cs76, rfl, rfl, o77, (drop_succ g56), r73⟩ (Nat.lt_succ_self _)).ax ⟨rfl, (congrArg (fun z => some (Value.int .i64 z)) (idx_wrap (SlR.len (SlR.mono e18 s0)) g56)), rfl, rfl, rfl, rfl, rfl, rfl, rfl, trivial⟩
 ·refine .exit rfl ?_
  refine .go 5 ?_
  cases r27
  refine .rW 0 [.tmp 4] [_] Tryz.func87 Tryz.results87 ⟨RV.tmp rfl, trivial⟩ B19 hS0 (fun G' hg => ⟨a14, k15, cs16, rfl, rfl, rfl, (OL.mono hg o20)⟩)
theorem coded_Decode_c {x0_0 : Int} {x1_0 : Int} {x1_1 : Int} {x1_2 : Int} {x2 : Int} {x3 : List (Bool × (List Int))} {r : ((List (List Int)) × (List Int) × Int)} (hG : G ∈ Fs) (hg0 : Rp G (.pointer (some ⟨0, 0, none⟩)) [ifc233 (some 12)]) (s3 : SlR (Rep.pair Rep.bool (Rep.sl ri)) G a3 k3 x3) (h : coded_Decode x0_0 (x1_0, x1_1, x1_2) x2 x3 = some r) : RetW Tryz.prog 30 #[.agg #[.int .i64 x0_0], .agg #[.int .i64 x1_0, .int .i64 x1_1, .int .i64 x1_2], .int .i64 x2, .slice a3 x3.length k3] Fs [] [] (fun v bo so G => ∃ (oa0 : Option Addr) (ok0 : Nat) (oc0 : List Value), ∃ (oa1 : Option Addr) (ok1 : Nat) (oc1 : List Value), v = .tuple #[.slice oa0 r.1.length ok0, .slice oa1 r.2.1.length ok1, .int .i64 r.2.2] ∧ bo = [] ∧ so = [.s (.slice oa0 r.1.length ok0) 22 1 r.1.length oc0, .s (.slice oa1 r.2.1.length ok1) 3 1 r.2.1.length oc1] ∧ OL (Rep.sl ri) G oc0 r.1 ∧ OL ri G oc1 r.2.1) := by
 unfold coded_Decode at h
 try dsimp only at h
 refine RetW.st [(0, _), (1, _), (2, _), (3, _)] Tryz.func30 Tryz.ntmps30 hG fun w0 S0 hS0 B0 => ?_
 refine .go 2 ?_
 refine .box [_] .ro rfl rfl rfl (fun b1 hb1 => ?_)
 refine .box [_, _, _] .ro rfl rfl rfl (fun b2 hb2 => ?_)
 refine .go 7 ?_
 refine .q .ro (.load_own_a 1 [_] rfl rfl ty45 rfl) rfl (.q .ro (.load_own_a 0 [_, _, _] rfl rfl ty47 rfl) rfl ?_)
 obtain ⟨u3, hu3, r4⟩ := bind_some h
 refine .cV [_, _] Tryz.call81 (coded_Check_c mcs  hu3) ?_
 refine .go 7 ?_
 refine .cH r4 (fun c7 r8 => ?_) (fun c7 r11 => ?_)
 ·refine .go 7 ?_
  refine .own_nil 22 1 (.own_nil 3 1 ?_)
  cases r8
  refine .drop 2 0 [] _ rfl rfl (.pullS 1 rfl [_, _] rfl ?_)
  refine .rW 0 [.tmp 8, .tmp 9, .tmp 10] [_, _, _] Tryz.func30 Tryz.results30 ⟨RV.tmp rfl, RV.tmp rfl, RV.tmp rfl, trivial⟩ B0 hS0 (fun G' hg => ⟨none, 0, [], none, 0, [], rfl, rfl, rfl, (OL.mono hg (OL.nil (Rp' := (Rep.sl ri)))), (OL.mono hg (OL.nil (Rp' := ri)))⟩)
 ·refine .go 15 ?_
  refine .q .ro (.load_own_a 1 [_] rfl rfl ty45 rfl) rfl (.go 5 ?_)
  obtain ⟨u12, hu12, r13⟩ := bind_some r11
  refine .cV [_, _, _, _, _] Tryz.call84 (columns_Check_c mcs s3 hu12) ?_
  refine .go 7 ?_
  refine .cH r13 (fun c16 r17 => ?_) (fun c16 r20 => ?_)
  ·refine .go 7 ?_
   refine .own_nil 22 1 (.own_nil 3 1 ?_)
   cases r17
   refine .drop 2 0 [] _ rfl rfl (.pullS 1 rfl [_, _] rfl ?_)
   refine .rW 0 [.tmp 8, .tmp 9, .tmp 10] [_, _, _] Tryz.func30 Tryz.results30 ⟨RV.tmp rfl, RV.tmp rfl, RV.tmp rfl, trivial⟩ B0 hS0 (fun G' hg => ⟨none, 0, [], none, 0, [], rfl, rfl, rfl, (OL.mono hg (OL.nil (Rp' := (Rep.sl ri)))), (OL.mono hg (OL.nil (Rp' := ri)))⟩)
  ·refine .go 3 ?_
   refine .q .ro (.load_own_a 1 [_] rfl rfl ty45 rfl) rfl (.go 2 ?_)
   refine .q .ro (.build [_, _, _] [(0, _), (1, _), (2, _)] ty162 pl162 rfl rfl) rfl ?_
   refine .alloc .ro ty162 rfl (fun b21 hb21 => ?_)
   refine .store 0 [_, _, _] [_, _, _] .ro rfl rfl rfl ty162 rfl rfl rfl rfl (.go 3 ?_)
   refine .q .ro (.load_own_a 0 [_, _, _] rfl rfl ty162 rfl) rfl (.go 1 ?_)
   obtain ⟨u22, hu22, r23⟩ := bind_some r20
   refine .cW [_, _, _] Tryz.call85 (columns_Columns_All_c mcs hg0 s3 hu22) B0 (fun v25 bo so G26 e27 B28 h24 => ?_)
   obtain ⟨a31, k32, cs33, a36, k37, cs38, rfl, rfl, rfl, o34, o39⟩ := h24
   refine .gn 14 ?_
   refine .cH r23 (fun c40 r41 => ?_) (fun c40 r44 => ?_)
   ·refine .go 7 ?_
    refine .own_nil 22 1 (.own_nil 3 1 ?_)
    cases r41
    refine .drop 3 0 [] _ rfl rfl (.pullS 1 rfl [_, _, _, _] rfl (.pullS 3 rfl [_, _, _, _] rfl (.pullS 3 rfl [_, _, _, _] rfl (.drop 0 2 _ [_, _] rfl rfl ?_))))
    refine .rW 0 [.tmp 8, .tmp 9, .tmp 10] [_, _, _] Tryz.func30 Tryz.results30 ⟨RV.tmp rfl, RV.tmp rfl, RV.tmp rfl, trivial⟩ B28 hS0 (fun G' hg => ⟨none, 0, [], none, 0, [], rfl, rfl, rfl, (OL.mono hg (OL.nil (Rp' := (Rep.sl ri)))), (OL.mono hg (OL.nil (Rp' := ri)))⟩)
   ·refine .go 6 ?_
    refine .freezeR 0 rfl rfl o34 [_] rfl B28 (fun G45 e46 B47 s48 => ?_)
    obtain ⟨u50, hu50, r51⟩ := bind_some r44
    refine .cW [_, _] Tryz.call87 (coded_lowest_c mcs s48 hu50) B47 (fun v53 bo so G54 e55 B56 h52 => ?_)
    obtain ⟨a59, k60, cs61, rfl, rfl, rfl, o62⟩ := h52
    refine .gn 5 ?_
    cases r51
    refine .drop 3 0 [] _ rfl rfl ?_
    refine .rW 0 [.tmp 8, .tmp 9, .tmp 10] [_, _, _] Tryz.func30 Tryz.results30 ⟨RV.tmp rfl, RV.tmp rfl, RV.tmp rfl, trivial⟩ B56 hS0 (fun G' hg => ⟨a59, k60, cs61, a36, k37, cs38, rfl, rfl, rfl, (OL.mono hg o62), (OL.mono hg (OL.mono (HpLe.trans e46 e55) o39))⟩)
end Go.Proofs.YtfcicopgdahmcaaGreatDoor
end

section
set_option maxHeartbeats 4000000
set_option maxRecDepth 100000
namespace Go.Proofs.YtfcicopgdahmcaaGreatDoor
open Go.RowKit
set_option linter.unusedSimpArgs false
set_option linter.unusedVariables false
set_option synthInstance.maxSize 2000
set_option synthInstance.maxHeartbeats 400000
variable {Fs : List Hp} {G : Hp} {a0 : Option Addr} {k0 : Nat}
theorem top_TopSchemes_c {x0 : List Int} {x1 : Int} {r : Bool} (hG : G ∈ Fs) (hg0 : Rp G (.pointer (some ⟨0, 0, none⟩)) [ifc233 (some 12)]) (s0 : SlR ri G a0 k0 x0) (h : top_TopSchemes x0 x1 = some r) : RetS Tryz.prog 4 #[.slice a0 x0.length k0, .int .u8 x1] Fs [] [] (rv (.bool r)) := by
 unfold top_TopSchemes at h
 try dsimp only at h
 refine RetS.st [(0, _), (1, _)] Tryz.func4 Tryz.ntmps4 hG fun w0 S0 hS0 B0 => ?_
 refine .go 7 ?_
 obtain ⟨u1, hu1, r2⟩ := bind_some h
 refine .cV [] Tryz.call7 (top_awake_c mcs hg0 hu1) ?_
 refine .go 2 ?_
 refine .cB r2 (fun c5 r6 => ?_) (fun c5 r7 => ?_)
 ·refine .go 4 ?_
  cases r6
  refine .rS [.tmp 4] [_] Tryz.func4 Tryz.results4 ⟨rfl, rfl, rfl⟩
 ·refine .go 5 ?_
  obtain ⟨u8, hu8, r9⟩ := bind_some r7
  refine .cV [_] Tryz.call8 (make_Few_c mcs s0 hu8) ?_
  refine .go 2 ?_
  refine .cB r9 (fun c12 r13 => ?_) (fun c12 r14 => ?_)
  ·refine .go 4 ?_
   cases r13
   refine .rS [.tmp 4] [_] Tryz.func4 Tryz.results4 ⟨rfl, rfl, rfl⟩
  ·refine .go 4 ?_
   obtain ⟨u15, hu15, r16⟩ := bind_some r14
   refine .cS [_] Tryz.call9 (make_New_c mcs s0 hu15) (fun v18 bo so h17 => ?_)
   obtain ⟨a20, k21, b19, rfl, rfl, rfl, s22⟩ := h17
   refine .gn 5 ?_
   obtain ⟨u23, hu23, r24⟩ := bind_some r16
   refine .callW (b1 := [_]) (b2 := []) (s1 := []) [_] [] .ro rfl rfl Tryz.call17 rfl rfl (make_Storage_c mcs s22 hu23) rfl B0 (fun v26 bo so G27 e28 B29 h25 => ?_)
   obtain ⟨a31, k32, rfl, rfl, rfl, s33⟩ := h25
   refine .gn 3 ?_
   refine .alloc .ro ty45 rfl (fun b34 hb34 => ?_)
   refine .alloc .ro ty47 rfl (fun b35 hb35 => ?_)
   refine .store 1 [_] [_, _, _] .ro rfl rfl rfl ty45 rfl rfl rfl rfl (.store 0 [_, _, _] [_, _, _] .ro rfl rfl rfl ty47 rfl rfl rfl rfl (.go 4 ?_))
   obtain ⟨u36, hu36, r37⟩ := bind_some r24
   refine .pull 2 rfl [_, _, _] rfl ?_
   refine .callS (b1 := [_]) (b2 := [_, _]) (s1 := []) [_, _] [] .ro rfl rfl Tryz.call18 rfl rfl (make_Deck_Next_c mcs s33 hu36) rfl (fun v39 bo so h38 => ?_)
   obtain ⟨a40, k41, rfl, rfl, rfl, s42⟩ := h38
   refine .gn 2 ?_
   obtain ⟨u43, hu43, r44⟩ := bind_some r37
   refine .callS (b1 := [_]) (b2 := [_, _]) (s1 := []) [_, _] [] .ro rfl rfl Tryz.call18 rfl rfl (make_Deck_Next_c mcs s42 hu43) rfl (fun v46 bo so h45 => ?_)
   obtain ⟨a47, k48, rfl, rfl, rfl, s49⟩ := h45
   refine .gn 7 ?_
   refine .q .ro (.load_own_a 2 [_] rfl rfl ty45 rfl) rfl (.go 2 ?_)
   obtain ⟨u50, hu50, r51⟩ := bind_some r44
   refine .callW (b1 := [_]) (b2 := [_, _]) (s1 := []) [_, _, _, _] [] .ro rfl rfl Tryz.call19 rfl rfl (make_Rows_c mcs s49 hu50) rfl B29 (fun v53 bo so G54 e55 B56 h52 => ?_)
   obtain ⟨a63, k64, a59, k60, cs61, rfl, rfl, rfl, s65, o62⟩ := h52
   refine .gn 5 ?_
   refine .q .ro (.convw Tryz.underlying5 Tryz.underlying3 rfl) rfl (.go 1 ?_)
   obtain ⟨u66, hu66, r67⟩ := bind_some r51
   refine .q .ro (.remt rfl rfl (nz_some hu66)) rfl (.go 6 ?_)
   obtain ⟨u68, hu68, r69⟩ := bind_some r67
   obtain ⟨c70, p71, h72⟩ := OL.get o62 hu68
   obtain ⟨a73, k74, rfl, s75⟩ := h72
   refine .q .ro (.idxO 0 rfl rfl rfl hu68 sl51 ty22.sz) rfl (.q .ro (.loadO 0 0 rfl hu68 p71 rfl (.inl ⟨rfl, rfl⟩) ty22 rfl) rfl (.go 4 ?_))
   refine .q .ro (.load_own_a 2 [_] rfl rfl ty45 rfl) rfl (.go 1 ?_)
   obtain ⟨u76, hu76, r77⟩ := bind_some r69
   refine .cS [_, _, _] Tryz.call20 (parity_Limits_c mcs  hu76) (fun v79 bo so h78 => ?_)
   obtain ⟨a81, k82, cs83, rfl, rfl, rfl, o84⟩ := h78
   refine .gn 7 ?_
   refine .kG (fun y => ∃ (Z0 : _) (Z1 : List (List Int)) (Z2 : _) (Z3 : Nat) (Z4 Z5 : _) (Z6 : List Int) (Z7 : _) (Z8 : Nat) (Z9 : _), y = ⟨[(15, .slice Z2 Z1.length Z3), (17, .int .i64 Z5)], Z0 :: Fs, [(b19, .cells #[.slice Z7 Z6.length Z8, .int .i64 Z9] 121 (0, 0))], [.s (.slice Z2 Z1.length Z3) 22 1 Z1.length Z4]⟩ ∧ HpLe G54 Z0 ∧ Bd w0 S0 Fs Z0 ∧ OL (Rep.sl ri) Z0 Z4 Z1 ∧ SlR ri Z0 Z7 Z8 Z6 ∧ (top_TopSchemes_J6 (w64 (1 + u36.1)) (w64 (1 + u43.1)) (Int.tmod (w64 x1) (w64 (1 + u36.1))) u68 u76.2 u23.2.1.1 u23.2.1.2.1 u23.2.1.2.2 u23.1 u50.1) Z1 Z5 Z6 Z9 = some r) [(5, _), (6, _), (7, _), (8, _), (9, _), (10, _), (11, _), (12, _), (14, _)] [_, _] [1, 2] [_] [1] ?_ ?_
   ·rintro _ ⟨G10, v11, a57, k58, cs80, v85, v86, a87, k88, v89, rfl, e90, B91, o92, s93, r94⟩
    refine .gn 0 ?_
    unfold top_TopSchemes_J6 at r94
    try dsimp only at r94
    refine .go 6 ?_
    refine .kR (fun y => y = ⟨[(94, .bool (decide ((u76.2 ≠ 0) ∨ (v85 ≠ 0))))], G10 :: Fs, [], []⟩) [(15, _), (5, _), (6, _), (7, _), (8, _), (9, _), (10, _), (11, _), (12, _)] [_, _, _] [0, 1, 2] [_, _] [0, 1] 3 ?_ ?_
    ·rintro _ rfl
     refine .gn 1 ?_
     refine .cH r94 (fun c95 r96 => ?_) (fun c95 r97 => ?_)
     ·refine .go 4 ?_
      cases r96
      refine .drop 3 0 [] _ rfl rfl (.drop 0 2 _ [] rfl rfl ?_)
      refine .rS [.tmp 4] [_] Tryz.func4 Tryz.results4 ⟨rfl, rfl, rfl⟩
     ·refine .go 12 ?_
      refine .kB (fun y => ∃ (Z0 : _) (Z1 : List (List Int)) (Z2 : _) (Z3 : Nat) (Z4 : List (Bool × (List Int))) (Z5 : _) (Z6 : Nat) (Z7 : _), y = ⟨[(10, .slice Z2 Z1.length Z3), (18, .slice Z5 Z4.length Z6)], Z0 :: Fs, [], [.s (.slice Z5 Z4.length Z6) 63 2 Z4.length Z7]⟩ ∧ HpLe G10 Z0 ∧ Bd w0 S0 Fs Z0 ∧ SlR (Rep.sl ri) Z0 Z2 Z3 Z1 ∧ OL (Rep.pair Rep.bool (Rep.sl ri)) Z0 Z7 Z4 ∧ (top_TopSchemes_J4 (w64 (1 + u36.1)) (w64 (1 + u43.1)) (Int.tmod (w64 x1) (w64 (1 + u36.1))) u68 v86 v89 u23.2.1.1 u23.2.1.2.1 u23.2.1.2.2 u23.1) Z1 Z4 = some r) [(5, _), (6, _), (7, _), (8, _), (9, _), (11, _), (12, _)] [_, _, _] [0, 1, 2] [_] [0] ?_ ?_
      ·rintro _ ⟨G98, v99, a100, k101, v102, a103, k104, cs105, rfl, e106, B107, s108, o109, r110⟩
       refine .gn 0 ?_
       unfold top_TopSchemes_J4 at r110
       try dsimp only at r110
       refine .go 2 ?_
       refine .q .ro (.load_own_a 2 [_] rfl rfl ty45 rfl) rfl (.go 2 ?_)
       refine .freezeR 0 rfl rfl o109 [_] rfl B107 (fun G111 e112 B113 s114 => ?_)
       obtain ⟨u115, hu115, r116⟩ := bind_some r110
       refine .cW [_, _, _] Tryz.call24 (parity_Decode_c mcs s114 hu115) B113 (fun v117 bo so G118 e119 B120 h121 => ?_)
       obtain ⟨a122, k123, a124, k125, rfl, rfl, rfl, s126, s127⟩ := h121
       refine .gn 3 ?_
       refine .alloc .ro ty65 rfl (fun b128 hb128 => ?_)
       refine .store 0 [_, _] [_, _, _, _] .ro rfl rfl rfl ty65 rfl rfl rfl rfl (.go 3 ?_)
       refine .kG (fun y => ∃ (Z0 : Nat) (Z1 Z2 : _) (Z3 : List Int) (Z4 : _) (Z5 : Nat) (Z6 : _), y = ⟨[(25, .pointer (some ⟨Z0, 0, none⟩))], G118 :: Fs, [(Z0, .cells #[.int .i64 Z1, .int .i64 Z2] 69 (0, 0)), (b19, .cells #[.slice Z4 Z3.length Z5, .int .i64 Z6] 121 (0, 0))], []⟩ ∧ SlR ri G118 Z4 Z5 Z3 ∧ (top_TopSchemes_J3 v99 (w64 (1 + u36.1)) (w64 (1 + u43.1)) (Int.tmod (w64 x1) (w64 (1 + u36.1))) u68 u115.2 u115.1.1 u23.2.1.1 u23.2.1.2.1 u23.2.1.2.2 u23.1) Z1 Z2 Z3 Z6 = some r) [(10, _), (5, _), (6, _), (7, _), (8, _), (9, _), (11, _), (12, _), (23, _), (24, _)] [_, _, _] [0, 2, 3] [_] [0] ?_ ?_
       ·rintro _ ⟨b129, v130, v131, v132, a133, k134, v135, rfl, s136, r137⟩
        refine .gn 0 ?_
        unfold top_TopSchemes_J3 at r137
        try dsimp only at r137
        refine .go 3 ?_
        refine .q .ro (.load_own_a 4 [_] rfl rfl ty45 rfl) rfl (.q .ro (.load_own_a 0 [_, _] rfl rfl ty69 rfl) rfl (.go 3 ?_))
        obtain ⟨u138, hu138, r139⟩ := bind_some r137
        refine .pull 1 rfl [_, _, _, _, _] rfl ?_
        refine .callW (b1 := [_]) (b2 := [_, _, _, _]) (s1 := []) [_, _, _, _, _, _, _, _] [] .ro rfl rfl Tryz.call25 rfl rfl (top_read_c mcs (Rp.mono (HpLe.trans (HpLe.trans (HpLe.trans (HpLe.trans (HpLe.trans e28 e55) e90) e106) e112) e119) hg0) s136 (SlR.mono (HpLe.trans e112 e119) s108) hu138) rfl B120 (fun v140 bo so G141 e142 B143 h144 => ?_)
        obtain ⟨a145, k146, a147, k148, a149, k150, a151, k152, rfl, rfl, rfl, s153, s154, s155, s156⟩ := h144
        refine .gn 4 ?_
        refine .alloc .ro ty65 rfl (fun b157 hb157 => ?_)
        refine .store 0 [_, _] [_, _, _, _, _, _] .ro rfl rfl rfl ty65 rfl rfl rfl rfl (.go 5 ?_)
        refine .q .ro (.load_own_a 4 [_, _, _] rfl rfl ty47 rfl) rfl (.go 1 ?_)
        obtain ⟨u158, hu158, r159⟩ := bind_some r139
        refine .cV [_, _] Tryz.call26 (coded_Groups_c mcs  hu158) ?_
        refine .go 8 ?_
        refine .q .ro (.load_own_a 5 [_] rfl rfl ty45 rfl) rfl (.q .ro (.load_own_a 4 [_, _, _] rfl rfl ty47 rfl) rfl (.go 1 ?_))
        obtain ⟨u160, hu160, r161⟩ := bind_some r159
        refine .cS [_, _, _] Tryz.call27 (coded_Limits_c mcs  hu160) (fun v162 bo so h163 => ?_)
        obtain ⟨a164, k165, cs166, rfl, rfl, rfl, o167⟩ := h163
        refine .gn 7 ?_
        refine .freezeR 0 rfl rfl o167 [_] rfl B143 (fun G168 e169 B170 s171 => ?_)
        refine .drawL (.q 0 (.q 1 (.q 2 (.q 3 (.q 4 (.q 5 (.q 6 (.q 7 (.q 8 (.e 9 1 (.e 10 1 (.q 11 (.q 12 (.q 13 (.q 14 (.q 15 (.q 16 .nil))))))))))))))))) [_, _, _, _, _] (by kernel_rfl) (by kernel_rfl) (pick_mem [0, 2, 3, 4, 5] rfl) (.dq (.load_own_a 4 [_] rfl rfl ty45 rfl) rfl (.dq (.load_own_a 3 [_, _, _] rfl rfl ty47 rfl) rfl (.go 4 ?_)))
        obtain ⟨u172, hu172, r173⟩ := bind_some r161
        refine .dq (.quow rfl rfl (nz_some hu172)) rfl (.go 2 ?_)
        obtain ⟨u174, hu174, r175⟩ := bind_some r173
        refine .pull 1 rfl [_, _, _, _, _, _] rfl ?_
        refine .callW (b1 := [_]) (b2 := [_, _, _, _, _]) (s1 := []) [_, _] [] .d1 rfl rfl Tryz.call22 rfl rfl (make_Seed_c mcs (SlR.mono e169 s156) s171 hu174) rfl B170 (fun v176 bo so G177 e178 B179 h180 => ?_)
        obtain ⟨a181, k182, a183, k184, rfl, rfl, rfl, s185, s186⟩ := h180
        refine .gn 0 ?_
        refine .clsL e178 (pick_mem [1, 2, 3, 4, 5] rfl) ?_
        obtain ⟨u187, hu187, r188⟩ := bind_some r175
        refine .callW (b1 := []) (b2 := [_, _, _, _, _, _]) (s1 := []) [_, _, _, _, _] [] .d1 rfl rfl Tryz.call28 rfl rfl (coded_Queries_c mcs s185 hu187) rfl B179 (fun v189 bo so G190 e191 B192 h193 => ?_)
        obtain ⟨a194, k195, a196, k197, rfl, rfl, rfl, s198, s199⟩ := h193
        refine .gn 0 ?_
        refine .clsL (HpLe.trans e178 e191) (pick_mem [1, 2, 3, 4, 5] rfl) (.go 13 ?_)
        refine .kR (fun y => y = ⟨[(177, .bool (decide ((u115.2 ≠ 0) ∨ ((!u138.2.2.1) = true))))], G190 :: Fs, [], []⟩) [(10, _), (6, _), (7, _), (9, _), (11, _), (12, _), (23, _), (26, _), (30, _), (14, _), (15, _), (17, _)] [_, _, _, _, _, _] [0, 1, 2, 3, 4, 5] [_] [0] 3 ?_ ?_
        ·rintro _ rfl
         refine .gn 1 ?_
         refine .kR (fun y => y = ⟨[(181, .bool (decide (((u115.2 ≠ 0) ∨ ((!u138.2.2.1) = true)) ∨ (u158.2 ≠ 0))))], G190 :: Fs, [], []⟩) [(10, _), (6, _), (7, _), (9, _), (11, _), (12, _), (23, _), (26, _), (14, _), (15, _), (17, _)] [_, _, _, _, _, _] [0, 1, 2, 3, 4, 5] [_] [0] 3 ?_ ?_
         ·rintro _ rfl
          refine .gn 1 ?_
          refine .kR (fun y => y = ⟨[(185, .bool (decide ((((u115.2 ≠ 0) ∨ ((!u138.2.2.1) = true)) ∨ (u158.2 ≠ 0)) ∨ (u160.2 ≠ 0))))], G190 :: Fs, [], []⟩) [(10, _), (6, _), (7, _), (9, _), (11, _), (12, _), (23, _), (26, _), (15, _), (17, _)] [_, _, _, _, _, _] [0, 1, 2, 3, 4, 5] [_] [0] 3 ?_ ?_
          ·rintro _ rfl
           refine .gn 1 ?_
           refine .kR (fun y => y = ⟨[(189, .bool (decide (((((u115.2 ≠ 0) ∨ ((!u138.2.2.1) = true)) ∨ (u158.2 ≠ 0)) ∨ (u160.2 ≠ 0)) ∨ (u187.2.2 ≠ 0))))], G190 :: Fs, [], []⟩) [(10, _), (6, _), (7, _), (9, _), (11, _), (12, _), (23, _), (26, _), (15, _)] [_, _, _, _, _, _] [0, 1, 2, 3, 4, 5] [_] [0] 3 ?_ ?_
           ·rintro _ rfl
            refine .gn 1 ?_
            refine .kR (fun y => y = ⟨[(196, .bool (decide ((((((u115.2 ≠ 0) ∨ ((!u138.2.2.1) = true)) ∨ (u158.2 ≠ 0)) ∨ (u160.2 ≠ 0)) ∨ (u187.2.2 ≠ 0)) ∨ ((u187.1.length : Int) ≠ u23.2.1.1))))], G190 :: Fs, [], []⟩) [(10, _), (6, _), (7, _), (9, _), (11, _), (12, _), (23, _), (26, _), (15, _)] [_, _, _, _, _, _] [0, 1, 2, 3, 4, 5] [_] [0] 6 ?_ ?_
            ·rintro _ rfl
             refine .gn 1 ?_
             refine .cH r188 (fun c200 r201 => ?_) (fun c200 r202 => ?_)
             ·refine .go 4 ?_
              cases r201
              refine .drop 6 0 [] _ rfl rfl (.drop 0 1 _ [] rfl rfl ?_)
              refine .rS [.tmp 4] [_] Tryz.func4 Tryz.results4 ⟨rfl, rfl, rfl⟩
             ·refine .go 12 ?_
              refine .kB (fun y => ∃ (Z0 : _) (Z1 : List (Bool × (List Int))) (Z2 : _) (Z3 : Nat) (Z4 : _), y = ⟨[(31, .slice Z2 Z1.length Z3)], Z0 :: Fs, [], [.s (.slice Z2 Z1.length Z3) 63 2 Z1.length Z4]⟩ ∧ HpLe G190 Z0 ∧ Bd w0 S0 Fs Z0 ∧ OL (Rep.pair Rep.bool (Rep.sl ri)) Z0 Z4 Z1 ∧ (top_TopSchemes_J1 (w64 (1 + u43.1)) (Int.tmod (w64 x1) (w64 (1 + u36.1))) u68 u138.1.1 u115.1.1 u23.2.1.1 u23.2.1.2.1 u23.2.1.2.2 u23.1) Z1 = some r) [(6, _), (7, _), (9, _), (11, _), (12, _), (23, _), (26, _)] [_, _, _, _, _, _] [0, 1, 2, 3, 4, 5] [_] [0] ?_ ?_
              ·rintro _ ⟨G203, v204, a205, k206, cs207, rfl, e208, B209, o210, r211⟩
               refine .gn 0 ?_
               unfold top_TopSchemes_J1 at r211
               try dsimp only at r211
               refine .go 2 ?_
               refine .q .ro (.load_own_a 5 [_] rfl rfl ty45 rfl) rfl (.q .ro (.load_own_a 4 [_, _, _] rfl rfl ty47 rfl) rfl (.go 2 ?_))
               refine .freezeR 0 rfl rfl o210 [_] rfl B209 (fun G212 e213 B214 s215 => ?_)
               obtain ⟨u216, hu216, r217⟩ := bind_some r211
               refine .cW [_, _, _, _] Tryz.call30 (coded_Decode_c mcs (Rp.mono (HpLe.trans (HpLe.trans (HpLe.trans (HpLe.trans (HpLe.trans (HpLe.trans (HpLe.trans (HpLe.trans (HpLe.trans (HpLe.trans (HpLe.trans e28 e55) e90) e106) e112) e119) e142) e169) e178) e191) e208) e213) hg0) s215 hu216) B214 (fun v218 bo so G219 e220 B221 h222 => ?_)
               obtain ⟨a223, k224, cs225, a226, k227, cs228, rfl, rfl, rfl, o229, o230⟩ := h222
               refine .gn 13 ?_
               refine .kR (fun y => y = ⟨[(249, .bool (decide ((u216.2.2 = 0) ∧ ((u216.2.1.length : Int) = 0))))], G219 :: Fs, [], []⟩) [(7, _), (11, _), (12, _), (23, _), (26, _), (38, _)] [_, _, _, _, _, _] [0, 1, 2, 3, 4, 5] [_, _, _] [0, 1, 2] 4 ?_ ?_
               ·rintro _ rfl
                refine .gn 1 ?_
                refine .kR (fun y => y = ⟨[(256, .bool (decide (((u216.2.2 = 0) ∧ ((u216.2.1.length : Int) = 0)) ∧ ((u216.1.length : Int) = u23.2.1.2.2))))], G219 :: Fs, [], []⟩) [(7, _), (11, _), (12, _), (23, _), (26, _), (38, _)] [_, _, _, _, _, _] [0, 1, 2, 3, 4, 5] [_, _, _] [0, 1, 2] 6 ?_ ?_
                ·rintro _ rfl
                 refine .gn 1 ?_
                 obtain ⟨u231, h232, r234⟩ := bind_some r217
                 refine .kR (fun y => y = ⟨[(262, .bool u231)], G219 :: Fs, [], []⟩) [(7, _), (11, _), (12, _), (26, _), (38, _)] [_, _, _, _, _, _] [0, 1, 2, 3, 4, 5] [_, _, _] [0, 1, 2] 5 ?_ ?_
                 ·rintro _ rfl
                  refine .gn 1 ?_
                  obtain ⟨u235, h236, r237⟩ := bind_some r234
                  refine .kR (fun y => y = ⟨[(268, .bool u235)], G219 :: Fs, [], []⟩) [(7, _), (11, _), (12, _), (38, _)] [_, _, _, _, _, _] [0, 1, 2, 3, 4, 5] [_, _, _] [0, 1, 2] 5 ?_ ?_
                  ·rintro _ rfl
                   refine .gn 1 ?_
                   obtain ⟨u238, h239, r240⟩ := bind_some r237
                   refine .kR (fun y => y = ⟨[(279, .bool u238)], G219 :: Fs, [], []⟩) [] [_, _, _, _, _, _] [0, 1, 2, 3, 4, 5] [_, _, _] [0, 1, 2] 10 ?_ ?_
                   ·rintro _ rfl
                    refine .gn 2 ?_
                    cases r240
                    refine .drop 6 0 [] _ rfl rfl (.drop 0 3 _ [] rfl rfl ?_)
                    refine .rS [.tmp 4] [_] Tryz.func4 Tryz.results4 ⟨rfl, rfl, rfl⟩
                   ·intro hb241
                    refine .split_b 269 rfl (fun c242 => ?_) (fun c242 => ?_)
                    ·have r243 := ifT h239 c242
                     refine .go 9 ?_
                     obtain ⟨u244, hu244, r245⟩ := bind_some r243
                     refine .q .ro (.remt rfl rfl (nz_some hu244)) rfl (.go 1 ?_)
                     obtain ⟨u246, hu246, r247⟩ := bind_some r245
                     obtain ⟨c248, p249, h250⟩ := OL.get o229 hu246
                     obtain ⟨a251, k252, rfl, s253⟩ := h250
                     refine .q .ro (.idxO 0 rfl rfl rfl hu246 sl51 ty22.sz) rfl (.go 1 ?_)
                     refine .q .ro (.loadO 0 0 rfl hu246 p249 rfl (.inl ⟨rfl, rfl⟩) ty22 rfl) rfl (.go 3 ?_)
                     obtain ⟨u254, hu254, r255⟩ := bind_some r247
                     refine .cV [_, _] Tryz.call31 (ref04_Same_c mcs s253 (SlR.mono (HpLe.trans (HpLe.trans (HpLe.trans (HpLe.trans (HpLe.trans (HpLe.trans (HpLe.trans (HpLe.trans (HpLe.trans (HpLe.trans e90 e106) e112) e119) e142) e169) e178) e191) e208) e213) e220) s75) hu254) ?_
                     refine .go 1 ?_
                     exact (hb241 _ rfl).ax ⟨sval r255, trivial⟩
                    ·have r256 := ifBF h239 c242
                     refine .go 10 ?_
                     exact (hb241 _ rfl).ax ⟨sval r256, trivial⟩
                  ·intro hb257
                   refine .split_b 263 rfl (fun c258 => ?_) (fun c258 => ?_)
                   ·have r259 := ifT h236 c258
                    refine .go 7 ?_
                    obtain ⟨u260, hu260, r261⟩ := bind_some r259
                    refine .cV [_, _] Tryz.call31 (ref04_Same_c mcs (SlR.mono (HpLe.trans (HpLe.trans (HpLe.trans (HpLe.trans (HpLe.trans e169 e178) e191) e208) e213) e220) s153) (SlR.mono (HpLe.trans (HpLe.trans (HpLe.trans (HpLe.trans (HpLe.trans (HpLe.trans (HpLe.trans (HpLe.trans (HpLe.trans (HpLe.trans e90 e106) e112) e119) e142) e169) e178) e191) e208) e213) e220) s75) hu260) ?_
                    refine .go 1 ?_
                    exact (hb257 _ rfl).ax ⟨sval r261, rfl, rfl, rfl, rfl, trivial⟩
                   ·have r262 := ifBF h236 c258
                    refine .go 5 ?_
                    exact (hb257 _ rfl).ax ⟨sval r262, rfl, rfl, rfl, rfl, trivial⟩
                 ·intro hb263
                  refine .split 257 rfl (fun c264 => ?_) (fun c264 => ?_)
                  ·have r265 := ifT h232 c264
                   refine .go 7 ?_
                   obtain ⟨u266, hu266, r267⟩ := bind_some r265
                   refine .cV [_, _] Tryz.call31 (ref04_Same_c mcs (SlR.mono (HpLe.trans (HpLe.trans (HpLe.trans (HpLe.trans (HpLe.trans (HpLe.trans e142 e169) e178) e191) e208) e213) e220) s126) (SlR.mono (HpLe.trans (HpLe.trans (HpLe.trans (HpLe.trans (HpLe.trans (HpLe.trans (HpLe.trans (HpLe.trans (HpLe.trans (HpLe.trans e90 e106) e112) e119) e142) e169) e178) e191) e208) e213) e220) s75) hu266) ?_
                   refine .go 1 ?_
                   exact (hb263 _ rfl).ax ⟨sval r267, rfl, rfl, rfl, rfl, rfl, trivial⟩
                  ·have r268 := ifF h232 c264
                   refine .go 5 ?_
                   exact (hb263 _ rfl).ax ⟨sval r268, rfl, rfl, rfl, rfl, rfl, trivial⟩
                ·intro hb269
                 refine .split 250 rfl (fun c270 => ?_) (fun c270 => ?_)
                 ·refine .go 11 ?_
                  exact (hb269 _ rfl).ax ⟨dand_t c270, rfl, rfl, rfl, rfl, rfl, rfl, trivial⟩
                 ·refine .go 6 ?_
                  exact (hb269 _ rfl).ax ⟨dand_f c270, rfl, rfl, rfl, rfl, rfl, rfl, trivial⟩
               ·intro hb271
                refine .split 245 rfl (fun c272 => ?_) (fun c272 => ?_)
                ·refine .go 7 ?_
                 exact (hb271 _ rfl).ax ⟨dand_t c272, rfl, rfl, rfl, rfl, rfl, rfl, trivial⟩
                ·refine .go 4 ?_
                 exact (hb271 _ rfl).ax ⟨dand_f c272, rfl, rfl, rfl, rfl, rfl, rfl, trivial⟩
              ·intro hb273
               refine .block (.own_nil 63 2 ?_)
               refine .lp (fun y m => ∃ (Z0 : Nat) (Z1 : List (List Int)) (Z2 : _) (Z3 : List (Bool × (List Int))) (Z4 : _) (Z5 : Nat) (Z6 : _), y = ⟨[(31, .slice Z4 Z3.length Z5), (199, .int .i64 (Z0 : Int))], [Z2], [], [.s (.slice Z4 Z3.length Z5) 63 2 Z3.length Z6]⟩ ∧ Z1.length = m ∧ HpLe G190 Z2 ∧ Bd w0 S0 Fs Z2 ∧ OL (Rep.pair Rep.bool (Rep.sl ri)) Z2 Z6 Z3 ∧ List.drop Z0 u187.1 = Z1 ∧ top_TopSchemes_L2 (top_TopSchemes_J1 (w64 (1 + u43.1)) (Int.tmod (w64 x1) (w64 (1 + u36.1))) u68 u138.1.1 u115.1.1 u23.2.1.1 u23.2.1.2.1 u23.2.1.2.2 u23.1) v99 (w64 (1 + u43.1)) u23.2.1.1 u23.2.1.2.1 u23.2.1.2.2 u23.1 Z1 Z0 Z3 = some r) [(10, _), (6, _), (7, _), (9, _), (11, _), (12, _), (23, _), (26, _), (197, _), (198, _)] [_, _, _, _, _, _] [_] ⟨0, u187.1, G190, ([] : List (Bool × (List Int))), none, 0, [], rfl, rfl, (HpLe.refl _), B192, (OL.nil (Rp' := (Rep.pair Rep.bool (Rep.sl ri)))), rfl, r202⟩ (fun y m hI hb274 => ?_)
               obtain ⟨i275, w276, G277, v278, a279, k280, cs281, rfl, rfl, e282, B283, o284, g285, r286⟩ := hI
               refine .gn 0 ?_
               cases w276 with
               | nil =>
                rw [top_TopSchemes_L2] at r286; try dsimp only at r286
                refine .go 5 ?_
                refine .cond_dec rfl (fun c => absurd c (drop_nil g285)) (fun _ => ?_)
                refine .exit rfl ?_
                exact (hb273 _ ⟨G277, v278, a279, k280, cs281, rfl, e282, B283, o284, r286⟩).ar
               | cons x287 xs288 =>
                have r289 : top_TopSchemes_B2 (top_TopSchemes_J1 (w64 (1 + u43.1)) (Int.tmod (w64 x1) (w64 (1 + u36.1))) u68 u138.1.1 u115.1.1 u23.2.1.1 u23.2.1.2.1 u23.2.1.2.2 u23.1) v99 (w64 (1 + u43.1)) u23.2.1.1 u23.2.1.2.1 u23.2.1.2.2 u23.1 (top_TopSchemes_L2 (top_TopSchemes_J1 (w64 (1 + u43.1)) (Int.tmod (w64 x1) (w64 (1 + u36.1))) u68 u138.1.1 u115.1.1 u23.2.1.1 u23.2.1.2.1 u23.2.1.2.2 u23.1) v99 (w64 (1 + u43.1)) u23.2.1.1 u23.2.1.2.1 u23.2.1.2.2 u23.1 xs288 (i275 + 1)) x287 i275 v278 = some r := r286; clear r286; unfold top_TopSchemes_B2 at r289; try dsimp only at r289
                refine .go 5 ?_
                refine .cond_dec rfl (fun _ => ?_) (fun c => absurd (drop_lt g285) c)
                refine .go 2 ?_
                refine .block (.go 3 ?_)
                obtain ⟨c290, p291, h292⟩ := SlR.get (SlR.mono e282 s198) (drop_idx g285)
                obtain ⟨a293, k294, rfl, s295⟩ := h292
                refine .q .ro (.idxR (SlR.mono e282 s198) rfl rfl (drop_idx g285) sl51 ty22.sz) rfl (.q .ro (.load_rp p291 mcs rfl ty22 rfl) rfl (.go 5 ?_))
                refine .q .ro (.load_own_a 5 [_] rfl rfl ty45 rfl) rfl (.q .ro (.load_own_a 4 [_, _, _] rfl rfl ty47 rfl) rfl (.go 4 ?_))
                obtain ⟨u296, hu296, r297⟩ := bind_some r289
                refine .cW [_, _, _, _, _] Tryz.call29 (coded_Hold_c mcs (SlR.mono (HpLe.trans (HpLe.trans (HpLe.trans (HpLe.trans (HpLe.trans (HpLe.trans e112 e119) e142) e169) e178) e191) e282) s108) hu296) B283 (fun v298 bo so G299 e300 B301 h302 => ?_)
                obtain ⟨a303, k304, cs305, rfl, rfl, rfl, o306⟩ := h302
                refine .gn 8 ?_
                refine .q .ro (.load_own_a 5 [_] rfl rfl ty45 rfl) rfl (.go 3 ?_)
                refine .freezeR 0 rfl rfl o306 [_, _] rfl B301 (fun G307 e308 B309 s310 => ?_)
                obtain ⟨u311, hu311, r312⟩ := bind_some r297
                refine .cS [_, _, _, _] Tryz.call23 (parity_Answer_c mcs s310 (SlR.mono (HpLe.trans e300 e308) s295) hu311) (fun v313 bo so h314 => ?_)
                obtain ⟨a315, k316, cs317, rfl, rfl, rfl, o318⟩ := h314
                refine .gn 12 ?_
                refine .kR (fun y => y = ⟨[(227, .bool (decide ((u296.2 ≠ 0) ∨ (u311.2 ≠ 0))))], G307 :: Fs, [], []⟩) [(31, _), (199, _), (10, _), (6, _), (7, _), (9, _), (11, _), (12, _), (23, _), (26, _), (197, _), (198, _), (36, _)] [_, _, _, _, _, _] [0, 1, 2, 3, 4, 5] [_, _, _] [0, 1, 2] 3 ?_ ?_
                ·rintro _ rfl
                 refine .gn 1 ?_
                 refine .cH r312 (fun c319 r320 => ?_) (fun c319 r321 => ?_)
                 ·refine .go 4 ?_
                  cases r320
                  refine .drop 6 0 [] _ rfl rfl (.drop 0 3 _ [] rfl rfl ?_)
                  refine .rS [.tmp 4] [_] Tryz.func4 Tryz.results4 ⟨rfl, rfl, rfl⟩
                 ·refine .go 4 ?_
                  refine .q .ro (.build [_, _] [(0, _), (1, _)] ty63 pl63 rfl rfl) rfl ?_
                  refine .freezeR 0 rfl rfl o318 [_, _] rfl B309 (fun G322 e323 B324 s325 => ?_)
                  refine .lit [_, _] [(0, _)] .ro sl60 ty63 rfl rfl rfl rfl rfl rfl (fun b326 hb326 => ?_)
                  have o327 : OL (Rep.pair Rep.bool (Rep.sl ri)) G322 [.bool true, .slice a315 u311.1.length k316] ([(true, u311.1)] : List (Bool × (List Int))) := ((OL.cons rfl (Rep.pairI (Rep.boolI true) (Rep.slI s325)) (OL.nil (Rp' := (Rep.pair Rep.bool (Rep.sl ri))))) :)
                  refine .reval 231 (n' := ([(true, u311.1)] : List (Bool × (List Int))).length) rfl rfl ?_
                  obtain ⟨u328, hu328, r329⟩ := bind_some r321
                  refine .appO (Q := (Rep.pair Rep.bool (Rep.sl ri))) 0 .ro sl60 ty63 rfl rfl rfl rfl rfl rfl (OL.mono (HpLe.trans (HpLe.trans e300 e308) e323) o284) o327 rfl rfl rfl B324 hu328 rfl (fun a330 k331 cs332 o333 => ?_)
                  refine .go 7 ?_
                  exact (hb274 _ _ ⟨(i275 + 1), xs288, G322, u328, a330, k331, cs332, rfl, rfl, (HpLe.trans (HpLe.trans (HpLe.trans e282 e300) e308) e323), B324, o333, (drop_succ g285), r329⟩ (Nat.lt_succ_self _)).ax ⟨rfl, (congrArg (fun z => some (Value.int .i64 z)) (idx_wrap (SlR.len s198) g285)), rfl, rfl, rfl, rfl, rfl, rfl, rfl, rfl, rfl, rfl, trivial⟩
                ·intro hb334
                 refine .split 224 rfl (fun c335 => ?_) (fun c335 => ?_)
                 ·refine .go 3 ?_
                  exact (hb334 _ rfl).ax ⟨dor_t c335, rfl, rfl, rfl, rfl, rfl, rfl, rfl, rfl, rfl, rfl, rfl, rfl, rfl, trivial⟩
                 ·refine .go 5 ?_
                  exact (hb334 _ rfl).ax ⟨dor_f c335, rfl, rfl, rfl, rfl, rfl, rfl, rfl, rfl, rfl, rfl, rfl, rfl, rfl, trivial⟩
            ·intro hb336
             refine .split 190 rfl (fun c337 => ?_) (fun c337 => ?_)
             ·refine .go 6 ?_
              exact (hb336 _ rfl).ax ⟨dor_t c337, rfl, rfl, rfl, rfl, rfl, rfl, rfl, rfl, rfl, trivial⟩
             ·refine .go 11 ?_
              exact (hb336 _ rfl).ax ⟨dor_f c337, rfl, rfl, rfl, rfl, rfl, rfl, rfl, rfl, rfl, trivial⟩
           ·intro hb338
            refine .split 186 rfl (fun c339 => ?_) (fun c339 => ?_)
            ·refine .go 3 ?_
             exact (hb338 _ rfl).ax ⟨dor_t c339, rfl, rfl, rfl, rfl, rfl, rfl, rfl, rfl, rfl, trivial⟩
            ·refine .go 5 ?_
             exact (hb338 _ rfl).ax ⟨dor_f c339, rfl, rfl, rfl, rfl, rfl, rfl, rfl, rfl, rfl, trivial⟩
          ·intro hb340
           refine .split 182 rfl (fun c341 => ?_) (fun c341 => ?_)
           ·refine .go 3 ?_
            exact (hb340 _ rfl).ax ⟨dor_t c341, rfl, rfl, rfl, rfl, rfl, rfl, rfl, rfl, rfl, rfl, trivial⟩
           ·refine .go 5 ?_
            exact (hb340 _ rfl).ax ⟨dor_f c341, rfl, rfl, rfl, rfl, rfl, rfl, rfl, rfl, rfl, rfl, trivial⟩
         ·intro hb342
          refine .split 178 rfl (fun c343 => ?_) (fun c343 => ?_)
          ·refine .go 3 ?_
           exact (hb342 _ rfl).ax ⟨dor_t c343, rfl, rfl, rfl, rfl, rfl, rfl, rfl, rfl, rfl, rfl, rfl, trivial⟩
          ·refine .go 5 ?_
           exact (hb342 _ rfl).ax ⟨dor_f c343, rfl, rfl, rfl, rfl, rfl, rfl, rfl, rfl, rfl, rfl, rfl, trivial⟩
        ·intro hb344
         refine .split 174 rfl (fun c345 => ?_) (fun c345 => ?_)
         ·refine .go 3 ?_
          exact (hb344 _ rfl).ax ⟨dor_t c345, rfl, rfl, rfl, rfl, rfl, rfl, rfl, rfl, rfl, rfl, rfl, rfl, trivial⟩
         ·refine .go 5 ?_
          exact (hb344 _ rfl).ax ⟨dor_fb c345, rfl, rfl, rfl, rfl, rfl, rfl, rfl, rfl, rfl, rfl, rfl, rfl, trivial⟩
       ·intro hb346
        refine .drawL (.q 0 (.q 1 (.q 2 (.q 3 (.q 4 (.q 5 (.alt (.e 6 1 (.q 7 (.q 8 (.e 9 1 (.e 10 2 .nil))))) (.e 9 1 (.e 6 1 (.q 7 (.q 8 (.e 10 2 .nil)))))))))))) [_, _, _] (by kernel_rfl) (by kernel_rfl) (pick_mem [0, 2, 3] rfl) ?_
        obtain ⟨u347, hu347, r348⟩ := bind_some r116
        refine .go 6 ?_
        refine .alt ?_ ?_
        ·refine .pull 1 rfl [_, _, _, _] rfl ?_
         refine .callS (b1 := [_]) (b2 := [_, _, _]) (s1 := []) [_, _] [] .d1 rfl rfl Tryz.call18 rfl rfl (make_Deck_Next_c mcs (SlR.mono (HpLe.trans (HpLe.trans e106 e112) e119) s93) hu347) rfl (fun v349 bo so h350 => ?_)
         obtain ⟨a351, k352, rfl, rfl, rfl, s353⟩ := h350
         refine .gn 0 ?_
         refine .clsL (HpLe.refl _) (pick_mem [1, 2, 3] rfl) (.go 1 ?_)
         refine .dq (.build [_, _] [(0, _), (1, _)] ty69 pl69 rfl rfl) rfl ?_
         refine .alloc .d1 ty69 rfl (fun b354 hb354 => ?_)
         refine .clsL (HpLe.refl _) (pick_mem [2, 3, 4] rfl) (.store 0 [_, _] [_, _, _, _, _] .d2 rfl rfl rfl ty69 rfl rfl rfl rfl (.go 1 ?_))
         exact (hb346 _ ⟨b354, u23.2.1.1, (w64 (1 + u347.1)), u347.2.1, a351, k352, u347.2.2, rfl, s353, r348⟩).ar
        ·refine .alloc .d1 ty69 rfl (fun b355 hb355 => ?_)
         refine .clsL (HpLe.refl _) (pick_mem [1, 3, 4] rfl) (.pull 2 rfl [_, _, _, _, _] rfl ?_)
         refine .callS (b1 := [_]) (b2 := [_, _, _, _]) (s1 := []) [_, _] [] .d1 rfl rfl Tryz.call18 rfl rfl (make_Deck_Next_c mcs (SlR.mono (HpLe.trans (HpLe.trans e106 e112) e119) s93) hu347) rfl (fun v356 bo so h357 => ?_)
         obtain ⟨a358, k359, rfl, rfl, rfl, s360⟩ := h357
         refine .gn 0 ?_
         refine .clsL (HpLe.refl _) (pick_mem [2, 3, 4] rfl) (.go 1 ?_)
         refine .dq (.build [_, _] [(0, _), (1, _)] ty69 pl69 rfl rfl) rfl (.store 1 [_, _] [_, _, _, _, _] .d2 rfl rfl rfl ty69 rfl rfl rfl rfl (.go 1 ?_))
         refine .pull 4 rfl [_, _, _, _, _] rfl (.pull 4 rfl [_, _, _, _, _] rfl (.pull 4 rfl [_, _, _, _, _] rfl (.pull 3 rfl [_, _, _, _, _] rfl (.pull 4 rfl [_, _, _, _, _] rfl ?_))))
         exact (hb346 _ ⟨b355, u23.2.1.1, (w64 (1 + u347.1)), u347.2.1, a358, k359, u347.2.2, rfl, s360, r348⟩).ar
      ·intro hb361
       refine .block (.own_nil 63 2 ?_)
       refine .freezeR 2 rfl rfl (OL.mono e90 o62) [_, _] rfl B91 (fun G362 e363 B364 s365 => ?_)
       refine .lp (fun y m => ∃ (Z0 : Nat) (Z1 : List (List Int)) (Z2 : _) (Z3 : List (Bool × (List Int))) (Z4 : _) (Z5 : Nat) (Z6 : _), y = ⟨[(18, .slice Z4 Z3.length Z5), (97, .int .i64 (Z0 : Int))], [Z2], [], [.s (.slice Z4 Z3.length Z5) 63 2 Z3.length Z6]⟩ ∧ Z1.length = m ∧ HpLe G362 Z2 ∧ Bd w0 S0 Fs Z2 ∧ OL (Rep.pair Rep.bool (Rep.sl ri)) Z2 Z6 Z3 ∧ List.drop Z0 v11 = Z1 ∧ top_TopSchemes_L5 (top_TopSchemes_J4 (w64 (1 + u36.1)) (w64 (1 + u43.1)) (Int.tmod (w64 x1) (w64 (1 + u36.1))) u68 v86 v89 u23.2.1.1 u23.2.1.2.1 u23.2.1.2.2 u23.1) (w64 (1 + u43.1)) u50.1 u23.1 Z1 Z3 = some r) [(5, _), (6, _), (7, _), (8, _), (9, _), (10, _), (11, _), (12, _), (95, _), (96, _)] [_, _, _] [_] ⟨0, v11, G362, ([] : List (Bool × (List Int))), none, 0, [], rfl, rfl, (HpLe.refl _), B364, (OL.mono e363 (OL.nil (Rp' := (Rep.pair Rep.bool (Rep.sl ri))))), rfl, r97⟩ (fun y m hI hb366 => ?_)
       obtain ⟨i367, w368, G369, v370, a371, k372, cs373, rfl, rfl, e374, B375, o376, g377, r378⟩ := hI
       refine .gn 0 ?_
       cases w368 with
       | nil =>
        rw [top_TopSchemes_L5] at r378; try dsimp only at r378
        refine .go 5 ?_
        refine .cond_dec rfl (fun c => absurd c (drop_nil g377)) (fun _ => ?_)
        refine .exit rfl ?_
        exact (hb361 _ ⟨G369, u50.1, a59, k60, v370, a371, k372, cs373, rfl, (HpLe.trans e363 e374), B375, (SlR.mono e374 s365), o376, r378⟩).ar
       | cons x379 xs380 =>
        have r381 : top_TopSchemes_B5 (top_TopSchemes_J4 (w64 (1 + u36.1)) (w64 (1 + u43.1)) (Int.tmod (w64 x1) (w64 (1 + u36.1))) u68 v86 v89 u23.2.1.1 u23.2.1.2.1 u23.2.1.2.2 u23.1) (w64 (1 + u43.1)) u50.1 u23.1 (top_TopSchemes_L5 (top_TopSchemes_J4 (w64 (1 + u36.1)) (w64 (1 + u43.1)) (Int.tmod (w64 x1) (w64 (1 + u36.1))) u68 v86 v89 u23.2.1.1 u23.2.1.2.1 u23.2.1.2.2 u23.1) (w64 (1 + u43.1)) u50.1 u23.1 xs380) x379 v370 = some r := r378; clear r378; unfold top_TopSchemes_B5 at r381; try dsimp only at r381
        refine .go 5 ?_
        refine .cond_dec rfl (fun _ => ?_) (fun c => absurd (drop_lt g377) c)
        refine .go 2 ?_
        refine .block (.go 2 ?_)
        obtain ⟨c382, p383, h384⟩ := OL.get (OL.mono (HpLe.trans e363 e374) o92) (drop_idx g377)
        obtain ⟨a385, k386, rfl, s387⟩ := h384
        refine .q .ro (.idxO 1 rfl rfl rfl (drop_idx g377) sl51 ty22.sz) rfl (.q .ro (.loadO 1 0 rfl (drop_idx g377) p383 rfl (.inl ⟨rfl, rfl⟩) ty22 rfl) rfl (.go 4 ?_))
        refine .q .ro (.load_own_a 2 [_] rfl rfl ty45 rfl) rfl (.go 3 ?_)
        obtain ⟨u388, hu388, r389⟩ := bind_some r381
        refine .cS [_, _, _, _] Tryz.call23 (parity_Answer_c mcs (SlR.mono e374 s365) s387 hu388) (fun v390 bo so h391 => ?_)
        obtain ⟨a392, k393, cs394, rfl, rfl, rfl, o395⟩ := h391
        refine .gn 12 ?_
        refine .cH r389 (fun c396 r397 => ?_) (fun c396 r398 => ?_)
        ·refine .go 4 ?_
         cases r397
         refine .drop 3 0 [] _ rfl rfl (.drop 0 3 _ [] rfl rfl ?_)
         refine .rS [.tmp 4] [_] Tryz.func4 Tryz.results4 ⟨rfl, rfl, rfl⟩
        ·refine .go 4 ?_
         refine .q .ro (.build [_, _] [(0, _), (1, _)] ty63 pl63 rfl rfl) rfl ?_
         refine .freezeR 0 rfl rfl o395 [_, _] rfl B375 (fun G399 e400 B401 s402 => ?_)
         refine .lit [_, _] [(0, _)] .ro sl60 ty63 rfl rfl rfl rfl rfl rfl (fun b403 hb403 => ?_)
         have o404 : OL (Rep.pair Rep.bool (Rep.sl ri)) G399 [.bool true, .slice a392 u388.1.length k393] ([(true, u388.1)] : List (Bool × (List Int))) := ((OL.cons rfl (Rep.pairI (Rep.boolI true) (Rep.slI s402)) (OL.nil (Rp' := (Rep.pair Rep.bool (Rep.sl ri))))) :)
         refine .reval 114 (n' := ([(true, u388.1)] : List (Bool × (List Int))).length) rfl rfl ?_
         obtain ⟨u405, hu405, r406⟩ := bind_some r398
         refine .appO (Q := (Rep.pair Rep.bool (Rep.sl ri))) 0 .ro sl60 ty63 rfl rfl rfl rfl rfl rfl (OL.mono e400 o376) o404 rfl rfl rfl B401 hu405 rfl (fun a407 k408 cs409 o410 => ?_)
         refine .go 7 ?_
         exact (hb366 _ _ ⟨(i367 + 1), xs380, G399, u405, a407, k408, cs409, rfl, rfl, (HpLe.trans e374 e400), B401, o410, (drop_succ g377), r406⟩ (Nat.lt_succ_self _)).ax ⟨rfl, (congrArg (fun z => some (Value.int .i64 z)) (idx_wrap (OL.len' o92) g377)), rfl, rfl, rfl, rfl, rfl, rfl, rfl, rfl, rfl, rfl, trivial⟩
    ·intro hb411
     refine .split 91 rfl (fun c412 => ?_) (fun c412 => ?_)
     ·refine .go 3 ?_
      exact (hb411 _ rfl).ax ⟨dor_t c412, rfl, rfl, rfl, rfl, rfl, rfl, rfl, rfl, rfl, trivial⟩
     ·refine .go 5 ?_
      exact (hb411 _ rfl).ax ⟨dor_f c412, rfl, rfl, rfl, rfl, rfl, rfl, rfl, rfl, rfl, trivial⟩
   ·intro hb413
    refine .freezeR 0 rfl rfl o84 [_] rfl B56 (fun G414 e415 B416 s417 => ?_)
    refine .drawL (.q 0 (.q 1 (.q 2 (.q 3 (.q 4 (.alt (.e 5 1 (.alt (.e 6 1 (.q 7 (.q 8 (.q 9 (.q 10 (.e 11 1 (.q 12 (.e 13 1 (.q 14 .nil))))))))) (.e 11 1 (.e 6 1 (.q 7 (.q 8 (.q 9 (.q 10 (.q 12 (.e 13 1 (.q 14 .nil))))))))))) (.e 11 1 (.e 5 1 (.e 6 1 (.q 7 (.q 8 (.q 9 (.q 10 (.q 12 (.e 13 1 (.q 14 .nil)))))))))))))))) [_, _] (by kernel_rfl) (by kernel_rfl) (pick_mem [1, 2] rfl) ?_
    obtain ⟨u418, hu418, r419⟩ := bind_some r77
    obtain ⟨u420, hu420, r421⟩ := bind_some r419
    refine .dq (.load_own_a 1 [_] rfl rfl ty45 rfl) rfl (.go 4 ?_)
    refine .alt ?_ ?_
    ·refine .callW (b1 := [_]) (b2 := [_, _]) (s1 := []) [_, _] [] .d1 rfl rfl Tryz.call22 rfl rfl (make_Seed_c mcs (SlR.mono e415 s65) s417 hu418) rfl B416 (fun v422 bo so G423 e424 B425 h426 => ?_)
     obtain ⟨a427, k428, a429, k430, rfl, rfl, rfl, s431, s432⟩ := h426
     refine .gn 0 ?_
     refine .clsL e424 (pick_mem [1, 2] rfl) ?_
     refine .alt ?_ ?_
     ·refine .callW (b1 := []) (b2 := [_, _, _]) (s1 := []) [_, _, _, _, _] [] .d1 rfl rfl Tryz.call21 rfl rfl (parity_Queries_c mcs s431 hu420) rfl B425 (fun v433 bo so G434 e435 B436 h437 => ?_)
      obtain ⟨a438, k439, a440, k441, cs442, rfl, rfl, rfl, s443, o444⟩ := h437
      refine .gn 0 ?_
      refine .clsL (HpLe.trans e424 e435) (pick_mem [1, 2] rfl) (.go 4 ?_)
      refine .alloc .d1 ty56 rfl (fun b445 hb445 => ?_)
      refine .clsL (HpLe.trans e424 e435) (pick_mem [2, 3] rfl) (.go 1 ?_)
      refine .store 0 [_, _] [_, _, _, _] .d1 rfl rfl rfl ty56 rfl rfl rfl rfl (.clsL (HpLe.trans e424 e435) (pick_mem [2, 3] rfl) (.go 2 ?_))
      refine .drop 1 0 [_, _, _] _ rfl rfl ?_
      exact (hb413 _ ⟨G434, u420.1, a440, k441, cs442, u420.2.2, u418.2.1, a429, k430, u418.2.2, rfl, (HpLe.trans (HpLe.trans e415 e424) e435), B436, o444, (SlR.mono e435 s432), r421⟩).ar
     ·refine .alloc .d1 ty56 rfl (fun b446 hb446 => ?_)
      refine .clsL e424 (pick_mem [2, 3] rfl) ?_
      refine .callW (b1 := []) (b2 := [_, _, _, _]) (s1 := []) [_, _, _, _, _] [] .d1 rfl rfl Tryz.call21 rfl rfl (parity_Queries_c mcs s431 hu420) rfl B425 (fun v447 bo so G448 e449 B450 h451 => ?_)
      obtain ⟨a452, k453, a454, k455, cs456, rfl, rfl, rfl, s457, o458⟩ := h451
      refine .gn 0 ?_
      refine .clsL (HpLe.trans e424 e449) (pick_mem [2, 3] rfl) (.go 5 ?_)
      refine .store 0 [_, _] [_, _, _, _] .d1 rfl rfl rfl ty56 rfl rfl rfl rfl (.clsL (HpLe.trans e424 e449) (pick_mem [2, 3] rfl) (.go 2 ?_))
      refine .drop 1 0 [_, _, _] _ rfl rfl ?_
      exact (hb413 _ ⟨G448, u420.1, a454, k455, cs456, u420.2.2, u418.2.1, a429, k430, u418.2.2, rfl, (HpLe.trans (HpLe.trans e415 e424) e449), B450, o458, (SlR.mono e449 s432), r421⟩).ar
    ·refine .alloc .d1 ty56 rfl (fun b459 hb459 => ?_)
     refine .clsL (HpLe.refl _) (pick_mem [2, 3] rfl) (.pull 1 rfl [_, _, _, _] rfl ?_)
     refine .callW (b1 := [_]) (b2 := [_, _, _]) (s1 := []) [_, _] [] .d1 rfl rfl Tryz.call22 rfl rfl (make_Seed_c mcs (SlR.mono e415 s65) s417 hu418) rfl B416 (fun v460 bo so G461 e462 B463 h464 => ?_)
     obtain ⟨a465, k466, a467, k468, rfl, rfl, rfl, s469, s470⟩ := h464
     refine .gn 0 ?_
     refine .clsL e462 (pick_mem [2, 3] rfl) ?_
     refine .callW (b1 := []) (b2 := [_, _, _, _]) (s1 := []) [_, _, _, _, _] [] .d1 rfl rfl Tryz.call21 rfl rfl (parity_Queries_c mcs s469 hu420) rfl B463 (fun v471 bo so G472 e473 B474 h475 => ?_)
     obtain ⟨a476, k477, a478, k479, cs480, rfl, rfl, rfl, s481, o482⟩ := h475
     refine .gn 0 ?_
     refine .clsL (HpLe.trans e462 e473) (pick_mem [2, 3] rfl) (.go 5 ?_)
     refine .store 1 [_, _] [_, _, _, _] .d1 rfl rfl rfl ty56 rfl rfl rfl rfl (.clsL (HpLe.trans e462 e473) (pick_mem [2, 3] rfl) (.go 2 ?_))
     refine .pull 3 rfl [_, _, _, _] rfl (.pull 3 rfl [_, _, _, _] rfl (.pull 2 rfl [_, _, _, _] rfl (.pull 3 rfl [_, _, _, _] rfl (.drop 1 0 [_, _, _] _ rfl rfl ?_))))
     exact (hb413 _ ⟨G472, u420.1, a478, k479, cs480, u420.2.2, u418.2.1, a467, k468, u418.2.2, rfl, (HpLe.trans (HpLe.trans e415 e462) e473), B474, o482, (SlR.mono e473 s470), r421⟩).ar
end Go.Proofs.YtfcicopgdahmcaaGreatDoor
end

section
namespace Go.Proofs.YtfcicopgdahmcaaGreatDoor
theorem nz_ok {y : Int} (h : y ≠ 0) : nz y = some () := by unfold nz; rw [if_neg h]
theorem lidx_ok {α : Type} {l : List α} {i : Int} (d : α) (h0 : 0 ≤ i) (h1 : i < l.length) : lidx l i = some (l.getD i.toNat d) := by
  refine lidx_of h0 ?_
  rw [List.getD_eq_getElem?_getD]
  have : i.toNat < l.length := by omega
  simp [this]
theorem lidx_nat {α : Type} {l : List α} {i : Nat} (d : α) (h1 : i < l.length) : lidx l (i : Int) = some (l.getD i d) := by
  rw [lidx_ok d (by omega) (by omega), Int.toNat_natCast]
theorem lapp_ok {α : Type} {l m : List α} (h : l.length + m.length ≤ 16777216) : lapp l m = some (l ++ m) := by unfold lapp; rw [if_pos h]
theorem lsub_ok {α : Type} {l : List α} {i j : Int} (h0 : 0 ≤ i) (h1 : i ≤ j) (h2 : j ≤ l.length) : lsub l i j = some ((l.drop i.toNat).take (j - i).toNat) := by unfold lsub; rw [if_pos ⟨h0, h1, h2⟩]
theorem lupd_ok {α : Type} {l : List α} {i : Int} {y : α} (h0 : 0 ≤ i) (h1 : i < l.length) : lupd l i y = some (l.set i.toNat y) := by unfold lupd; rw [if_pos ⟨h0, h1⟩]
theorem mod_ok {x n : Int} (hn : 1 ≤ n) (hn2 : n ≤ 1000000) : make_Mod x n = some (x % n) := by
  unfold make_Mod
  rw [nz_ok (by omega)]
  simp only [Option.bind_some]
  have h1 := Int.lt_tmod_of_pos x (by omega : 0 < n)
  have h2 := Int.tmod_lt_of_pos x (by omega : 0 < n)
  rw [w64_id (by omega) (by omega), Int.tmod_eq_emod_of_nonneg (by omega), Int.add_emod_right]
  congr 1
  have h3 := Int.tmod_add_mul_tdiv x n
  have h4 : x.tmod n = x - n * x.tdiv n := by omega
  rw [h4, Int.sub_mul_emod_self_left]
theorem dnext_ok {l : List Int} (hl : l.length ≤ 1000) {p n : Int} (h0 : 0 ≤ p ∧ p ≤ 1000) (hn : 1 ≤ n ∧ n ≤ 1000000) : ∃ v q, make_Deck_Next (l, p) n = some (v, (l, q)) ∧ 0 ≤ v ∧ v < n ∧ 0 ≤ q ∧ q ≤ 1000 := by
  unfold make_Deck_Next
  split
  · exact ⟨0, p, rfl, by omega, by omega, h0.1, h0.2⟩
  · rename_i h
    dsimp only at h ⊢
    rw [lidx_ok 0 (by omega) (by omega)]
    simp only [Option.bind_some]
    rw [mod_ok hn.1 hn.2]
    simp only [Option.bind_some]
    refine ⟨_, _, rfl, Int.emod_nonneg _ (by omega), Int.emod_lt_of_pos _ (by omega), ?_⟩
    rw [w64_id (by omega) (by omega)]; omega
def Dk (l : List Int) (d : List Int × Int) : Prop := d.1 = l ∧ 0 ≤ d.2 ∧ d.2 ≤ 1000
theorem next_ok {l : List Int} (hl : l.length ≤ 1000) {d : List Int × Int} (hd : Dk l d) {n : Int} (hn : 1 ≤ n ∧ n ≤ 1000000) : ∃ v e, make_Deck_Next d n = some (v, e) ∧ 0 ≤ v ∧ v < n ∧ Dk l e := by
  obtain ⟨d1, d2⟩ := d
  obtain ⟨rfl, h1, h2⟩ := hd
  obtain ⟨v, q, e, a, b, c, f⟩ := dnext_ok hl ⟨h1, h2⟩ hn
  exact ⟨v, _, e, a, b, rfl, c, f⟩
end Go.Proofs.YtfcicopgdahmcaaGreatDoor
end

section
namespace Go.Proofs.YtfcicopgdahmcaaGreatDoor.Alg
set_option linter.unusedVariables false
def Cg (p a b : Int) : Prop := ∃ k, a - b = p * k
section
variable {p a b c d x y : Int}
theorem Cg.refl (p a : Int) : Cg p a a := ⟨0, by simp⟩
theorem Cg.of (h : a = b) : Cg p a b := h ▸ Cg.refl p a
theorem Cg.symm (h : Cg p a b) : Cg p b a := by obtain ⟨k, h⟩ := h; exact ⟨-k, by rw [Int.mul_neg]; omega⟩
theorem Cg.trans (h : Cg p a b) (k : Cg p b c) : Cg p a c := by obtain ⟨i, h⟩ := h; obtain ⟨j, k⟩ := k; exact ⟨i + j, by rw [Int.mul_add]; omega⟩
theorem Cg.add (h : Cg p a b) (k : Cg p c d) : Cg p (a + c) (b + d) := by obtain ⟨i, h⟩ := h; obtain ⟨j, k⟩ := k; exact ⟨i + j, by rw [Int.mul_add]; omega⟩
theorem Cg.neg (h : Cg p a b) : Cg p (-a) (-b) := by obtain ⟨i, h⟩ := h; exact ⟨-i, by rw [Int.mul_neg]; omega⟩
theorem Cg.sub (h : Cg p a b) (k : Cg p c d) : Cg p (a - c) (b - d) := by obtain ⟨i, h⟩ := h; obtain ⟨j, k⟩ := k; exact ⟨i - j, by rw [Int.mul_sub]; omega⟩
theorem Cg.mul (h : Cg p a b) (k : Cg p c d) : Cg p (a * c) (b * d) := by
  obtain ⟨i, h⟩ := h; obtain ⟨j, k⟩ := k
  refine ⟨i * c + b * j, ?_⟩
  have e1 : a * c - b * d = (a - b) * c + b * (c - d) := by rw [Int.sub_mul, Int.mul_sub]; omega
  rw [e1, h, k, Int.mul_add, Int.mul_assoc, Int.mul_left_comm b p j]
theorem Cg.emod (p a : Int) : Cg p (a % p) a := ⟨-(a / p), by have := Int.emod_add_mul_ediv a p; rw [Int.mul_neg]; omega⟩
theorem Cg.tmod (p a : Int) : Cg p (Int.tmod a p) a := ⟨-(Int.tdiv a p), by have := Int.tmod_add_mul_tdiv a p; rw [Int.mul_neg]; omega⟩
theorem Cg.p0 (p a : Int) : Cg p (p * a) 0 := ⟨a, by omega⟩
theorem Cg.small (h : Cg p a 0) (h0 : 0 ≤ a) (h1 : a < p) : a = 0 := by
  obtain ⟨k, h⟩ := h
  have hp : 0 < p := by omega
  have : k = 0 := by
    rcases Int.lt_trichotomy k 0 with hk | hk | hk
    · have := Int.mul_le_mul_of_nonneg_left (show k ≤ -1 by omega) (Int.le_of_lt hp)
      omega
    · exact hk
    · have := Int.mul_le_mul_of_nonneg_left (show 1 ≤ k by omega) (Int.le_of_lt hp)
      omega
  subst this; omega
theorem Cg.eq (h : Cg p a b) (ha : 0 ≤ a) (ha' : a < p) (hb : 0 ≤ b) (hb' : b < p) : a = b := by
  rcases Int.le_total b a with hh | hh
  · have h2 : Cg p (a - b) 0 := by obtain ⟨k, h⟩ := h; exact ⟨k, by omega⟩
    have := h2.small (by omega) (by omega); omega
  · have h2 : Cg p (b - a) 0 := by obtain ⟨k, h⟩ := h.symm; exact ⟨k, by omega⟩
    have := h2.small (by omega) (by omega); omega
theorem Cg.sub0 (h : Cg p a b) : Cg p (a - b) 0 := by obtain ⟨k, h⟩ := h; exact ⟨k, by omega⟩
theorem Cg.of_sub0 (h : Cg p (a - b) 0) : Cg p a b := by obtain ⟨k, h⟩ := h; exact ⟨k, by omega⟩
theorem Cg.dvd_iff : Cg p a 0 ↔ p ∣ a := ⟨fun ⟨k, h⟩ => ⟨k, by omega⟩, fun ⟨k, h⟩ => ⟨k, by omega⟩⟩
end
structure Pr (p : Int) : Prop where
  two : 2 ≤ p
  dom : ∀ {a b : Int}, Cg p (a * b) 0 → Cg p a 0 ∨ Cg p b 0
theorem Pr.one {p : Int} (h : Pr p) : ¬ Cg p 1 0 := fun hc => by have := hc.small (by omega) (by have := h.two; omega); omega
def noDiv (n : Nat) : Prop := ∀ d, 2 ≤ d → d * d ≤ n → n % d ≠ 0
theorem prime_coprime {n : Nat} (h2 : 2 ≤ n) (h : noDiv n) {a : Nat} (ha : ¬ n ∣ a) : Nat.Coprime n a := by
  -- the gcd divides n; were it neither 1 nor n, it or its cofactor were a divisor up to the root
  have hg := Nat.gcd_dvd_left n a
  have hg2 := Nat.gcd_dvd_right n a
  show Nat.gcd n a = 1
  generalize Nat.gcd n a = g at hg hg2
  obtain ⟨k, hk⟩ := hg
  have hg0 : g ≠ 0 := by rintro rfl; simp at hk; omega
  have hk0 : k ≠ 0 := by rintro rfl; simp at hk; omega
  have hgn : g ≠ n := by rintro rfl; exact ha hg2
  have hk1 : k ≠ 1 := by rintro rfl; rw [Nat.mul_one] at hk; exact hgn hk.symm
  apply Classical.byContradiction
  intro hg1
  rcases Nat.le_total g k with hle | hle
  · have h3 : g * g ≤ n := by rw [hk]; exact Nat.mul_le_mul_left g hle
    exact h g (by omega) h3 (by rw [hk]; exact Nat.mul_mod_right g k)
  · have h3 : k * k ≤ n := by rw [hk]; exact Nat.mul_le_mul_right k hle
    exact h k (by omega) h3 (by rw [hk]; exact Nat.mul_mod_left g k)
theorem Pr.of {n : Nat} (h2 : 2 ≤ n) (h : noDiv n) : Pr (n : Int) := ⟨by omega, fun {a b} hc => by
  rw [Cg.dvd_iff] at hc
  rw [Cg.dvd_iff, Cg.dvd_iff]
  by_cases ha : (n : Int) ∣ a
  · exact .inl ha
  · refine .inr ?_
    have ha' : ¬ n ∣ a.natAbs := fun hd => ha (by exact Int.ofNat_dvd_left.2 hd)
    have hcop := prime_coprime h2 h ha'
    rw [Int.ofNat_dvd_left, Int.natAbs_mul] at hc
    rw [Int.ofNat_dvd_left]
    exact hcop.dvd_of_dvd_mul_left hc⟩
def pv : List Int → Int → Int
  | [], _ => 0
  | c :: l, x => pv l x * x + c
def gd (l : List Int) (i : Nat) : Int := l.getD i 0
theorem gd_nil (i : Nat) : gd [] i = 0 := rfl
theorem gd_succ (c : Int) (l : List Int) (i : Nat) : gd (c :: l) (i + 1) = gd l i := rfl
theorem gd_ge {l : List Int} {i : Nat} (h : l.length ≤ i) : gd l i = 0 := by simp [gd, List.getD_eq_getElem?_getD, List.getElem?_eq_none h]
theorem gd_mem {l : List Int} {i : Nat} (h : i < l.length) : gd l i ∈ l := by
  simp only [gd, List.getD_eq_getElem?_getD, List.getElem?_eq_getElem h, Option.getD_some]; exact List.getElem_mem h
def Z0 (p : Int) (l : List Int) : Prop := ∀ i, Cg p (gd l i) 0
theorem Z0.cons {p c : Int} {l : List Int} : Z0 p (c :: l) ↔ Cg p c 0 ∧ Z0 p l :=
  ⟨fun h => ⟨h 0, fun i => h (i + 1)⟩, fun h i => by cases i with | zero => exact h.1 | succ i => exact h.2 i⟩
theorem Z0.nil {p : Int} : Z0 p [] := fun i => Cg.refl p 0
theorem Z0.pv {p : Int} : ∀ {l : List Int}, Z0 p l → ∀ x, Cg p (pv l x) 0
  | [], _, _ => Cg.refl _ _
  | c :: l, h, x => by
    have := ((Z0.pv (Z0.cons.1 h).2 x).mul (Cg.refl p x)).add (Z0.cons.1 h).1
    simpa [Proofs.YtfcicopgdahmcaaGreatDoor.Alg.pv] using this
def syn : List Int → Int → List Int
  | [], _ => []
  | c :: l, a => pv (c :: l) a :: syn l a
theorem syn_length (a : Int) : ∀ l, (syn l a).length = l.length
  | [] => rfl
  | c :: l => by simp [syn, syn_length a l]
theorem pv_syn (a x : Int) : ∀ l, pv l x * x - pv l a * a = (x - a) * pv (syn l a) x
  | [] => by simp [pv, syn]
  | c :: l => by
    have ih := pv_syn a x l
    simp only [pv, syn] at ih ⊢
    generalize pv l x = u at *
    generalize pv l a = v at *
    generalize pv (syn l a) x = w at *
    have e1 : (x - a) * (w * x + (v * a + c)) = ((x - a) * w) * x + (x - a) * (v * a + c) := by rw [Int.mul_add, Int.mul_assoc]
    rw [e1, ← ih]
    simp only [Int.add_mul, Int.mul_add, Int.sub_mul]
    have e2 : v * a * x = x * (v * a) := Int.mul_comm _ _
    have e3 : v * a * a = a * (v * a) := Int.mul_comm _ _
    have e4 : c * x = x * c := Int.mul_comm _ _
    have e5 : c * a = a * c := Int.mul_comm _ _
    omega
theorem syn_z0 {p a : Int} : ∀ {l : List Int}, Z0 p (syn l a) → Z0 p l ∧ Cg p (pv l a) 0
  | [], _ => ⟨Z0.nil, Cg.refl _ _⟩
  | c :: l, h => by
    obtain ⟨h1, h2⟩ := Z0.cons.1 h
    obtain ⟨h3, h4⟩ := syn_z0 h2
    refine ⟨Z0.cons.2 ⟨?_, h3⟩, h1⟩
    have := h1.sub (h4.mul (Cg.refl p a))
    simp only [pv, Int.zero_mul, Int.sub_zero] at this
    exact (Cg.of (by omega)).trans this
def Apart (p : Int) (xs : List Int) : Prop := xs.Pairwise fun x y => ¬ Cg p (x - y) 0
theorem roots {p : Int} (hp : Pr p) : ∀ (l xs : List Int), l.length ≤ xs.length → Apart p xs → (∀ x ∈ xs, Cg p (pv l x) 0) → Z0 p l
  | [], _, _, _, _ => Z0.nil
  | c :: l, [], h, _, _ => by simp at h
  | c :: l, a :: xs, h, ha, hr => by
    have hr0 := hr a List.mem_cons_self
    have hs : Z0 p (syn l a) := by
      refine roots hp (syn l a) xs (by rw [syn_length]; simpa using h) (List.pairwise_cons.1 ha).2 fun x hx => ?_
      have hrx := hr x (List.mem_cons_of_mem _ hx)
      have h1 := (hrx.sub hr0)
      simp only [pv, Int.sub_zero] at h1
      have h2 : Cg p ((x - a) * pv (syn l a) x) 0 := by
        rw [← pv_syn]
        exact (Cg.of (by omega)).trans h1
      rcases hp.dom h2 with h3 | h3
      · exfalso
        refine (List.pairwise_cons.1 ha).1 x hx ?_
        have := h3.neg
        exact (Cg.of (by omega)).trans this
      · exact h3
    obtain ⟨h1, h2⟩ := syn_z0 hs
    refine Z0.cons.2 ⟨?_, h1⟩
    have := hr0.sub (h2.mul (Cg.refl p a))
    simp only [pv, Int.zero_mul, Int.sub_zero] at this
    exact (Cg.of (by omega)).trans this
def padd : List Int → List Int → List Int
  | [], m => m
  | l, [] => l
  | a :: l, b :: m => (a + b) :: padd l m
def psc (c : Int) (l : List Int) : List Int := l.map (c * ·)
def pmul : List Int → List Int → List Int
  | [], _ => []
  | c :: l, m => padd (psc c m) (0 :: pmul l m)
theorem padd_length : ∀ l m, (padd l m).length = max l.length m.length
  | [], m => by simp [padd]
  | a :: l, [] => by simp [padd]
  | a :: l, b :: m => by simp [padd, padd_length l m]
theorem gd_padd : ∀ (l m : List Int) (i : Nat), gd (padd l m) i = gd l i + gd m i
  | [], m, i => by simp [padd, gd_nil]
  | a :: l, [], i => by simp [padd, gd_nil]
  | a :: l, b :: m, 0 => rfl
  | a :: l, b :: m, i + 1 => by simp only [padd, gd_succ]; exact gd_padd l m i
theorem pv_padd (x : Int) : ∀ l m, pv (padd l m) x = pv l x + pv m x
  | [], m => by simp [padd, pv]
  | a :: l, [] => by simp [padd, pv]
  | a :: l, b :: m => by simp only [padd, pv]; rw [pv_padd x l m, Int.add_mul]; omega
theorem psc_length (c : Int) (l : List Int) : (psc c l).length = l.length := by simp [psc]
theorem gd_psc (c : Int) (l : List Int) (i : Nat) : gd (psc c l) i = c * gd l i := by
  simp only [gd, psc, List.getD_eq_getElem?_getD, List.getElem?_map]
  cases l[i]? <;> simp
theorem pv_psc (c x : Int) : ∀ l, pv (psc c l) x = c * pv l x
  | [] => by simp [psc, pv]
  | a :: l => by
    have := pv_psc c x l
    simp only [psc, List.map_cons, pv] at this ⊢
    rw [this, Int.mul_add, Int.mul_assoc]
theorem pv_pmul (x : Int) (m : List Int) : ∀ l, pv (pmul l m) x = pv l x * pv m x
  | [] => by simp [pmul, pv]
  | c :: l => by
    simp only [pmul, pv_padd, pv_psc, pv]
    rw [pv_pmul x m l, Int.add_mul]
    have : pv l x * x * pv m x = pv l x * pv m x * x := by rw [Int.mul_assoc, Int.mul_comm x, ← Int.mul_assoc]
    omega
theorem pmul_length (m : List Int) : ∀ l, (pmul l m).length ≤ l.length + m.length
  | [] => by simp [pmul]
  | c :: l => by
    have := pmul_length m l
    simp only [pmul, padd_length, psc_length, List.length_cons]; omega
theorem pmul_length' (m : List Int) (hm : m ≠ []) : ∀ l, l ≠ [] → (pmul l m).length + 1 = l.length + m.length
  | [], h => absurd rfl h
  | [c], _ => by
    have : 0 < m.length := List.length_pos_iff.2 hm
    simp only [pmul, padd_length, psc_length, List.length_cons, List.length_nil]; omega
  | c :: d :: l, _ => by
    have := pmul_length' m hm (d :: l) (by simp)
    have : 0 < m.length := List.length_pos_iff.2 hm
    simp only [pmul, padd_length, psc_length, List.length_cons] at *; omega
theorem Z0.pmul {p : Int} {m : List Int} : ∀ {l : List Int}, Z0 p l → Z0 p (pmul l m)
  | [], _ => Z0.nil
  | c :: l, h => fun i => by
    obtain ⟨h1, h2⟩ := Z0.cons.1 h
    simp only [Proofs.YtfcicopgdahmcaaGreatDoor.Alg.pmul, gd_padd, gd_psc]
    have h3 : Cg p (gd (0 :: Proofs.YtfcicopgdahmcaaGreatDoor.Alg.pmul l m) i) 0 := by
      cases i with
      | zero => exact Cg.refl _ _
      | succ i => exact Z0.pmul h2 i
    have := (h1.mul (Cg.refl p (gd m i))).add h3
    simpa using this
theorem monic_zero {p : Int} {E : List Int} : ∀ (g : List Int), (∀ i, E.length ≤ i → Cg p (gd (pmul g (E ++ [1])) i) 0) → Z0 p g
  | [], _ => Z0.nil
  | c :: g, h => by
    have hz : Z0 p g := monic_zero (E := E) g fun i hi => by
      have := h (i + 1) (by omega)
      simp only [pmul, gd_padd, gd_psc, gd_succ] at this
      rw [gd_ge (l := E ++ [1]) (i := i + 1) (by simp; omega)] at this
      simpa using this
    refine Z0.cons.2 ⟨?_, hz⟩
    have := h E.length (Nat.le_refl _)
    simp only [pmul, gd_padd, gd_psc] at this
    have e1 : gd (E ++ [1]) E.length = 1 := by simp [gd, List.getD_eq_getElem?_getD]
    have h3 : Cg p (gd (0 :: pmul g (E ++ [1])) E.length) 0 := by
      cases hE : E.length with
      | zero => exact Cg.refl _ _
      | succ i => exact Z0.pmul hz i
    rw [e1, Int.mul_one] at this
    have := this.sub h3
    exact (Cg.of (by omega)).trans this
end Go.Proofs.YtfcicopgdahmcaaGreatDoor.Alg
end

section
namespace Go.Proofs.YtfcicopgdahmcaaGreatDoor.Alg
set_option linter.unusedVariables false
def sm : Nat → (Nat → Int) → Int
  | 0, _ => 0
  | n + 1, f => sm n f + f n
theorem sm_congr {p : Int} : ∀ {n : Nat} {f g : Nat → Int}, (∀ i, i < n → Cg p (f i) (g i)) → Cg p (sm n f) (sm n g)
  | 0, _, _, _ => Cg.refl _ _
  | n + 1, f, g, h => (sm_congr fun i hi => h i (by omega)).add (h n (by omega))
theorem sm_eq : ∀ {n : Nat} {f g : Nat → Int}, (∀ i, i < n → f i = g i) → sm n f = sm n g
  | 0, _, _, _ => rfl
  | n + 1, f, g, h => by simp only [sm]; rw [sm_eq fun i hi => h i (by omega), h n (by omega)]
theorem sm_add (f g : Nat → Int) : ∀ n, sm n (fun i => f i + g i) = sm n f + sm n g
  | 0 => rfl
  | n + 1 => by simp only [sm]; rw [sm_add f g n]; omega
theorem sm_mul (c : Int) (f : Nat → Int) : ∀ n, sm n (fun i => c * f i) = c * sm n f
  | 0 => by simp [sm]
  | n + 1 => by simp only [sm]; rw [sm_mul c f n, Int.mul_add]
theorem sm_zero : ∀ n, sm n (fun _ => 0) = 0
  | 0 => rfl
  | n + 1 => by simp only [sm]; rw [sm_zero n]; rfl
theorem sm_split (f : Nat → Int) (a : Nat) : ∀ b, sm (a + b) f = sm a f + sm b (fun j => f (a + j))
  | 0 => by simp [sm]
  | b + 1 => by rw [← Nat.add_assoc]; simp only [sm]; rw [sm_split f a b]; omega
theorem sm_one {p : Int} {f : Nat → Int} {q : Nat} : ∀ {n : Nat}, (∀ i, i < n → i ≠ q → Cg p (f i) 0) → q < n → Cg p (sm n f) (f q)
  | 0, _, h => by omega
  | n + 1, hf, h => by
    rcases Nat.lt_or_ge q n with hq | hq
    · have := (sm_one (fun i hi hne => hf i (by omega) hne) hq).add (hf n (by omega) (by omega))
      simpa [sm] using this
    · have hq' : q = n := by omega
      subst hq'
      have := (sm_congr (n := q) (g := fun _ => 0) fun i hi => hf i (by omega) (by omega)).add (Cg.refl p (f q))
      rw [sm_zero] at this
      simpa [sm] using this
theorem sm_none {p : Int} {f : Nat → Int} {n : Nat} (h : ∀ i, i < n → Cg p (f i) 0) : Cg p (sm n f) 0 := by
  have := sm_congr (g := fun _ => 0) h
  rwa [sm_zero] at this
theorem sm_shift (c x : Int) (f : Nat → Int) : ∀ n, sm (n + 1) (fun i => (match i with | 0 => c | j + 1 => f j) * x ^ i) = sm n (fun i => f i * x ^ i) * x + c
  | 0 => by simp [sm]
  | n + 1 => by
    rw [sm, sm_shift c x f n]
    simp only [sm]
    rw [Int.add_mul, Int.pow_succ, Int.mul_assoc (f n) (x ^ n) x]
    omega
theorem pv_sm (x : Int) : ∀ l : List Int, pv l x = sm l.length (fun i => gd l i * x ^ i)
  | [] => rfl
  | c :: l => by
    simp only [pv, List.length_cons]
    rw [pv_sm x l, ← sm_shift c x (gd l) l.length]
    refine sm_eq fun i _ => ?_
    cases i <;> rfl
theorem sm_more {f : Nat → Int} {a b : Nat} (h : a ≤ b) (h0 : ∀ i, a ≤ i → i < b → f i = 0) : sm b f = sm a f := by
  obtain ⟨d, rfl⟩ : ∃ d, b = a + d := ⟨b - a, by omega⟩
  rw [sm_split]
  have : sm d (fun j => f (a + j)) = sm d (fun _ => 0) := sm_eq fun i hi => h0 _ (by omega) (by omega)
  rw [this, sm_zero]; omega
theorem pv_sm_le (x : Int) {l : List Int} {n : Nat} (h : l.length ≤ n) : pv l x = sm n (fun i => gd l i * x ^ i) := by
  rw [pv_sm, sm_more h]
  intro i hi _
  show gd l i * x ^ i = 0
  rw [gd_ge hi, Int.zero_mul]
def SolM (p : Int) (n m : Nat) (M : Nat → Nat → Int) (z : Nat → Int) : Prop := ∀ i, i < n → Cg p (sm m (fun j => M i j * z j)) 0
structure GI (p : Int) (n m : Nat) (M0 M : Nat → Nat → Int) (k r : Nat) (L : Nat → Nat) : Prop where
  rn : r ≤ n
  sol : ∀ z, SolM p n m M z ↔ SolM p n m M0 z
  low : ∀ i, r ≤ i → i < n → ∀ j, j < k → Cg p (M i j) 0
  led : ∀ j, j < k → L j ≠ 0 → L j ≤ r ∧ ∀ i, i < n → Cg p (M i j) (if i + 1 = L j then 1 else 0)
  inj : ∀ j j', j < k → j' < k → L j ≠ 0 → L j = L j' → j = j'
  sur : ∀ i, i < r → ∃ j, j < k ∧ L j = i + 1
theorem GI.start (p : Int) (n m : Nat) (M : Nat → Nat → Int) (L : Nat → Nat) : GI p n m M M 0 0 L :=
  ⟨Nat.zero_le _, fun _ => Iff.rfl, fun _ _ _ _ h => absurd h (Nat.not_lt_zero _), fun _ h => absurd h (Nat.not_lt_zero _), fun _ _ h => absurd h (Nat.not_lt_zero _), fun _ h => absurd h (Nat.not_lt_zero _)⟩
section
variable {p : Int} {n m k r : Nat} {M0 M M' : Nat → Nat → Int} {L L' : Nat → Nat}
theorem GI.skip (h : GI p n m M0 M k r L) (h0 : ∀ i, r ≤ i → i < n → Cg p (M i k) 0) (hL : ∀ j, j < k → L' j = L j) (hk : L' k = 0) : GI p n m M0 M (k + 1) r L' := by
  have cs : ∀ j, j < k + 1 → j = k ∨ j < k := fun j hj => by omega
  refine ⟨h.rn, h.sol, fun i hi hn j hj => ?_, fun j hj hne => ?_, fun j j' hj hj' hne he => ?_, fun i hi => ?_⟩
  · rcases cs j hj with rfl | hj
    · exact h0 i hi hn
    · exact h.low i hi hn j hj
  · rcases cs j hj with rfl | hj
    · exact absurd hk hne
    · rw [hL j hj] at hne ⊢; exact h.led j hj hne
  · rcases cs j hj with rfl | hj
    · exact absurd hk hne
    · rcases cs j' hj' with rfl | hj'
      · rw [hk] at he; exact absurd he hne
      · rw [hL j hj] at hne he; rw [hL j' hj'] at he; exact h.inj j j' hj hj' hne he
  · obtain ⟨j, hj, he⟩ := h.sur i hi
    exact ⟨j, by omega, by rw [hL j hj]; exact he⟩
def swp (a b : Nat) (M : Nat → Nat → Int) (i : Nat) : Nat → Int := if i = a then M b else if i = b then M a else M i
theorem GI.lead (h : GI p n m M0 M k r L) (i0 : Nat) (hi0 : r ≤ i0) (hi1 : i0 < n) (by_ : Int) (hby : Cg p (M i0 k * by_) 1)
    (hr : ∀ j, j < m → Cg p (M' r j) (M i0 j * by_))
    (ho : ∀ i, i < n → i ≠ r → ∀ j, j < m → Cg p (M' i j) (swp r i0 M i j - swp r i0 M i k * M' r j))
    (hkm : k < m) (hL : ∀ j, j < k → L' j = L j) (hk : L' k = r + 1) : GI p n m M0 M' (k + 1) (r + 1) L' := by
  have cs : ∀ j, j < k + 1 → j = k ∨ j < k := fun j hj => by omega
  have hrn : r < n := by omega
  -- the swapped rows have the same solutions
  have hsw : ∀ z, SolM p n m (swp r i0 M) z ↔ SolM p n m M z := fun z => by
    refine ⟨fun hs i hi => ?_, fun hs i hi => ?_⟩
    · by_cases e1 : i = r
      · have := hs i0 hi1
        by_cases e2 : i0 = r
        · rw [e1]; rw [e2] at this; simpa [swp, e2] using this
        · have e3 : swp r i0 M i0 = M r := by simp [swp, e2]
          rw [e3] at this; rw [e1]; exact this
      · by_cases e2 : i = i0
        · have := hs r hrn
          have e3 : swp r i0 M r = M i0 := by simp [swp]
          rw [e3] at this; rw [e2]; exact this
        · have := hs i hi
          have e3 : swp r i0 M i = M i := by simp [swp, e1, e2]
          rw [e3] at this; exact this
    · by_cases e1 : i = r
      · have e3 : swp r i0 M i = M i0 := by simp [swp, e1]
        rw [e3]; exact hs i0 hi1
      · by_cases e2 : i = i0
        · have e3 : swp r i0 M i = M r := by unfold swp; rw [if_neg e1, if_pos e2]
          rw [e3]; exact hs r hrn
        · have e3 : swp r i0 M i = M i := by simp [swp, e1, e2]
          rw [e3]; exact hs i hi
  have hsr : swp r i0 M r = M i0 := by simp [swp]
  -- sums of the new rows
  have s1 : ∀ z : Nat → Int, Cg p (sm m (fun j => M' r j * z j)) (by_ * sm m (fun j => M i0 j * z j)) := fun z => by
    rw [← sm_mul]
    refine sm_congr fun j hj => ?_
    have := (hr j hj).mul (Cg.refl p (z j))
    refine this.trans (Cg.of ?_)
    rw [Int.mul_comm (M i0 j), Int.mul_assoc]
  have s2 : ∀ (z : Nat → Int) (i : Nat), i < n → i ≠ r → Cg p (sm m (fun j => M' i j * z j)) (sm m (fun j => swp r i0 M i j * z j) - swp r i0 M i k * sm m (fun j => M' r j * z j)) := fun z i hi hne => by
    have e : sm m (fun j => swp r i0 M i j * z j) - swp r i0 M i k * sm m (fun j => M' r j * z j) = sm m (fun j => (swp r i0 M i j * z j) + (- swp r i0 M i k) * (M' r j * z j)) := by
      rw [sm_add (fun j => swp r i0 M i j * z j) (fun j => (- swp r i0 M i k) * (M' r j * z j)), sm_mul, Int.neg_mul]; omega
    rw [e]
    refine sm_congr fun j hj => ?_
    refine ((ho i hi hne j hj).mul (Cg.refl p (z j))).trans (Cg.of ?_)
    rw [Int.sub_mul, Int.neg_mul, Int.mul_assoc]; omega
  -- the entries of the new rows in old columns, and in column k
  have hM'r : ∀ j, j < m → Cg p (M' r j) (swp r i0 M r j * by_) := fun j hj => by rw [hsr]; exact hr j hj
  have kr : Cg p (M' r k) 1 := (hr k hkm).trans hby
  have ko : ∀ i, i < n → i ≠ r → Cg p (M' i k) 0 := fun i hi hne => by
    refine (ho i hi hne k hkm).trans ?_
    have := (Cg.refl p (swp r i0 M i k)).sub ((Cg.refl p (swp r i0 M i k)).mul kr)
    refine this.trans (Cg.of ?_)
    rw [Int.mul_one]; omega
  have swlow : ∀ i, r ≤ i → i < n → ∀ j, j < k → Cg p (swp r i0 M i j) 0 := fun i hi hn j hj => by
    unfold swp
    split
    · exact h.low i0 hi0 hi1 j hj
    · split
      · exact h.low r (Nat.le_refl _) hrn j hj
      · exact h.low i hi hn j hj
  have r0 : ∀ j, j < k → Cg p (M' r j) 0 := fun j hj => by
    have := (h.low i0 hi0 hi1 j hj).mul (Cg.refl p by_)
    rw [Int.zero_mul] at this
    exact (hr j (by omega)).trans this
  have oj : ∀ i, i < n → i ≠ r → ∀ j, j < k → Cg p (M' i j) (swp r i0 M i j) := fun i hi hne j hj => by
    refine (ho i hi hne j (by omega)).trans ?_
    have := (Cg.refl p (swp r i0 M i j)).sub ((Cg.refl p (swp r i0 M i k)).mul (r0 j hj))
    refine this.trans (Cg.of ?_)
    rw [Int.mul_zero]; omega
  refine ⟨hrn, fun z => ?_, fun i hi hn j hj => ?_, fun j hj hne => ?_, fun j j' hj hj' hne he => ?_, fun i hi => ?_⟩
  · rw [← h.sol, ← hsw]
    refine ⟨fun hs => ?_, fun hs => ?_⟩
    · have hfirst : Cg p (sm m (fun j => M i0 j * z j)) 0 := by
        -- M i0 = (M i0 k) * M' r
        have h1 := hs r hrn
        have h2 := (Cg.refl p (M i0 k)).mul (h1.symm.trans (s1 z))
        rw [Int.mul_zero, ← Int.mul_assoc] at h2
        have h3 := hby.mul (Cg.refl p (sm m (fun j => M i0 j * z j)))
        rw [Int.one_mul] at h3
        exact (h2.trans h3).symm
      intro i hi
      by_cases e1 : i = r
      · rw [e1, hsr]; exact hfirst
      · have h1 := s2 z i hi e1
        have h2 := (Cg.refl p (swp r i0 M i k)).mul (hs r hrn)
        rw [Int.mul_zero] at h2
        have h3 := (hs i hi).symm.trans h1
        have h4 := h3.symm.add h2
        exact (Cg.of (by omega)).trans h4
    · have h0 : Cg p (sm m (fun j => M' r j * z j)) 0 := by
        have h1 := hs r hrn
        rw [hsr] at h1
        have h2 := (Cg.refl p by_).mul h1
        rw [Int.mul_zero] at h2
        exact (s1 z).trans h2
      intro i hi
      by_cases e1 : i = r
      · rw [e1]; exact h0
      · have h2 := (hs i hi).sub ((Cg.refl p (swp r i0 M i k)).mul h0)
        rw [Int.mul_zero] at h2
        exact (s2 z i hi e1).trans h2
  · rcases cs j hj with rfl | hj
    · exact ko i hn (by omega)
    · exact (oj i hn (by omega) j hj).trans (swlow i (by omega) hn j hj)
  · rcases cs j hj with rfl | hj
    · rw [hk]
      refine ⟨Nat.le_refl _, fun i hi => ?_⟩
      by_cases e1 : i = r
      · rw [e1, if_pos rfl]; exact kr
      · rw [if_neg (by omega)]; exact ko i hi e1
    · rw [hL j hj] at hne ⊢
      obtain ⟨h1, h2⟩ := h.led j hj hne
      refine ⟨by omega, fun i hi => ?_⟩
      by_cases e1 : i = r
      · rw [e1, if_neg (by omega)]; exact r0 j hj
      · refine (oj i hi e1 j hj).trans ?_
        by_cases e2 : i = i0
        · have : ¬ (i + 1 = L j) := by omega
          rw [if_neg this]; exact swlow i (by omega) hi j hj
        · have e3 : swp r i0 M i = M i := by simp [swp, e1, e2]
          rw [e3]; exact h2 i hi
  · rcases cs j hj with rfl | hj
    · rcases cs j' hj' with rfl | hj'
      · rfl
      · rw [hk, hL j' hj'] at he
        have := (h.led j' hj' (by omega)).1
        omega
    · rcases cs j' hj' with rfl | hj'
      · rw [hk, hL j hj] at he
        rw [hL j hj] at hne
        have := (h.led j hj hne).1
        omega
      · rw [hL j hj] at hne he; rw [hL j' hj'] at he; exact h.inj j j' hj hj' hne he
  · by_cases e1 : i = r
    · exact ⟨k, by omega, by rw [hk, e1]⟩
    · obtain ⟨j, hj, he⟩ := h.sur i (by omega)
      exact ⟨j, by omega, by rw [hL j hj]; exact he⟩
theorem GI.right {c : Nat} (h : GI p n (c + 1) M0 M c r L) {x : Nat → Int} (hx : SolM p n (c + 1) M0 x) (h1 : x c = -1) : ∀ i, r ≤ i → i < n → Cg p (M i c) 0 := fun i hi hn => by
  have := (h.sol x).2 hx i hn
  simp only [sm] at this
  have h0 : Cg p (sm c (fun j => M i j * x j)) 0 := sm_none fun j hj => by
    have := (h.low i hi hn j hj).mul (Cg.refl p (x j))
    rwa [Int.zero_mul] at this
  rw [h1] at this
  have h2 := (h0.sub this)
  exact (Cg.of (by omega)).trans h2
theorem GI.solves {c : Nat} (h : GI p n (c + 1) M0 M c r L) (hz : ∀ i, r ≤ i → i < n → Cg p (M i c) 0) {x : Nat → Int} (hx : ∀ j, j < c → Cg p (x j) (if L j = 0 then 0 else M (L j - 1) c)) (h1 : x c = -1) : SolM p n (c + 1) M0 x := by
  rw [← h.sol]
  intro i hi
  simp only [sm]
  rcases Nat.lt_or_ge i r with hr | hr
  · obtain ⟨q, hq, he⟩ := h.sur i hr
    have h0 : Cg p (sm c (fun j => M i j * x j)) (M i q * x q) := sm_one (fun j hj hne => by
      by_cases hl : L j = 0
      · have := (Cg.refl p (M i j)).mul (hx j hj)
        rw [if_pos hl, Int.mul_zero] at this; exact this
      · have h2 := (h.led j hj hl).2 i hi
        rw [if_neg (fun e => hne (h.inj j q hj hq hl (by omega)))] at h2
        have := h2.mul (Cg.refl p (x j))
        rw [Int.zero_mul] at this; exact this) hq
    have h2 := (h.led q hq (by omega)).2 i hi
    rw [if_pos he.symm] at h2
    have h3 := hx q hq
    rw [if_neg (by omega), he, Nat.add_sub_cancel] at h3
    have h4 := h0.trans (h2.mul h3)
    rw [h1]
    have h5 := h4.sub (Cg.refl p (M i c))
    exact (Cg.of (by omega)).trans (h5.trans (Cg.of (by omega)))
  · have h0 : Cg p (sm c (fun j => M i j * x j)) 0 := sm_none fun j hj => by
      have := (h.low i hr hi j hj).mul (Cg.refl p (x j))
      rwa [Int.zero_mul] at this
    rw [h1]
    have h5 := h0.sub (hz i hr hi)
    exact (Cg.of (by omega)).trans h5
end
end Go.Proofs.YtfcicopgdahmcaaGreatDoor.Alg
end

section
namespace Go.Proofs.YtfcicopgdahmcaaGreatDoor.Alg
set_option linter.unusedVariables false
theorem pv_snoc (c x : Int) : ∀ l : List Int, pv (l ++ [c]) x = pv l x + c * x ^ l.length
  | [] => by simp [pv]
  | a :: l => by
    simp only [List.cons_append, pv, List.length_cons]
    rw [pv_snoc c x l, Int.add_mul, Int.pow_succ, Int.mul_assoc]; omega
theorem pv_zeros (x : Int) : ∀ m, pv (List.replicate m 0) x = 0
  | 0 => rfl
  | m + 1 => by simp only [List.replicate_succ, pv, pv_zeros x m]; simp
def lin (a : Int) (E : List Int) : List Int := padd (0 :: E) (psc (-a) (E ++ [1]))
theorem lin_length (a : Int) (E : List Int) : (lin a E).length = E.length + 1 := by simp [lin, padd_length, psc_length]
theorem pv_lin (a x : Int) (E : List Int) : pv (lin a E ++ [1]) x = (x - a) * pv (E ++ [1]) x := by
  rw [pv_snoc, lin_length, lin, pv_padd, pv_psc]
  simp only [pv]
  rw [pv_snoc, Int.pow_succ, Int.sub_mul]
  generalize pv E x = u
  generalize x ^ E.length = v
  rw [Int.mul_add x u, Int.mul_comm x u, Int.one_mul, Int.neg_mul, Int.mul_comm x v]; omega
def loc (m : Nat) : List Int → List Int
  | [] => List.replicate m 0
  | a :: T => lin a (loc m T)
theorem loc_length (m : Nat) : ∀ T, (loc m T).length = m + T.length
  | [] => by simp [loc]
  | a :: T => by simp [loc, lin_length, loc_length m T]; omega
theorem loc_root (m : Nat) {x : Int} : ∀ {T : List Int}, x ∈ T → pv (loc m T ++ [1]) x = 0
  | a :: T, h => by
    rw [loc, pv_lin]
    rcases List.mem_cons.1 h with rfl | h
    · rw [Int.sub_self, Int.zero_mul]
    · rw [loc_root m h, Int.mul_zero]
def bad (p : Int) (f : List Int) (q : Int × Int) : Bool := decide ((pv f q.1 - q.2) % p ≠ 0)
theorem bad_false {p : Int} {f : List Int} {q : Int × Int} (h : bad p f q = false) : Cg p (pv f q.1) q.2 := by
  unfold bad at h
  have h : (pv f q.1 - q.2) % p = 0 := by simpa using h
  exact Cg.of_sub0 (Cg.dvd_iff.2 (Int.dvd_of_emod_eq_zero h))
theorem bad_true {p : Int} {f : List Int} {q : Int × Int} (h : bad p f q = true) : ¬ Cg p (pv f q.1) q.2 := fun hc => by
  unfold bad at h
  have h : (pv f q.1 - q.2) % p ≠ 0 := by simpa using h
  exact h (Int.emod_eq_zero_of_dvd (Cg.dvd_iff.1 hc.sub0))
def keyRow (k v : Nat) (q : Int × Int) (j : Nat) : Int := if j < k + v then q.1 ^ j else if j < k + v + v then -(q.2 * q.1 ^ (j - (k + v))) else q.2 * q.1 ^ v
def keySol (k v : Nat) (Q E : List Int) (j : Nat) : Int := if j < k + v then gd Q j else if j < k + v + v then gd E (j - (k + v)) else -1
theorem key_sum (k v : Nat) (Q E : List Int) (hQ : Q.length ≤ k + v) (hE : E.length = v) (q : Int × Int) :
    sm (k + v + v + 1) (fun j => keyRow k v q j * keySol k v Q E j) = pv Q q.1 - q.2 * pv (E ++ [1]) q.1 := by
  rw [sm, sm_split]
  have e1 : sm (k + v) (fun j => keyRow k v q j * keySol k v Q E j) = pv Q q.1 := by
    rw [pv_sm_le q.1 hQ]
    refine sm_eq fun j hj => ?_
    simp only [keyRow, keySol, if_pos hj]
    exact Int.mul_comm _ _
  have e2 : sm v (fun j => keyRow k v q (k + v + j) * keySol k v Q E (k + v + j)) = (-q.2) * pv E q.1 := by
    rw [pv_sm, hE, ← sm_mul]
    refine sm_eq fun j hj => ?_
    have h1 : ¬ (k + v + j < k + v) := by omega
    have h2 : k + v + j < k + v + v := by omega
    have h3 : k + v + j - (k + v) = j := by omega
    simp only [keyRow, keySol, if_neg h1, if_pos h2, h3]
    rw [Int.neg_mul, Int.neg_mul, Int.mul_comm (gd E j), Int.mul_assoc]
  have e3 : keyRow k v q (k + v + v) * keySol k v Q E (k + v + v) = -(q.2 * q.1 ^ v) := by
    have h1 : ¬ (k + v + v < k + v) := by omega
    have h2 : ¬ (k + v + v < k + v + v) := by omega
    simp only [keyRow, keySol, if_neg h1, if_neg h2]
    omega
  rw [e1, e2, e3, pv_snoc, hE, Int.one_mul, Int.mul_add, Int.neg_mul]; omega
section
variable {p : Int} {f : List Int} {K : List (Int × Int)} {k v : Nat}
theorem key_solvable (hf : f.length ≤ k) (hw : (K.filter (bad p f)).length ≤ v) :
    ∃ Q E : List Int, Q.length ≤ k + v ∧ E.length = v ∧ ∀ q ∈ K, Cg p (pv Q q.1 - q.2 * pv (E ++ [1]) q.1) 0 := by
  refine ⟨pmul f (loc (v - (K.filter (bad p f)).length) ((K.filter (bad p f)).map (·.1)) ++ [1]), loc (v - (K.filter (bad p f)).length) ((K.filter (bad p f)).map (·.1)), ?_, ?_, fun q hq => ?_⟩
  · have h1 := loc_length (v - (K.filter (bad p f)).length) ((K.filter (bad p f)).map (·.1))
    rw [List.length_map] at h1
    by_cases hf0 : f = []
    · subst hf0; simp [pmul]
    · have := pmul_length' (loc (v - (K.filter (bad p f)).length) ((K.filter (bad p f)).map (·.1)) ++ [1]) (by simp) f hf0
      simp only [List.length_append, List.length_cons, List.length_nil] at this
      omega
  · rw [loc_length, List.length_map]; omega
  · rw [pv_pmul]
    cases hb : bad p f q with
    | true =>
      rw [loc_root _ (List.mem_map.2 ⟨q, List.mem_filter.2 ⟨hq, hb⟩, rfl⟩)]
      simp; exact Cg.refl _ _
    | false =>
      have := ((bad_false hb).mul (Cg.refl p (pv (loc (v - (K.filter (bad p f)).length) ((K.filter (bad p f)).map (·.1)) ++ [1]) q.1))).sub0
      exact this
theorem filter_len {α : Type} (b : α → Bool) : ∀ l : List α, (l.filter b).length + (l.filter (fun x => !b x)).length = l.length
  | [] => rfl
  | a :: l => by
    have := filter_len b l
    cases h : b a <;> simp [h] <;> omega
theorem key_unique (hp : Pr p) (hf : f.length ≤ k) (hw : (K.filter (bad p f)).length ≤ v) (hK : k + 2 * v ≤ K.length) (ha : Apart p (K.map (·.1)))
    {Q E : List Int} (hQ : Q.length ≤ k + v) (hE : E.length = v) (hs : ∀ q ∈ K, Cg p (pv Q q.1 - q.2 * pv (E ++ [1]) q.1) 0) :
    Z0 p (padd Q (psc (-1) (pmul f (E ++ [1])))) := by
  have hlen := filter_len (bad p f) K
  have hpl : (pmul f (E ++ [1])).length ≤ k + v := by
    by_cases hf0 : f = []
    · subst hf0; simp [pmul]
    · have := pmul_length' (E ++ [1]) (by simp) f hf0
      simp only [List.length_append, List.length_cons, List.length_nil] at this
      omega
  refine roots hp _ ((K.filter (fun q => !bad p f q)).map (·.1)) ?_ ?_ fun x hx => ?_
  · rw [padd_length, psc_length, List.length_map]; omega
  · exact List.Pairwise.sublist (List.Sublist.map _ List.filter_sublist) ha
  · obtain ⟨q, hq, rfl⟩ := List.mem_map.1 hx
    obtain ⟨hq1, hq2⟩ := List.mem_filter.1 hq
    have hb : bad p f q = false := by simpa using hq2
    rw [pv_padd, pv_psc, pv_pmul]
    have h1 := hs q hq1
    have h2 := ((bad_false hb).mul (Cg.refl p (pv (E ++ [1]) q.1))).sub0
    have := h1.sub h2
    exact (Cg.of (by omega)).trans this
theorem quot_unique (hp : Pr p) (hf : f.length ≤ k) (hK : k + v ≤ K.length) (ha : Apart p (K.map (·.1)))
    {Q E g r : List Int} (hE : E.length = v) (hz : Z0 p (padd Q (psc (-1) (pmul f (E ++ [1])))))
    (hg : g.length ≤ k) (hr : r.length ≤ v) (hd : ∀ x, Cg p (pv Q x) (pv g x * pv (E ++ [1]) x + pv r x)) :
    Z0 p (padd f (psc (-1) g)) ∧ Z0 p r := by
  -- D = (f - g) E - r vanishes everywhere
  have hD : ∀ x, Cg p (pv (padd (pmul (padd f (psc (-1) g)) (E ++ [1])) (psc (-1) r)) x) 0 := fun x => by
    have h1 := (hd x)
    have h2 := hz.pv x
    rw [pv_padd, pv_psc, pv_pmul] at h2
    rw [pv_padd, pv_psc, pv_pmul, pv_padd, pv_psc, Int.add_mul, Int.mul_assoc]
    have h3 := h1.sub h2
    generalize pv f x * pv (E ++ [1]) x = A at *
    generalize pv g x * pv (E ++ [1]) x = B at *
    have h4 := h3.sub0
    exact (Cg.of (by omega)).trans h4
  have hpl : (pmul (padd f (psc (-1) g)) (E ++ [1])).length ≤ k + v := by
    by_cases hf0 : padd f (psc (-1) g) = []
    · rw [hf0]; simp [pmul]
    · have := pmul_length' (E ++ [1]) (by simp) _ hf0
      rw [padd_length, psc_length] at this
      simp only [List.length_append, List.length_cons, List.length_nil] at this
      omega
  have hZ : Z0 p (padd (pmul (padd f (psc (-1) g)) (E ++ [1])) (psc (-1) r)) := by
    refine roots hp _ (K.map (·.1)) ?_ ha fun x _ => hD x
    rw [padd_length, psc_length, List.length_map]; omega
  have h1 : Z0 p (padd f (psc (-1) g)) := monic_zero (E := E) _ fun i hi => by
    have := hZ i
    rw [gd_padd, gd_psc, gd_ge (l := r) (by omega)] at this
    simpa using this
  refine ⟨h1, fun i => ?_⟩
  have h2 := hZ i
  have h3 := Z0.pmul (m := E ++ [1]) h1 i
  rw [gd_padd, gd_psc] at h2
  have := h3.sub h2
  exact (Cg.of (by omega)).trans this
end
end Go.Proofs.YtfcicopgdahmcaaGreatDoor.Alg
end

section
namespace Go.Proofs.YtfcicopgdahmcaaGreatDoor
open Alg (Cg Pr)
def Fd (p : Int) : Prop := p = 2 ∨ p = 3 ∨ p = 5 ∨ p = 7 ∨ p = 11 ∨ p = 13 ∨ p = 17 ∨ p = 257 ∨ p = 65521
theorem Fd.rng {p : Int} (h : Fd p) : 2 ≤ p ∧ p ≤ 65521 := by unfold Fd at h; omega
theorem of_eq {p : Int} (h : Fd p) : residue_Of p = some (p, true) := by
  rcases h with rfl | rfl | rfl | rfl | rfl | rfl | rfl | rfl | rfl <;> kernel_rfl
theorem noDiv_of {n : Nat} (h : n < 65536) (hc : (List.range 256).all (fun d => decide (d < 2) || decide (n < d * d) || decide (n % d ≠ 0)) = true) : Alg.noDiv n := fun d h2 hd => by
  have hd2 : d < 256 := by
    rcases Nat.lt_or_ge d 256 with h3 | h3
    · exact h3
    · have := Nat.mul_le_mul h3 h3; omega
  have := List.all_eq_true.1 hc d (List.mem_range.2 hd2)
  simp only [Bool.or_eq_true, decide_eq_true_eq] at this
  omega
theorem Fd.pr {p : Int} (h : Fd p) : Pr p := by
  rcases h with rfl | rfl | rfl | rfl | rfl | rfl | rfl | rfl | rfl
  · exact Pr.of (n := 2) (by omega) (noDiv_of (by omega) (by kernel_rfl))
  · exact Pr.of (n := 3) (by omega) (noDiv_of (by omega) (by kernel_rfl))
  · exact Pr.of (n := 5) (by omega) (noDiv_of (by omega) (by kernel_rfl))
  · exact Pr.of (n := 7) (by omega) (noDiv_of (by omega) (by kernel_rfl))
  · exact Pr.of (n := 11) (by omega) (noDiv_of (by omega) (by kernel_rfl))
  · exact Pr.of (n := 13) (by omega) (noDiv_of (by omega) (by kernel_rfl))
  · exact Pr.of (n := 17) (by omega) (noDiv_of (by omega) (by kernel_rfl))
  · exact Pr.of (n := 257) (by omega) (noDiv_of (by omega) (by kernel_rfl))
  · exact Pr.of (n := 65521) (by omega) (noDiv_of (by omega) (by kernel_rfl))
def E1 (p a : Int) : Prop := 0 ≤ a ∧ a < p
instance (p a : Int) : Decidable (E1 p a) := inferInstanceAs (Decidable (0 ≤ a ∧ a < p))
def El (p : Int) (l : List Int) : Prop := ∀ x ∈ l, E1 p x
instance (p : Int) (l : List Int) : Decidable (El p l) := inferInstanceAs (Decidable (∀ x ∈ l, E1 p x))
theorem El.nil {p : Int} : El p [] := fun x h => by cases h
theorem El.cons {p a : Int} {l : List Int} : El p (a :: l) ↔ E1 p a ∧ El p l := by unfold El; simp
theorem El.app {p : Int} {l m : List Int} (h : El p l) (h2 : El p m) : El p (l ++ m) := fun x hx => (List.mem_append.1 hx).elim (h x) (h2 x)
theorem E1.emod {p : Int} (hp : 2 ≤ p) (a : Int) : E1 p (a % p) := ⟨Int.emod_nonneg _ (by omega), Int.emod_lt_of_pos _ (by omega)⟩
theorem El.gd {p : Int} (hp : 2 ≤ p) {l : List Int} (h : El p l) (i : Nat) : E1 p (Alg.gd l i) := by
  rcases Nat.lt_or_ge i l.length with hi | hi
  · exact h _ (Alg.gd_mem hi)
  · rw [Alg.gd_ge hi]; exact ⟨by omega, by omega⟩
section
variable {p : Int} (hp : 2 ≤ p ∧ p ≤ 65521)
include hp
theorem nzp : nz p = some () := by unfold nz; rw [if_neg (by omega)]
theorem prod_lt {a b : Int} (ha : E1 p a) (hb : E1 p b) : 0 ≤ a * b ∧ a * b ≤ 4293001441 := by
  refine ⟨Int.mul_nonneg ha.1 hb.1, ?_⟩
  have h1 : a * b ≤ 65521 * b := Int.mul_le_mul_of_nonneg_right (by have := ha.2; omega) hb.1
  have := hb.2
  omega
theorem mul_eq {a b : Int} (ha : E1 p a) (hb : E1 p b) : residue_Field_Mul p a b = some (a * b % p) := by
  unfold residue_Field_Mul
  obtain ⟨h1, h2⟩ := prod_lt hp ha hb
  rw [nzp hp, Option.bind_some, w64_id (by omega) (by omega), Int.tmod_eq_emod_of_nonneg h1]
theorem add_eq {a b : Int} (ha : E1 p a) (hb : E1 p b) : residue_Field_Add p a b = some ((a + b) % p) := by
  unfold residue_Field_Add
  obtain ⟨a1, a2⟩ := ha; obtain ⟨b1, b2⟩ := hb
  rw [nzp hp, Option.bind_some, w64_id (by omega) (by omega), Int.tmod_eq_emod_of_nonneg (by omega)]
theorem sub_eq {a b : Int} (ha : E1 p a) (hb : E1 p b) : residue_Field_Sub p a b = some ((a - b) % p) := by
  unfold residue_Field_Sub
  obtain ⟨a1, a2⟩ := ha; obtain ⟨b1, b2⟩ := hb
  rw [nzp hp, Option.bind_some, w64_id (x := a - b) (by omega) (by omega), w64_id (by omega) (by omega), Int.tmod_eq_emod_of_nonneg (by omega), Int.add_emod_right]
end
theorem find_L (f : Int → Option Bool) (P : Int → Prop) [DecidablePred P] (hf : ∀ x, f x = some (decide (P x))) : ∀ (l : List Int) (i : Nat), ∃ r : Int, slices_IndexFunc_Lintint_L1 f l i = some r ∧ (0 ≤ r ↔ ∃ x ∈ l, P x)
  | [], i => ⟨-1, rfl, by simp⟩
  | x :: l, i => by
    rw [slices_IndexFunc_Lintint_L1]
    unfold slices_IndexFunc_Lintint_B1
    rw [hf, Option.bind_some]
    by_cases h : P x
    · rw [if_pos (decide_eq_true h)]
      exact ⟨_, rfl, fun _ => ⟨x, List.mem_cons_self, h⟩, fun _ => by omega⟩
    · rw [if_neg (by simpa using h)]
      obtain ⟨r, h1, h2⟩ := find_L f P hf l (i + 1)
      refine ⟨r, h1, h2.trans ⟨fun ⟨y, hy, hP⟩ => ⟨y, List.mem_cons_of_mem _ hy, hP⟩, fun ⟨y, hy, hP⟩ => ?_⟩⟩
      rcases List.mem_cons.1 hy with rfl | hy
      · exact absurd hP h
      · exact ⟨y, hy, hP⟩
theorem all_eq (p : Int) (l : List Int) : residue_Field_All p l = some (decide (El p l)) := by
  unfold residue_Field_All slices_ContainsFunc_Lintint slices_IndexFunc_Lintint
  obtain ⟨r, h1, h2⟩ := find_L (fun y0 => residue_Field_All_f1 y0 p) (fun x => ¬ E1 p x) (fun x => by
    unfold residue_Field_All_f1 residue_Field_Has
    simp only [Option.bind_some]
    congr 1
    by_cases h : E1 p x
    · have h' : 0 ≤ x ∧ x < p := h
      simp [h, h']
    · have h' : ¬ (0 ≤ x ∧ x < p) := h
      simp only [h', h, decide_false, Bool.not_false, not_false_eq_true, decide_true]) l 0
  rw [h1]
  simp only [Option.bind_some]
  congr 1
  by_cases h : El p l
  · have : ¬ 0 ≤ r := fun h0 => by obtain ⟨x, hx, hn⟩ := h2.1 h0; exact hn (h x hx)
    simp [h, this]
  · have : 0 ≤ r := h2.2 (by
      unfold El at h
      simp only [Classical.not_forall] at h
      obtain ⟨x, hx, hn⟩ := h; exact ⟨x, hx, hn⟩)
    simp [h, this]
def at_ (p x : Int) (t l : List Int) : List Int := List.zipWith (fun a b => (a + x * b % p) % p) t l
theorem at_len {p x : Int} {t l : List Int} (h : t.length = l.length) : (at_ p x t l).length = t.length := by simp [at_, h]
theorem at_el {p x : Int} (hp : 2 ≤ p) (t l : List Int) : El p (at_ p x t l) := fun y hy => by
  unfold at_ at hy
  obtain ⟨i, hi, rfl⟩ := List.getElem_of_mem hy
  rw [List.getElem_zipWith]
  exact E1.emod hp _
theorem at_gd {p x : Int} {t l : List Int} (h : t.length = l.length) (i : Nat) : Cg p (Alg.gd (at_ p x t l) i) (Alg.gd t i + x * Alg.gd l i) := by
  rcases Nat.lt_or_ge i t.length with hi | hi
  · have hi2 : i < l.length := by omega
    have e : Alg.gd (at_ p x t l) i = (t[i] + x * l[i] % p) % p := by
      simp [Alg.gd, at_, List.getD_eq_getElem?_getD, List.getElem?_zipWith, hi, hi2]
    rw [e, show Alg.gd t i = t[i] by simp [Alg.gd, List.getD_eq_getElem?_getD, hi], show Alg.gd l i = l[i] by simp [Alg.gd, List.getD_eq_getElem?_getD, hi2]]
    exact (Cg.emod p _).trans ((Cg.refl p _).add (Cg.emod p _))
  · rw [Alg.gd_ge (l := at_ p x t l) (by rw [at_len h]; exact hi), Alg.gd_ge hi, Alg.gd_ge (by omega : l.length ≤ i)]
    exact Cg.of (by simp)
theorem at_L {p x : Int} (hp : 2 ≤ p ∧ p ≤ 65521) (hx : E1 p x) {l : List Int} (hl : El p l) {t : List Int} (ht : El p t) (h : t.length = l.length) : ∀ (xs : List Int) (i : Nat), l.drop i = xs →
    residue_Field_AddTimes_L1 p x xs i ((at_ p x t l).take i ++ t.drop i) = some (at_ p x t l)
  | [], i, hd => by
    have hi : l.length ≤ i := by have := congrArg List.length hd; simp at this; omega
    rw [residue_Field_AddTimes_L1, List.take_of_length_le (by rw [at_len h]; omega), List.drop_of_length_le (by omega), List.append_nil]
  | y :: xs, i, hd => by
    have hi : i < l.length := by
      rcases Nat.lt_or_ge i l.length with h2 | h2
      · exact h2
      · rw [List.drop_of_length_le h2] at hd; cases hd
    have hy : y = l[i] := by
      have := List.drop_eq_getElem_cons hi
      rw [hd] at this; exact (List.cons.inj this).1
    have hit : i < t.length := by omega
    have hA : (at_ p x t l).length = t.length := at_len h
    have el : ((at_ p x t l).take i ++ t.drop i).length = t.length := by simp [hA]; omega
    have eg : ((at_ p x t l).take i ++ t.drop i).getD i 0 = t[i] := by
      rw [List.getD_eq_getElem?_getD, List.getElem?_append_right (by rw [List.length_take]; omega), List.length_take, hA, Nat.min_eq_left (by omega), Nat.sub_self, List.getElem?_drop]
      simp [hit]
    rw [residue_Field_AddTimes_L1]
    unfold residue_Field_AddTimes_B1
    rw [lidx_nat 0 (by rw [el]; exact hit), eg]
    simp only [Option.bind_some]
    rw [hy, mul_eq hp hx (hl _ (List.getElem_mem hi))]
    simp only [Option.bind_some]
    rw [add_eq hp (ht _ (List.getElem_mem hit)) (E1.emod hp.1 _)]
    simp only [Option.bind_some]
    rw [lupd_ok (by omega) (by rw [el]; omega)]
    simp only [Option.bind_some, Int.toNat_natCast]
    have es : ((at_ p x t l).take i ++ t.drop i).set i ((t[i] + x * l[i] % p) % p) = (at_ p x t l).take (i + 1) ++ t.drop (i + 1) := by
      rw [List.set_append_right _ _ (by simp; omega), List.length_take, hA, Nat.min_eq_left (by omega), Nat.sub_self, List.drop_eq_getElem_cons hit, List.set_cons_zero, List.take_succ_eq_append_getElem (by rw [hA]; exact hit), List.append_assoc]
      simp [at_]
    rw [es]
    exact at_L hp hx hl ht h xs (i + 1) (by rw [← List.drop_drop, hd]; rfl)
theorem at_eq {p x : Int} (hp : 2 ≤ p ∧ p ≤ 65521) (hx : E1 p x) {l : List Int} (hl : El p l) {t : List Int} (ht : El p t) (h : t.length = l.length) : residue_Field_AddTimes p t x l = some (at_ p x t l) := by
  have := at_L hp hx hl ht h l 0 rfl
  unfold residue_Field_AddTimes
  simpa using this
theorem El.ext {p : Int} (hp : 2 ≤ p) {l m : List Int} (hl : El p l) (hm : El p m) (h : l.length = m.length) (hc : ∀ i, i < l.length → Cg p (Alg.gd l i) (Alg.gd m i)) : l = m := by
  refine List.ext_getElem h fun i h1 h2 => ?_
  have := hc i h1
  rw [show Alg.gd l i = l[i] by simp [Alg.gd, List.getD_eq_getElem?_getD, h1], show Alg.gd m i = m[i] by simp [Alg.gd, List.getD_eq_getElem?_getD, h2]] at this
  have a := hl _ (List.getElem_mem h1); have b := hm _ (List.getElem_mem h2)
  exact this.eq a.1 a.2 b.1 b.2
def Rw (p : Int) (w : Nat) (R : List (List Int)) : Prop := ∀ r ∈ R, r.length = w ∧ El p r
theorem Rw.cons {p : Int} {w : Nat} {r : List Int} {R : List (List Int)} : Rw p w (r :: R) ↔ (r.length = w ∧ El p r) ∧ Rw p w R := by unfold Rw; simp
def gr (R : List (List Int)) (i : Nat) : List Int := R.getD i []
def comb (p : Int) : List Int → List (List Int) → List Int → List Int
  | _, [], t => t
  | c, r :: R, t => comb p c.tail R (at_ p (Alg.gd c 0) t r)
theorem comb_ok {p : Int} (hp : 2 ≤ p) {w : Nat} : ∀ (R : List (List Int)) (c t : List Int), Rw p w R → t.length = w → El p t →
    (comb p c R t).length = w ∧ El p (comb p c R t) ∧ ∀ j, Cg p (Alg.gd (comb p c R t) j) (Alg.gd t j + Alg.sm R.length (fun i => Alg.gd c i * Alg.gd (gr R i) j))
  | [], c, t, _, h2, h3 => ⟨h2, h3, fun j => Cg.of (by simp [comb, Alg.sm])⟩
  | r :: R, c, t, h1, h2, h3 => by
    obtain ⟨⟨a, b⟩, h1⟩ := Rw.cons.1 h1
    obtain ⟨i1, i2, i3⟩ := comb_ok hp (w := w) R c.tail (at_ p (Alg.gd c 0) t r) h1 (by rw [at_len (by omega)]; exact h2) (at_el hp _ _)
    refine ⟨i1, i2, fun j => (i3 j).trans ?_⟩
    have e := Alg.sm_split (fun i => Alg.gd c i * Alg.gd (gr (r :: R) i) j) 1 R.length
    rw [show (r :: R).length = 1 + R.length by simp; omega, e]
    have e2 : Alg.sm 1 (fun i => Alg.gd c i * Alg.gd (gr (r :: R) i) j) = Alg.gd c 0 * Alg.gd r j := by simp [Alg.sm, gr]
    have e3 : (fun i => Alg.gd c (1 + i) * Alg.gd (gr (r :: R) (1 + i)) j) = fun i => Alg.gd c.tail i * Alg.gd (gr R i) j := by
      funext i
      have e4 : Alg.gd c (1 + i) = Alg.gd c.tail i := by cases c <;> simp [Alg.gd, Nat.add_comm]
      rw [e4, Nat.add_comm]; rfl
    rw [e2, e3, ← Int.add_assoc]
    exact (at_gd (by omega) j).add (Cg.refl p _)
theorem combine_L1 {p : Int} (hp : 2 ≤ p ∧ p ≤ 65521) {w : Nat} {c : List Int} (hc : El p c) : ∀ (xs : List (List Int)) (i : Nat) (t : List Int), Rw p w xs → i + xs.length = c.length → t.length = w → El p t →
    vector_Combine_L1 c p xs i t = some (comb p (c.drop i) xs t, 0)
  | [], i, t, _, _, _, _ => rfl
  | r :: xs, i, t, h1, h2, h3, h4 => by
    obtain ⟨⟨a, b⟩, h1⟩ := Rw.cons.1 h1
    simp only [List.length_cons] at h2
    rw [vector_Combine_L1]
    unfold vector_Combine_B1
    rw [lidx_nat 0 (by omega)]
    simp only [Option.bind_some]
    have hci : E1 p (c.getD i 0) := El.gd hp.1 hc i
    rw [at_eq hp hci b h4 (by omega)]
    simp only [Option.bind_some]
    rw [combine_L1 hp hc xs (i + 1) _ h1 (by omega) (by rw [at_len (by omega)]; exact h3) (at_el hp.1 _ _)]
    have e1 : (c.drop i).tail = c.drop (i + 1) := by simp
    have e2 : Alg.gd (c.drop i) 0 = c.getD i 0 := by simp [Alg.gd, List.getD_eq_getElem?_getD]
    rw [comb, e1, e2]
theorem combine_L3 {p : Int} {w : Nat} (kx : Bool → Int → Option (List Int × Int)) (z : Int) : ∀ (xs : List (List Int)) (v : Bool), Rw p w xs → vector_Combine_L3 kx (w : Int) p z xs v = kx v z
  | [], v, _ => rfl
  | r :: xs, v, h => by
    obtain ⟨⟨a, b⟩, h⟩ := Rw.cons.1 h
    rw [vector_Combine_L3]
    unfold vector_Combine_B3
    rw [if_neg (by omega), all_eq]
    simp only [Option.bind_some]
    rw [show (if v = true then some (decide (El p r)) else some false) = some v by cases v <;> simp [b], Option.bind_some]
    exact combine_L3 kx z xs v h
theorem zeros_el {p : Int} (hp : 2 ≤ p) (n : Nat) : El p (List.replicate n 0) := fun x hx => by rw [(List.mem_replicate.1 hx).2]; exact ⟨by omega, by omega⟩
theorem gd_zeros (n i : Nat) : Alg.gd (List.replicate n 0) i = 0 := by
  rcases Nat.lt_or_ge i n with h | h
  · simp [Alg.gd, List.getD_eq_getElem?_getD, h]
  · exact Alg.gd_ge (by simpa using h)
theorem lmk_ok {α : Type} {n : Nat} (x : α) (h : n ≤ 16777216) : lmk (n : Int) x = some (List.replicate n x) := by unfold lmk; rw [if_pos ⟨by omega, by omega⟩]; simp
theorem answer_ok {p : Int} (hf : Fd p) {w : Nat} (hw : w ≤ 64) {R : List (List Int)} (hR : Rw p w R) {c : List Int} (hc : El p c) (hl : c.length = R.length) :
    ∃ a, parity_Answer p (w : Int) R c = some (a, 0) ∧ a.length = w ∧ El p a ∧ ∀ j, Cg p (Alg.gd a j) (Alg.sm R.length (fun i => Alg.gd c i * Alg.gd (gr R i) j)) := by
  have hp := hf.rng
  obtain ⟨h1, h2, h3⟩ := comb_ok hp.1 (w := w) R c (List.replicate w 0) hR (by simp) (zeros_el hp.1 w)
  refine ⟨comb p c R (List.replicate w 0), ?_, h1, h2, fun j => by have := h3 j; rwa [gd_zeros, Int.zero_add] at this⟩
  unfold parity_Answer vector_Combine
  rw [of_eq hf]
  simp only [Option.bind_some]
  rw [if_neg (by simp), if_neg (by omega), if_neg (by omega), all_eq]
  simp only [Option.bind_some]
  rw [combine_L3 _ _ R _ hR]
  unfold vector_Combine_J2
  rw [if_neg (by simp [hc]), lmk_ok _ (by omega)]
  simp only [Option.bind_some]
  rw [combine_L1 hp hc R 0 _ hR (by omega) (by simp) (zeros_el hp.1 w)]
  rfl
end Go.Proofs.YtfcicopgdahmcaaGreatDoor
end

section
namespace Go.Proofs.YtfcicopgdahmcaaGreatDoor
open Alg (Cg Pr)
theorem fmod_big {x n : Int} (hn : 1 ≤ n) (hn2 : n ≤ 4294967296) : make_Mod x n = some (x % n) := by
  unfold make_Mod
  rw [nz_ok (by omega)]
  simp only [Option.bind_some]
  have h1 := Int.lt_tmod_of_pos x (by omega : 0 < n)
  have h2 := Int.tmod_lt_of_pos x (by omega : 0 < n)
  rw [w64_id (by omega) (by omega), Int.tmod_eq_emod_of_nonneg (by omega), Int.add_emod_right]
  congr 1
  have h3 := Int.tmod_add_mul_tdiv x n
  have h4 : x.tmod n = x - n * x.tdiv n := by omega
  rw [h4, Int.sub_mul_emod_self_left]
theorem fnext_big {l : List Int} (hl : l.length ≤ 1000) {d : List Int × Int} (hd : Dk l d) {n : Int} (hn : 1 ≤ n ∧ n ≤ 4294967296) : ∃ v e, make_Deck_Next d n = some (v, e) ∧ 0 ≤ v ∧ v < n ∧ Dk l e := by
  obtain ⟨d1, d2⟩ := d
  obtain ⟨rfl, h1, h2⟩ := hd
  dsimp only at h1 h2 hl
  unfold make_Deck_Next
  split
  · exact ⟨0, (d1, d2), rfl, by omega, by omega, rfl, h1, h2⟩
  · rename_i h
    dsimp only at h ⊢
    rw [lidx_ok 0 (by omega) (by omega)]
    simp only [Option.bind_some]
    rw [fmod_big hn.1 hn.2]
    simp only [Option.bind_some]
    refine ⟨_, _, rfl, Int.emod_nonneg _ (by omega), Int.emod_lt_of_pos _ (by omega), rfl, ?_⟩
    dsimp only
    rw [w64_id (by omega) (by omega)]; omega
theorem elements_L {l : List Int} (hl : l.length ≤ 1000) {p : Int} (hp : 2 ≤ p ∧ p ≤ 65521) {n : Nat} (hn : n ≤ 1000) : ∀ (f : Nat) (acc : List Int) (q : Int), acc.length ≤ n → n - acc.length < f → El p acc → Dk l (l, q) →
    ∃ v e, make_Elements_L1 (n : Int) p f acc (acc.length : Int) l q = some (v, e) ∧ v.length = n ∧ El p v ∧ Dk l e
  | 0, acc, q, _, h, _, _ => by omega
  | f + 1, acc, q, h1, h2, h3, h4 => by
    rw [make_Elements_L1]
    unfold make_Elements_B1
    by_cases h : acc.length < n
    · rw [if_pos (by omega)]
      obtain ⟨v, e, e1, a, b, c⟩ := next_ok hl h4 (n := p) (by omega)
      rw [e1]
      simp only [Option.bind_some]
      rw [lapp_ok (by simp; omega)]
      simp only [Option.bind_some]
      rw [w64_id (by omega) (by omega), show (acc.length : Int) + 1 = ((acc ++ [v]).length : Int) by simp]
      obtain ⟨e1, e2⟩ := e
      obtain ⟨rfl, c2⟩ := c
      exact elements_L hl hp hn f (acc ++ [v]) e2 (by simp; omega) (by simp; omega) (h3.app (El.cons.2 ⟨⟨a, b⟩, El.nil⟩)) ⟨rfl, c2⟩
    · rw [if_neg (by omega)]
      exact ⟨acc, _, rfl, by omega, h3, h4⟩
theorem elements_ok {l : List Int} (hl : l.length ≤ 1000) {d : List Int × Int} (hd : Dk l d) {p : Int} (hp : 2 ≤ p ∧ p ≤ 65521) {n : Nat} (hn : n ≤ 1000) : ∃ v e, make_Elements d p (n : Int) = some (v, e) ∧ v.length = n ∧ El p v ∧ Dk l e := by
  obtain ⟨d1, d2⟩ := d
  obtain ⟨rfl, h⟩ := hd
  exact elements_L hl hp hn big [] d2 (by simp) (by simp [big]; omega) El.nil ⟨rfl, h⟩
theorem rows_L {l : List Int} (hl : l.length ≤ 1000) {p : Int} (hp : 2 ≤ p ∧ p ≤ 65521) {n w : Nat} (hn : n ≤ 1000) (hw : w ≤ 1000) : ∀ (f : Nat) (acc : List (List Int)) (q : Int), acc.length ≤ n → n - acc.length < f → Rw p w acc → Dk l (l, q) →
    ∃ R e, make_Rows_L1 (w : Int) (n : Int) p f acc (acc.length : Int) l q = some (R, e) ∧ R.length = n ∧ Rw p w R ∧ Dk l e
  | 0, acc, q, _, h, _, _ => by omega
  | f + 1, acc, q, h1, h2, h3, h4 => by
    rw [make_Rows_L1]
    unfold make_Rows_B1
    by_cases h : acc.length < n
    · rw [if_pos (by omega)]
      obtain ⟨v, e, e1, a, b, c⟩ := elements_ok hl h4 hp hw
      rw [e1]
      simp only [Option.bind_some]
      rw [lapp_ok (by simp; omega)]
      simp only [Option.bind_some]
      rw [w64_id (by omega) (by omega), show (acc.length : Int) + 1 = ((acc ++ [v]).length : Int) by simp]
      obtain ⟨e1, e2⟩ := e
      obtain ⟨rfl, c2⟩ := c
      exact rows_L hl hp hn hw f (acc ++ [v]) e2 (by simp; omega) (by simp; omega) (fun r hr => by
        rcases List.mem_append.1 hr with hr | hr
        · exact h3 r hr
        · rw [List.mem_singleton.1 hr]; exact ⟨a, b⟩) ⟨rfl, c2⟩
    · rw [if_neg (by omega)]
      exact ⟨acc, _, rfl, by omega, h3, h4⟩
theorem mrows_ok {l : List Int} (hl : l.length ≤ 1000) {d : List Int × Int} (hd : Dk l d) {p : Int} (hp : 2 ≤ p ∧ p ≤ 65521) {n w : Nat} (hn : n ≤ 1000) (hw : w ≤ 1000) : ∃ R e, make_Rows d p (n : Int) (w : Int) = some (R, e) ∧ R.length = n ∧ Rw p w R ∧ Dk l e := by
  obtain ⟨d1, d2⟩ := d
  obtain ⟨rfl, h⟩ := hd
  exact rows_L hl hp hn hw big [] d2 (by simp) (by simp [big]; omega) (fun r hr => by cases hr) ⟨rfl, h⟩
theorem seed_L4 (kx : Int → Option ((List Int × Int) × Int)) {p : Int} (hp : 2 ≤ p ∧ p ≤ 65521) : ∀ m : Nat, ref02_Seeded_L4 kx (List.replicate m p) = kx 0
  | 0 => rfl
  | m + 1 => by
    rw [List.replicate_succ, ref02_Seeded_L4]
    unfold ref02_Seeded_B4
    rw [if_neg (by omega)]
    exact seed_L4 kx hp m
theorem seed_L2 {p : Int} (hp : 2 ≤ p ∧ p ≤ 65521) (z : Int) : ∀ (m : Nat) (v : Int) (acc : List Int), 0 ≤ v ∧ v ≤ 2147483647 → acc.length + m ≤ 100000 → El p acc →
    ∃ T, ref02_Seeded_L2 ref02_Seeded_J1 z (List.replicate m p) v acc = some ((T, 0), 0) ∧ T.length = acc.length + m ∧ El p T
  | 0, v, acc, _, _, h => ⟨acc, rfl, rfl, h⟩
  | m + 1, v, acc, h1, h2, h3 => by
    rw [List.replicate_succ, ref02_Seeded_L2]
    unfold ref02_Seeded_B2
    rw [nzp hp, Option.bind_some, lapp_ok (by simp; omega), Option.bind_some]
    rw [w64_id (x := v * 48271) (by omega) (by omega), Int.tmod_eq_emod_of_nonneg (by omega : 0 ≤ v * 48271)]
    have h4 := Int.emod_nonneg (v * 48271) (by omega : (2147483647 : Int) ≠ 0)
    have h5 := Int.emod_lt_of_pos (v * 48271) (by omega : (0 : Int) < 2147483647)
    rw [Int.tmod_eq_emod_of_nonneg h4]
    obtain ⟨T, e, a, b⟩ := seed_L2 hp z m (v * 48271 % 2147483647) (acc ++ [v * 48271 % 2147483647 % p]) (by omega) (by simp; omega) (h3.app (El.cons.2 ⟨E1.emod hp.1 _, El.nil⟩))
    exact ⟨T, e, by rw [a]; simp; omega, b⟩
theorem seed_ok {l : List Int} (hl : l.length ≤ 1000) {d : List Int × Int} (hd : Dk l d) {p : Int} (hp : 2 ≤ p ∧ p ≤ 65521) {m : Nat} (hm : m ≤ 16384) : ∃ T e, make_Seed d (List.replicate m p) = some ((T, 0), e) ∧ T.length = m ∧ El p T ∧ Dk l e := by
  obtain ⟨v, e, h1, h2, h3, h4⟩ := fnext_big hl hd (n := 2147483646) (by omega)
  unfold make_Seed
  rw [h1]
  simp only [Option.bind_some]
  rw [w64_id (by omega) (by omega)]
  unfold ref02_Seeded
  rw [if_neg (by omega), if_neg (by simp; omega), seed_L4 _ hp]
  unfold ref02_Seeded_J3
  obtain ⟨T, e1, a, b⟩ := seed_L2 hp 0 m (1 + v) [] (by omega) (by simp; omega) El.nil
  rw [e1]
  exact ⟨T, e, rfl, by simpa using a, b, h4⟩
theorem pcheck_ok {p : Int} (hf : Fd p) {n s : Int} (hn : 1 ≤ n ∧ n ≤ 1024) (hs : 2 ≤ s ∧ s ≤ 10) : parity_check p n s = some 0 := by
  unfold parity_check
  rw [of_eq hf]
  simp only [Option.bind_some]
  rw [if_neg (by simp), if_neg (by omega)]
theorem limits_L {p : Int} {m : Nat} (hm : m ≤ 100000) : ∀ (f c : Nat), c ≤ m → m - c < f → parity_Limits_L1 (m : Int) p f (List.replicate c p) (c : Int) = some (List.replicate m p, 0)
  | 0, c, _, h => by omega
  | f + 1, c, h1, h2 => by
    rw [parity_Limits_L1]
    unfold parity_Limits_B1
    by_cases h : c < m
    · rw [if_pos (by omega), lapp_ok (by simp; omega), Option.bind_some, w64_id (by omega) (by omega), show (c : Int) + 1 = ((c + 1 : Nat) : Int) by omega, show List.replicate c p ++ [p] = List.replicate (c + 1) p by rw [List.replicate_succ']]
      exact limits_L hm f (c + 1) (by omega) (by omega)
    · rw [if_neg (by omega), show c = m by omega]
theorem limits_eq {p : Int} (hf : Fd p) {n s : Nat} (hn : 1 ≤ n ∧ n ≤ 1024) (hs : 2 ≤ s ∧ s ≤ 10) : parity_Limits p (n : Int) (s : Int) = some (List.replicate (n * (s - 1)) p, 0) := by
  unfold parity_Limits
  rw [pcheck_ok hf (by omega) (by omega)]
  simp only [Option.bind_some]
  have h1 : n * (s - 1) ≤ 1024 * 9 := Nat.mul_le_mul hn.2 (by omega)
  rw [if_neg (by simp), w64_id (x := (s : Int) - 1) (by omega) (by omega), show ((s : Int) - 1) = ((s - 1 : Nat) : Int) by omega, show (n : Int) * ((s - 1 : Nat) : Int) = ((n * (s - 1) : Nat) : Int) by simp, w64_id (by omega) (by omega)]
  exact limits_L (by omega) big 0 (by omega) (by simp only [big]; omega)
theorem draw_L {p : Int} {T : List Int} (hT : El p T) {n at0 : Nat} (h : at0 + n ≤ T.length) (hl : T.length ≤ 16384) : ∀ (f c : Nat), c ≤ n → n - c < f →
    tape_drawing_draw_L1 p (n : Int) T f (c : Int) ((at0 + c : Nat) : Int) ((T.drop at0).take c) = some (0, ((at0 + n : Nat) : Int), (T.drop at0).take n)
  | 0, c, _, h2 => by omega
  | f + 1, c, h1, h2 => by
    rw [tape_drawing_draw_L1]
    unfold tape_drawing_draw_B1
    by_cases hc : c < n
    · rw [if_pos (by omega)]
      unfold tape_position_next
      dsimp only
      have hx : E1 p (T.getD (at0 + c) 0) := hT _ (by rw [List.getD_eq_getElem?_getD]; simp [show at0 + c < T.length by omega])
      rw [if_neg (by omega), lidx_nat 0 (by omega)]
      simp only [Option.bind_some]
      rw [if_neg (by have := hx.1; have := hx.2; omega)]
      simp only [Option.bind_some]
      rw [if_neg (by simp), lapp_ok (by simp; omega)]
      simp only [Option.bind_some]
      rw [w64_id (x := (c : Int) + 1) (by omega) (by omega), w64_id (by omega) (by omega), show (c : Int) + 1 = ((c + 1 : Nat) : Int) by omega, show ((at0 + c : Nat) : Int) + 1 = ((at0 + (c + 1) : Nat) : Int) by omega]
      have e : (T.drop at0).take c ++ [T.getD (at0 + c) 0] = (T.drop at0).take (c + 1) := by
        rw [List.take_add_one, List.getElem?_drop, List.getD_eq_getElem?_getD]
        simp [show at0 + c < T.length by omega]
      rw [e]
      exact draw_L hT h hl f (c + 1) (by omega) (by omega)
    · rw [if_neg (by omega), show c = n by omega]
theorem draws_ok {p : Int} (hp : 2 ≤ p ∧ p ≤ 65521) {T : List Int} (hT : El p T) {n at0 : Nat} (h : at0 + n ≤ T.length) (hl : T.length ≤ 16384) : tape_Draws (T, (at0 : Int)) p (n : Int) = some ((T, ((at0 + n : Nat) : Int)), (T.drop at0).take n, 0) := by
  unfold tape_Draws tape_valid tape_limit
  simp only [Option.bind_some]
  rw [if_neg (by simp; omega), if_neg (by simp; omega)]
  unfold tape_drawing_draw
  dsimp only
  have := draw_L hT h hl big 0 (by omega) (by simp only [big]; omega)
  rw [show (((at0 + 0 : Nat)) : Int) = (at0 : Int) by simp, List.take_zero] at this
  rw [show (0 : Int) = ((0 : Nat) : Int) from rfl, this]
  simp only [Option.bind_some]
  rw [if_neg (by simp)]
  unfold slices_Clone_Lintint
  rw [lapp_ok (by simp; omega)]
  rfl
def sumr (p : Int) : List (List Int) → List Int → List Int
  | [], t => t
  | r :: R, t => sumr p R (at_ p 1 t r)
theorem sumr_ok {p : Int} (hp : 2 ≤ p) {w : Nat} : ∀ (R : List (List Int)) (t : List Int), Rw p w R → t.length = w → El p t →
    (sumr p R t).length = w ∧ El p (sumr p R t) ∧ ∀ j, Cg p (Alg.gd (sumr p R t) j) (Alg.gd t j + Alg.sm R.length (fun i => Alg.gd (gr R i) j))
  | [], t, _, h2, h3 => ⟨h2, h3, fun j => Cg.of (by simp [sumr, Alg.sm])⟩
  | r :: R, t, h1, h2, h3 => by
    obtain ⟨⟨a, b⟩, h1⟩ := Rw.cons.1 h1
    obtain ⟨i1, i2, i3⟩ := sumr_ok hp (w := w) R (at_ p 1 t r) h1 (by rw [at_len (by omega)]; exact h2) (at_el hp _ _)
    refine ⟨i1, i2, fun j => (i3 j).trans ?_⟩
    have e := Alg.sm_split (fun i => Alg.gd (gr (r :: R) i) j) 1 R.length
    rw [show (r :: R).length = 1 + R.length by simp; omega, e]
    have e2 : Alg.sm 1 (fun i => Alg.gd (gr (r :: R) i) j) = Alg.gd r j := by simp [Alg.sm, gr]
    have e3 : (fun i => Alg.gd (gr (r :: R) (1 + i)) j) = fun i => Alg.gd (gr R i) j := by
      funext i; rw [Nat.add_comm]; rfl
    rw [e2, e3, ← Int.add_assoc]
    have := (at_gd (p := p) (x := 1) (t := t) (l := r) (by omega) j)
    rw [Int.one_mul] at this
    exact this.add (Cg.refl p _)
theorem each_eq : ∀ L : List (List Int), parity_each L = some L := fun L => by
  have h : ∀ L : List (List Int), parity_each_f1_L1 L = some L := fun L => by
    induction L with
    | nil => rfl
    | cons x xs ih => rw [parity_each_f1_L1]; unfold parity_each_f1_B1; rw [ih]; rfl
  unfold parity_each parity_each_f1
  rw [h]; rfl
theorem sum_L {p : Int} (hp : 2 ≤ p ∧ p ≤ 65521) {w : Nat} : ∀ (R : List (List Int)) (t : List Int), Rw p w R → t.length = w → El p t → parity_sum_L2 parity_sum_J1 p R t = some (sumr p R t)
  | [], t, _, _, _ => rfl
  | r :: R, t, h1, h2, h3 => by
    obtain ⟨⟨a, b⟩, h1⟩ := Rw.cons.1 h1
    rw [parity_sum_L2]
    unfold parity_sum_B2
    rw [at_eq hp ⟨by omega, by omega⟩ b h3 (by omega), Option.bind_some]
    exact sum_L hp R _ h1 (by rw [at_len (by omega)]; exact h2) (at_el hp.1 _ _)
theorem sum_eq {p : Int} (hp : 2 ≤ p ∧ p ≤ 65521) {w : Nat} (hw : w ≤ 100000) {R : List (List Int)} (hR : Rw p w R) : parity_sum p (w : Int) R = some (sumr p R (List.replicate w 0)) := by
  unfold parity_sum
  rw [lmk_ok _ (by omega), Option.bind_some]
  exact sum_L hp R _ hR (by simp) (zeros_el hp.1 w)
theorem unit_eq {p : Int} (hf : Fd p) {n i : Nat} (hn : n ≤ 1024) (hi : i < n) : vector_Unit p (n : Int) (i : Int) = some ((List.replicate n 0).set i 1, 0) := by
  unfold vector_Unit
  rw [of_eq hf]
  simp only [Option.bind_some]
  rw [if_neg (by simp), if_neg (by omega), if_neg (by omega), lmk_ok _ (by omega)]
  simp only [Option.bind_some]
  rw [lidx_nat 0 (by simpa using hi)]
  simp only [Option.bind_some]
  rw [lupd_ok (by omega) (by simp; omega)]
  simp
theorem unit_gd {n i j : Nat} (hi : i < n) : Alg.gd ((List.replicate n (0 : Int)).set i 1) j = if j = i then 1 else 0 := by
  unfold Alg.gd
  rw [List.getD_eq_getElem?_getD, List.getElem?_set]
  by_cases h : i = j
  · subst h; simp [hi]
  · rw [if_neg h, if_neg (Ne.symm h)]
    have := gd_zeros n j
    unfold Alg.gd at this
    rwa [List.getD_eq_getElem?_getD] at this
structure Qs (p : Int) (n s idx : Nat) (qs : List (List Int)) : Prop where
  len : qs.length = s
  rw : Rw p n qs
  sum : ∀ i, Cg p (Alg.sm s (fun k => Alg.gd (gr qs k) i)) (if i = idx then 1 else 0)
theorem pq_L {p : Int} (hp : 2 ≤ p ∧ p ≤ 65521) {T : List Int} (hT : El p T) (hl : T.length ≤ 16384) {n s : Nat} (h : T.length = n * s) (hs : s ≤ 10) (kx : List (List Int) → Int → List Int → Int → Int → Option (List (List Int) × (List Int × Int) × Int)) : ∀ (f c : Nat) (acc : List (List Int)), c ≤ s → s - c < f → acc.length = c → Rw p n acc →
    ∃ L q, parity_Queries_L2 kx (n : Int) (s : Int) p f acc (c : Int) T ((n * c : Nat) : Int) = kx L 0 T q p ∧ L.length = s ∧ Rw p n L
  | 0, c, _, _, h2, _, _ => by omega
  | f + 1, c, acc, h1, h2, h3, h4 => by
    rw [parity_Queries_L2]
    unfold parity_Queries_B2
    by_cases hc : c < s
    · have hb : n * c + n ≤ T.length := by rw [h, ← Nat.mul_succ]; exact Nat.mul_le_mul_left _ hc
      rw [if_pos (by omega), draws_ok hp hT (n := n) (at0 := n * c) hb hl]
      simp only [Option.bind_some]
      rw [if_neg (by simp), lapp_ok (by simp; omega)]
      simp only [Option.bind_some]
      rw [w64_id (by omega) (by omega), show (c : Int) + 1 = ((c + 1 : Nat) : Int) by omega, show n * c + n = n * (c + 1) from rfl]
      exact pq_L hp hT hl h hs kx f (c + 1) _ (by omega) (by omega) (by simp; omega) (fun r hr => by
        rcases List.mem_append.1 hr with hr | hr
        · exact h4 r hr
        · rw [List.mem_singleton.1 hr]
          exact ⟨by simp; omega, fun x hx => hT x (List.mem_of_mem_drop (List.mem_of_mem_take hx))⟩)
    · rw [if_neg (by omega)]
      exact ⟨acc, _, rfl, by omega, h4⟩
theorem queries_ok {p : Int} (hf : Fd p) {n s idx : Nat} (hn : 1 ≤ n ∧ n ≤ 1024) (hs : 2 ≤ s ∧ s ≤ 10) (hi : idx < n) {T : List Int} (hT : El p T) (hl : T.length = n * (s - 1)) :
    ∃ qs t, parity_Queries p (n : Int) (s : Int) (idx : Int) (T, 0) = some (qs, t, 0) ∧ Qs p n s idx qs := by
  have hp := hf.rng
  unfold parity_Queries
  rw [pcheck_ok hf (by omega) (by omega)]
  simp only [Option.bind_some]
  have hl2 : n * (s - 1) ≤ 1024 * 9 := Nat.mul_le_mul hn.2 (by omega)
  rw [if_neg (by simp), if_neg (by omega), w64_id (x := (s : Int) - 1) (by omega) (by omega), show (s : Int) - 1 = ((s - 1 : Nat) : Int) by omega]
  obtain ⟨L, q, e, h1, h2⟩ := pq_L hp hT (by omega) hl (by omega) (parity_Queries_J1 (n : Int) (idx : Int)) big 0 [] (by omega) (by simp only [big]; omega) rfl (fun r hr => by cases hr)
  rw [show ((n * 0 : Nat) : Int) = 0 by simp] at e
  rw [show ((0 : Nat) : Int) = 0 from rfl] at e
  rw [e]
  unfold parity_Queries_J1
  rw [unit_eq hf hn.2 hi]
  simp only [Option.bind_some]
  rw [each_eq]
  simp only [Option.bind_some]
  rw [sum_eq hp (by omega) h2]
  simp only [Option.bind_some]
  obtain ⟨s1, s2, s3⟩ := sumr_ok hp.1 L (List.replicate n 0) h2 (by simp) (zeros_el hp.1 n)
  have hu : El p ((List.replicate n 0).set idx 1) := fun x hx => by
    rcases List.mem_or_eq_of_mem_set hx with hx | rfl
    · exact zeros_el hp.1 n x hx
    · exact ⟨by omega, by omega⟩
  rw [w64_id (x := p - 1) (by omega) (by omega), at_eq hp ⟨by omega, by omega⟩ s2 hu (by simp [s1])]
  simp only [Option.bind_some]
  rw [lapp_ok (by simp; omega)]
  refine ⟨_, _, rfl, by simp; omega, fun r hr => ?_, fun i => ?_⟩
  · rcases List.mem_append.1 hr with hr | hr
    · exact h2 r hr
    · rw [List.mem_singleton.1 hr]
      exact ⟨by rw [at_len (by simp [s1])]; simp, at_el hp.1 _ _⟩
  · have e1 := Alg.sm_split (fun k => Alg.gd (gr (L ++ [at_ p (p - 1) ((List.replicate n 0).set idx 1) (sumr p L (List.replicate n 0))]) k) i) (s - 1) 1
    rw [show s - 1 + 1 = s by omega] at e1
    rw [e1]
    have e2 : Alg.sm (s - 1) (fun k => Alg.gd (gr (L ++ [at_ p (p - 1) ((List.replicate n 0).set idx 1) (sumr p L (List.replicate n 0))]) k) i) = Alg.sm L.length (fun k => Alg.gd (gr L k) i) := by
      rw [h1]
      refine Alg.sm_eq fun k hk => ?_
      unfold gr
      rw [List.getD_eq_getElem?_getD, List.getD_eq_getElem?_getD, List.getElem?_append_left (by omega)]
    have e3 : Alg.sm 1 (fun j => Alg.gd (gr (L ++ [at_ p (p - 1) ((List.replicate n 0).set idx 1) (sumr p L (List.replicate n 0))]) (s - 1 + j)) i) = Alg.gd (at_ p (p - 1) ((List.replicate n 0).set idx 1) (sumr p L (List.replicate n 0))) i := by
      simp only [Alg.sm, gr, Nat.add_zero, Int.zero_add]
      rw [List.getD_eq_getElem?_getD, List.getElem?_append_right (by omega), h1, Nat.sub_self]; rfl
    rw [e2, e3]
    have e4 := at_gd (p := p) (x := p - 1) (t := (List.replicate n 0).set idx 1) (l := sumr p L (List.replicate n 0)) (by simp [s1]) i
    have e5 := s3 i
    rw [gd_zeros, Int.zero_add] at e5
    rw [unit_gd hi] at e4
    have e6 := (e5.symm.add e4)
    refine e6.trans ?_
    generalize Alg.gd (sumr p L (List.replicate n 0)) i = S
    exact ⟨S, by rw [Int.sub_mul]; omega⟩
theorem sm_swap (f : Nat → Nat → Int) (b : Nat) : ∀ a, Alg.sm a (fun k => Alg.sm b (fun i => f k i)) = Alg.sm b (fun i => Alg.sm a (fun k => f k i))
  | 0 => by simp [Alg.sm, Alg.sm_zero]
  | a + 1 => by
    have := sm_swap f b a
    simp only [Alg.sm]
    rw [this, Alg.sm_add]
theorem sm_mul_right (c : Int) (f : Nat → Int) (n : Nat) : Alg.sm n (fun i => f i * c) = Alg.sm n f * c := by
  rw [Int.mul_comm, ← Alg.sm_mul]
  exact Alg.sm_eq fun i _ => Int.mul_comm _ _
structure Ans (p : Int) (w : Nat) (R qs As : List (List Int)) : Prop where
  len : As.length = qs.length
  rw : Rw p w As
  ans : ∀ k, k < qs.length → parity_Answer p (w : Int) R (gr qs k) = some (gr As k, 0)
  sum : ∀ k, k < qs.length → ∀ j, Cg p (Alg.gd (gr As k) j) (Alg.sm R.length (fun i => Alg.gd (gr qs k) i * Alg.gd (gr R i) j))
theorem ans_ok {p : Int} (hf : Fd p) {w : Nat} (hw : w ≤ 64) {R : List (List Int)} (hR : Rw p w R) : ∀ {qs : List (List Int)}, Rw p R.length qs → ∃ As, Ans p w R qs As
  | [], _ => ⟨[], { len := rfl, rw := (fun r hr => by cases hr), ans := fun k hk => absurd hk (by simp), sum := fun k hk => absurd hk (by simp) }⟩
  | q :: qs, h => by
    obtain ⟨⟨a, b⟩, h⟩ := Rw.cons.1 h
    obtain ⟨As, hA⟩ := ans_ok hf hw hR h
    obtain ⟨x, x1, x2, x3, x4⟩ := answer_ok hf hw hR b a
    refine ⟨x :: As, { len := by simp [hA.len], rw := Rw.cons.2 ⟨⟨x2, x3⟩, hA.rw⟩, ans := fun k hk => ?_, sum := fun k hk j => ?_ }⟩
    · cases k with
      | zero => exact x1
      | succ k => exact hA.ans k (by simpa using hk)
    · cases k with
      | zero => exact x4 j
      | succ k => exact hA.sum k (by simpa using hk) j
theorem pdec_L {p : Int} {w : Nat} (kx : List (List Int) → Int → Option ((List Int × List Int) × Int)) (z : Int) : ∀ (As acc : List (List Int)), Rw p w As → acc.length + As.length ≤ 1000 →
    parity_Decode_L2 kx (w : Int) p z (As.map fun a => (true, a)) acc = kx (acc ++ As) z
  | [], acc, _, _ => by simp [parity_Decode_L2]
  | a :: As, acc, h, h2 => by
    obtain ⟨⟨b, c⟩, h⟩ := Rw.cons.1 h
    simp only [List.length_cons] at h2
    rw [List.map_cons, parity_Decode_L2]
    unfold parity_Decode_B2
    rw [if_neg (by simp), if_neg (by simp; omega), all_eq]
    simp only [Option.bind_some]
    rw [if_neg (by simp [c]), lapp_ok (by simp; omega), Option.bind_some, pdec_L kx z As _ h (by simp; omega)]
    simp
theorem pdec_ok {p : Int} (hf : Fd p) {w : Nat} (hw : w ≤ 64) {R qs As : List (List Int)} (hR : Rw p w R) {s idx : Nat} (hs : 2 ≤ s ∧ s ≤ 10) (hi : idx < R.length) (hq : Qs p R.length s idx qs) (hA : Ans p w R qs As) :
    parity_Decode p (w : Int) (As.map fun a => (true, a)) = some ((gr R idx, []), 0) := by
  have hp := hf.rng
  unfold parity_Decode
  rw [of_eq hf]
  simp only [Option.bind_some]
  have hl : As.length = s := hA.len.trans hq.len
  rw [if_neg (by simp), if_neg (by simp; omega), pdec_L _ _ As [] hA.rw (by simp; omega)]
  unfold parity_Decode_J1
  rw [each_eq]
  simp only [Option.bind_some, List.nil_append]
  rw [sum_eq hp (by omega) hA.rw]
  simp only [Option.bind_some]
  obtain ⟨s1, s2, s3⟩ := sumr_ok hp.1 As (List.replicate w 0) hA.rw (by simp) (zeros_el hp.1 w)
  have hr : gr R idx ∈ R := by
    have : gr R idx = R[idx] := by simp [gr, List.getD_eq_getElem?_getD, hi]
    rw [this]; exact List.getElem_mem hi
  obtain ⟨r1, r2⟩ := hR _ hr
  have e : sumr p As (List.replicate w 0) = gr R idx := El.ext hp.1 s2 r2 (by omega) fun j _ => by
    have h1 := s3 j
    rw [gd_zeros, Int.zero_add] at h1
    refine h1.trans ?_
    have h2 : Cg p (Alg.sm As.length (fun i => Alg.gd (gr As i) j)) (Alg.sm As.length (fun k => Alg.sm R.length (fun i => Alg.gd (gr qs k) i * Alg.gd (gr R i) j))) :=
      Alg.sm_congr fun k hk => hA.sum k (by rw [← hA.len]; exact hk) j
    refine h2.trans ?_
    rw [sm_swap (fun k i => Alg.gd (gr qs k) i * Alg.gd (gr R i) j)]
    have h3 : Cg p (Alg.sm R.length (fun i => Alg.sm As.length (fun k => Alg.gd (gr qs k) i * Alg.gd (gr R i) j))) (Alg.sm R.length (fun i => (if i = idx then 1 else 0) * Alg.gd (gr R i) j)) :=
      Alg.sm_congr fun i _ => by
        rw [sm_mul_right (Alg.gd (gr R i) j) (fun k => Alg.gd (gr qs k) i), hl]
        exact (hq.sum i).mul (Cg.refl p _)
    refine h3.trans ?_
    have h4 := Alg.sm_one (p := p) (f := fun i => (if i = idx then 1 else 0) * Alg.gd (gr R i) j) (q := idx) (n := R.length) (fun i _ h => Cg.of (by simp [h])) hi
    refine h4.trans (Cg.of (by simp))
  rw [e]
theorem same_L {l : List Int} : ∀ (xs : List Int) (i : Nat), l.drop i = xs → ref04_Same_L1 l xs i = some true
  | [], _, _ => rfl
  | x :: xs, i, h => by
    have hi : i < l.length := by
      rcases Nat.lt_or_ge i l.length with h2 | h2
      · exact h2
      · rw [List.drop_of_length_le h2] at h; cases h
    have hx : x = l.getD i 0 := by
      have := List.drop_eq_getElem_cons hi
      rw [h] at this
      rw [(List.cons.inj this).1]; simp [List.getD_eq_getElem?_getD, hi]
    rw [ref04_Same_L1]
    unfold ref04_Same_B1
    rw [lidx_nat 0 hi, Option.bind_some, if_neg (fun h2 => h2 hx)]
    exact same_L xs (i + 1) (by rw [← List.drop_drop, h]; rfl)
theorem same_refl (l : List Int) : ref04_Same l l = some true := by
  unfold ref04_Same
  rw [if_neg (by simp)]
  exact same_L l 0 rfl
end Go.Proofs.YtfcicopgdahmcaaGreatDoor
end

section
namespace Go.Proofs.YtfcicopgdahmcaaGreatDoor
open Alg (Cg Pr)
theorem andI_one (n : Nat) (h : n ≤ 1000) : andI .i64 (n : Int) 1 = ((n % 2 : Nat) : Int) := by
  have hb : (BitVec.ofInt 64 (n : Int) &&& BitVec.ofInt 64 1).toNat = n % 2 := by
    rw [BitVec.toNat_and]
    have e1 : (BitVec.ofInt 64 (n : Int)).toNat = n := by simp; omega
    have e2 : (BitVec.ofInt 64 (1 : Int)).toNat = 1 := by decide
    rw [e1, e2, Nat.and_one_is_mod]
  unfold andI
  show IntKind.i64.wrap (((BitVec.ofInt 64 (n : Int) &&& BitVec.ofInt 64 1).toNat : Nat) : Int) = _
  rw [hb]
  exact w64_id (by omega) (by omega)
theorem Cg.pow {p a b : Int} (h : Cg p a b) : ∀ n : Nat, Cg p (a ^ n) (b ^ n)
  | 0 => by rw [Int.pow_zero, Int.pow_zero]; exact Cg.refl p _
  | n + 1 => by rw [Int.pow_succ, Int.pow_succ]; exact (Cg.pow h n).mul h
theorem power_L {p : Int} (hp : 2 ≤ p ∧ p ≤ 65521) : ∀ (f : Nat) (a : Int) (n : Nat) (x : Int), n < f → n ≤ 1000 → E1 p a → E1 p x →
    ∃ r, residue_Field_Power_L2 p f a (n : Int) x = some r ∧ E1 p r ∧ Cg p r (x * a ^ n)
  | 0, a, n, x, h, _, _, _ => by omega
  | f + 1, a, n, x, h, h2, ha, hx => by
    rw [residue_Field_Power_L2]
    unfold residue_Field_Power_B2
    by_cases hn : 0 < n
    · rw [if_pos (by omega), andI_one n h2]
      have ed : (n : Int) / 2 = ((n / 2 : Nat) : Int) := by omega
      have hsq : Cg p (a * a % p) (a * a) := Cg.emod p _
      have key : ∀ y, E1 p y → Cg p (y * (a * a) ^ (n / 2)) (x * a ^ n) → ∃ r, (residue_Field_Power_J1 (residue_Field_Power_L2 p f) a (n : Int) p) y = some r ∧ E1 p r ∧ Cg p r (x * a ^ n) := fun y hy hc => by
        unfold residue_Field_Power_J1
        rw [mul_eq hp ha ha, Option.bind_some, ed]
        obtain ⟨r, h3, h4, h5⟩ := power_L hp f (a * a % p) (n / 2) y (by omega) (by omega) (E1.emod hp.1 _) hy
        exact ⟨r, h3, h4, h5.trans (((Cg.refl p y).mul (Cg.pow hsq _)).trans hc)⟩
      have hpw : (a * a) ^ (n / 2) = a ^ (2 * (n / 2)) := by rw [Int.pow_mul, Int.pow_succ, Int.pow_succ, Int.pow_zero, Int.one_mul]
      by_cases h1 : n % 2 = 1
      · rw [if_pos (by omega), mul_eq hp hx ha, Option.bind_some]
        refine key _ (E1.emod hp.1 _) (((Cg.emod p _).mul (Cg.refl p _)).trans (Cg.of ?_))
        rw [hpw, Int.mul_assoc, Int.mul_comm a, ← Int.pow_succ]
        congr 2; omega
      · rw [if_neg (by omega)]
        refine key _ hx (Cg.of ?_)
        rw [hpw]; congr 2; omega
    · rw [if_neg (by omega)]
      have : n = 0 := by omega
      subst this
      exact ⟨x, rfl, hx, Cg.of (by simp)⟩
theorem power_ok {p : Int} (hp : 2 ≤ p ∧ p ≤ 65521) {a : Int} (ha : E1 p a) {n : Nat} (hn : n ≤ 1000) : ∃ r, residue_Field_Power p a (n : Int) = some r ∧ E1 p r ∧ Cg p r (a ^ n) := by
  unfold residue_Field_Power
  obtain ⟨r, h1, h2, h3⟩ := power_L hp big a n 1 (by simp only [big]; omega) hn ha ⟨by omega, by omega⟩
  exact ⟨r, h1, h2, by rwa [Int.one_mul] at h3⟩
def ibk (L : List Int) : Nat → List (Int × Int)
  | 0 => []
  | n + 1 => ((n : Int), L.getD n 0) :: ibk L n
theorem ibk_L (L : List Int) (hL : L.length ≤ 100000) : ∀ (f m : Nat), m ≤ L.length → m < f → slices_Backward_Lintint_f1_L1 L f ((m : Int) - 1) = some (ibk L m)
  | 0, m, _, h => by omega
  | f + 1, m, h1, h2 => by
    show slices_Backward_Lintint_f1_B1 L (slices_Backward_Lintint_f1_L1 L f) _ = _
    unfold slices_Backward_Lintint_f1_B1
    cases m with
    | zero => rw [if_neg (by omega)]; rfl
    | succ m =>
      rw [if_pos (by omega), show ((m + 1 : Nat) : Int) - 1 = (m : Int) by omega, lidx_nat 0 (by omega), Option.bind_some, w64_id (by omega) (by omega), ibk_L L hL f m (by omega) (by omega)]
      rfl
theorem iback_eq (L : List Int) (hL : L.length ≤ 100000) : slices_Backward_Lintint L = some (ibk L L.length) := by
  unfold slices_Backward_Lintint slices_Backward_Lintint_f1
  rw [w64_id (by omega) (by omega), ibk_L L hL big L.length (Nat.le_refl _) (by simp only [big]; omega)]
  rfl
theorem value_L {p : Int} (hp : 2 ≤ p ∧ p ≤ 65521) {L : List Int} (hl : El p L) {x : Int} (hx : E1 p x) : ∀ (m : Nat) (v : Int), m ≤ L.length → E1 p v → Cg p v (Alg.pv (L.drop m) x) →
    ∃ r, residue_Field_Value_L2 residue_Field_Value_J1 p x (ibk L m) v = some r ∧ E1 p r ∧ Cg p r (Alg.pv L x)
  | 0, v, _, hv, hc => ⟨v, rfl, hv, by simpa using hc⟩
  | m + 1, v, h, hv, hc => by
    rw [ibk, residue_Field_Value_L2]
    unfold residue_Field_Value_B2
    rw [mul_eq hp hv hx, Option.bind_some]
    have he : E1 p (L.getD m 0) := El.gd hp.1 hl m
    rw [add_eq hp (E1.emod hp.1 _) he, Option.bind_some]
    refine value_L hp hl hx m _ (by omega) (E1.emod hp.1 _) ?_
    rw [List.drop_eq_getElem_cons (by omega : m < L.length), Alg.pv]
    have e : L.getD m 0 = L[m] := by simp [List.getD_eq_getElem?_getD, show m < L.length by omega]
    rw [e]
    refine (Cg.emod p _).trans ?_
    have h1 := ((Cg.emod p (v * x)).trans (hc.mul (Cg.refl p x))).add (Cg.refl p L[m])
    refine h1.trans (Cg.of ?_)
    omega
theorem value_ok {p : Int} (hp : 2 ≤ p ∧ p ≤ 65521) {L : List Int} (hl : El p L) (hL : L.length ≤ 100000) {x : Int} (hx : E1 p x) : ∃ r, residue_Field_Value p L x = some r ∧ E1 p r ∧ Cg p r (Alg.pv L x) := by
  unfold residue_Field_Value
  rw [iback_eq L hL, Option.bind_some]
  refine value_L hp hl hx L.length 0 (Nat.le_refl _) ⟨by omega, by omega⟩ ?_
  rw [List.drop_of_length_le (Nat.le_refl _)]; exact Cg.refl p _
theorem inv_L {p : Int} (hp : 2 ≤ p ∧ p ≤ 65521) (hpr : Pr p) {a : Int} : ∀ (f : Nat) (r s X Y sg : Int), s.toNat < f → 0 ≤ s → s < r → r ≤ p → (s = 0 → r < p) → 0 ≤ X → 0 ≤ Y → r * Y + s * X = p → (sg = 1 ∨ sg = -1) →
    Cg p r (a * (-sg * X)) → Cg p s (a * (sg * Y)) → ∃ b, residue_Field_Inverse_L1 p f r s (-sg * X) (sg * Y) = some b ∧ E1 p b ∧ Cg p (a * b) 1
  | 0, r, s, X, Y, sg, h, _, _, _, _, _, _, _, _, _, _ => by omega
  | f + 1, r, s, X, Y, sg, hf, h0, h1, h2, h3, hX, hY, hs, hsg, c1, c2 => by
    rw [residue_Field_Inverse_L1]
    unfold residue_Field_Inverse_B1
    have hr1 : 1 ≤ r := by omega
    have hsX : 0 ≤ s * X := Int.mul_nonneg h0 hX
    have hrY : 0 ≤ r * Y := Int.mul_nonneg (by omega) hY
    have hYp : Y ≤ p := by
      have : 1 * Y ≤ r * Y := Int.mul_le_mul_of_nonneg_right hr1 hY
      omega
    by_cases hs0 : s = 0
    · subst hs0
      rw [if_neg (by simp)]
      rw [nzp hp]
      simp only [Option.bind_some]
      have hr0 : r * Y = p := by omega
      have hrp := h3 rfl
      have hc : Cg p (r * Y) 0 := by rw [hr0]; exact ⟨1, by omega⟩
      have hr : r = 1 := by
        rcases hpr.dom hc with hc | hc
        · have := hc.small (by omega) hrp; omega
        · rcases Int.lt_or_le Y p with hlt | hge
          · have := hc.small hY hlt
            subst this; omega
          · have : Y = p := by omega
            subst this
            rcases Int.lt_or_le 1 r with h | h
            · have := Int.mul_le_mul_of_nonneg_right (show 2 ≤ r by omega) hY
              omega
            · omega
      subst hr
      have hm := Int.tmod_lt_of_pos (-sg * X) (by omega : 0 < p)
      have hm2 := Int.lt_tmod_of_pos (-sg * X) (by omega : 0 < p)
      rw [w64_id (by omega) (by omega), Int.tmod_eq_emod_of_nonneg (by omega), Int.add_emod_right]
      refine ⟨_, rfl, E1.emod hp.1 _, ?_⟩
      have h4 : Cg p ((-sg * X).tmod p % p) (-sg * X) := (Cg.emod p _).trans (Cg.tmod p _)
      exact ((Cg.refl p a).mul h4).trans c1.symm
    · rw [if_pos hs0]
      have hs1 : 1 ≤ s := by omega
      have hXp : X ≤ p := by
        have : 1 * X ≤ s * X := Int.mul_le_mul_of_nonneg_right hs1 hX
        omega
      rw [nz_ok hs0]
      simp only [Option.bind_some]
      have eq : Int.tdiv r s = r / s := Int.tdiv_eq_ediv_of_nonneg (by omega)
      have hq0 : 0 ≤ r / s := Int.ediv_nonneg (by omega) h0
      have hem := Int.emod_add_mul_ediv r s
      have hm0 := Int.emod_nonneg r hs0
      have hm1 := Int.emod_lt_of_pos r (by omega : 0 < s)
      have hqr : r / s ≤ r := Int.ediv_le_self _ (by omega)
      have hqY : 0 ≤ (r / s) * Y := Int.mul_nonneg hq0 hY
      -- the next ones
      have hsum : s * (X + (r / s) * Y) + (r % s) * Y = p := by
        have : r * Y = (r % s + s * (r / s)) * Y := by rw [hem]
        rw [Int.add_mul, Int.mul_assoc] at this
        rw [Int.mul_add]; omega
      have hnb : X + (r / s) * Y ≤ p := by
        have a1 : 1 * (X + (r / s) * Y) ≤ s * (X + (r / s) * Y) := Int.mul_le_mul_of_nonneg_right hs1 (by omega)
        have a2 : 0 ≤ (r % s) * Y := Int.mul_nonneg hm0 hY
        omega
      have hqs : s * (r / s) ≤ r := by omega
      have hqs0 : 0 ≤ s * (r / s) := Int.mul_nonneg h0 hq0
      rw [eq, w64_id (x := r / s) (by omega) (by omega), Int.mul_comm (r / s) s, w64_id (x := s * (r / s)) (by omega) (by omega), show r - s * (r / s) = r % s by omega, w64_id (x := r % s) (by omega) (by omega)]
      have e1 : (r / s) * (sg * Y) = sg * ((r / s) * Y) := by rw [← Int.mul_assoc, Int.mul_comm (r / s), Int.mul_assoc]
      have e2 : -sg * X - sg * ((r / s) * Y) = -sg * (X + (r / s) * Y) := by rw [Int.mul_add, Int.neg_mul, Int.neg_mul]; omega
      have hb1 : -9223372036854775808 ≤ sg * ((r / s) * Y) ∧ sg * ((r / s) * Y) ≤ 9223372036854775807 := by
        rcases hsg with rfl | rfl <;> omega
      have hb2 : -9223372036854775808 ≤ -sg * (X + (r / s) * Y) ∧ -sg * (X + (r / s) * Y) ≤ 9223372036854775807 := by
        rcases hsg with rfl | rfl <;> omega
      rw [e1, w64_id (x := sg * ((r / s) * Y)) hb1.1 hb1.2, e2, w64_id hb2.1 hb2.2]
      have e3 : sg * Y = - -sg * Y := by rw [Int.neg_neg]
      rw [e3]
      refine inv_L hp hpr f s (r % s) Y (X + (r / s) * Y) (-sg) (by omega) hm0 hm1 (by omega) (fun _ => by omega) hY (by omega) hsum (by omega) (by rw [← e3]; exact c2) ?_
      -- r % s is r - (r / s) s
      have h5 := c1.sub (c2.mul (Cg.refl p (r / s)))
      refine (Cg.of (by omega : r % s = r - s * (r / s))).trans (h5.trans (Cg.of ?_))
      rw [← e2, Int.mul_sub, ← e1, Int.mul_assoc a, Int.mul_comm (sg * Y)]
theorem inverse_ok {p : Int} (hf : Fd p) {a : Int} (ha : E1 p a) (h0 : a ≠ 0) : ∃ b, residue_Field_Inverse p a = some b ∧ E1 p b ∧ Cg p (a * b) 1 := by
  have hp := hf.rng
  obtain ⟨a1, a2⟩ := ha
  have := inv_L hp hf.pr (a := a) big p a 0 1 1 (by simp only [big]; omega) a1 a2 (by omega) (fun h => absurd h h0) (by omega) (by omega) (by omega) (Or.inl rfl) ⟨1, by simp⟩ (Cg.of (by simp))
  unfold residue_Field_Inverse
  simpa using this
theorem inv1_ok {p : Int} (hf : Fd p) : ∃ b, residue_Field_Inverse p 1 = some b ∧ E1 p b ∧ Cg p b 1 := by
  obtain ⟨b, h1, h2, h3⟩ := inverse_ok hf (a := 1) ⟨by omega, by have := hf.rng; omega⟩ (by omega)
  exact ⟨b, h1, h2, by rwa [Int.one_mul] at h3⟩
def tn : List Int → Nat
  | [] => 0
  | a :: l => if tn l = 0 then (if a = 0 then 0 else 1) else tn l + 1
theorem tn_le : ∀ l : List Int, tn l ≤ l.length
  | [] => Nat.le_refl _
  | a :: l => by
    have := tn_le l
    unfold tn; simp only [List.length_cons]; split
    · split <;> omega
    · omega
theorem tn_zero : ∀ (l : List Int) (i : Nat), tn l ≤ i → Alg.gd l i = 0
  | [], i, _ => rfl
  | a :: l, i, h => by
    unfold tn at h
    cases i with
    | zero =>
      split at h
      · split at h
        · rename_i h2; simpa [Alg.gd] using h2
        · omega
      · omega
    | succ i =>
      rw [Alg.gd_succ]
      refine tn_zero l i ?_
      split at h
      · omega
      · omega
theorem tn_last : ∀ l : List Int, 0 < tn l → Alg.gd l (tn l - 1) ≠ 0
  | [], h => by simp [tn] at h
  | a :: l, h => by
    have ih := tn_last l
    unfold tn at h ⊢
    split
    · rename_i h2
      rw [if_pos h2] at h
      split
      · rename_i h3; rw [if_pos h3] at h; omega
      · rename_i h3; simpa [Alg.gd] using h3
    · rename_i h2
      have : tn l + 1 - 1 = (tn l - 1) + 1 := by omega
      rw [this, Alg.gd_succ]
      exact ih (by omega)
theorem tn_snoc (l : List Int) {a : Int} (h : a ≠ 0) : tn (l ++ [a]) = l.length + 1 := by
  have h1 := tn_le (l ++ [a])
  have h2 : Alg.gd (l ++ [a]) l.length = a := by simp [Alg.gd, List.getD_eq_getElem?_getD]
  rcases Nat.lt_or_ge l.length (tn (l ++ [a])) with h3 | h3
  · simp at h1; omega
  · rw [tn_zero _ _ h3] at h2; exact absurd h2.symm h
def trim (l : List Int) : List Int := l.take (tn l)
theorem trim_len (l : List Int) : (trim l).length = tn l := by unfold trim; rw [List.length_take]; exact Nat.min_eq_left (tn_le l)
theorem trim_gd (l : List Int) (i : Nat) : Alg.gd (trim l) i = Alg.gd l i := by
  rcases Nat.lt_or_ge i (tn l) with h | h
  · simp [trim, Alg.gd, List.getD_eq_getElem?_getD, List.getElem?_take, h]
  · rw [tn_zero l i h, Alg.gd_ge (by rw [trim_len]; exact h)]
theorem trim_el {p : Int} {l : List Int} (h : El p l) : El p (trim l) := fun x hx => h x (List.mem_of_mem_take hx)
theorem trim_snoc (l : List Int) {a : Int} (h : a ≠ 0) : trim (l ++ [a]) = l ++ [a] := by
  unfold trim; rw [tn_snoc l h, List.take_of_length_le (by simp)]
theorem trimv_L {l : List Int} (hl : l.length ≤ 100000) (kx : Int → Option (List Int)) : ∀ (f m : Nat), tn l ≤ m → m ≤ l.length → m - tn l < f → residue_Trim_L2 kx l f (m : Int) = kx (tn l : Int)
  | 0, m, _, _, h => by omega
  | f + 1, m, h1, h2, h3 => by
    rw [residue_Trim_L2]
    unfold residue_Trim_B2
    by_cases h0 : 0 < m
    · rw [if_pos (by omega), w64_id (by omega) (by omega), show (m : Int) - 1 = ((m - 1 : Nat) : Int) by omega, lidx_nat 0 (by omega)]
      simp only [Option.bind_some]
      by_cases hm : m = tn l
      · have := tn_last l (by omega)
        rw [if_neg (by rw [hm]; unfold Alg.gd at this; simpa using this), hm]
      · have := tn_zero l (m - 1) (by omega)
        unfold Alg.gd at this
        rw [if_pos (by rw [this]; rfl)]
        exact trimv_L hl kx f (m - 1) (by omega) (by omega) (by omega)
    · have : m = 0 := by omega
      subst this
      have h4 : tn l = 0 := by omega
      rw [if_neg (by omega), h4]
      simp
theorem trim_eq {l : List Int} (hl : l.length ≤ 100000) : residue_Trim l = some (trim l) := by
  unfold residue_Trim
  rw [trimv_L hl _ big l.length (tn_le l) (Nat.le_refl _) (by simp only [big]; omega)]
  unfold residue_Trim_J1
  have := tn_le l
  unfold lsub
  rw [if_pos ⟨by omega, by omega, by omega⟩]
  simp [trim]
theorem trimp_L {l : List Int} (hl : l.length ≤ 100000) (kx : Int → Option ((Int × Int) × List Int)) : ∀ (f m : Nat), tn l ≤ m → m ≤ l.length → m - tn l < f → residue_Trim_p_L2 kx l f (m : Int) = kx (tn l : Int)
  | 0, m, _, _, h => by omega
  | f + 1, m, h1, h2, h3 => by
    rw [residue_Trim_p_L2]
    unfold residue_Trim_p_B2
    by_cases h0 : 0 < m
    · rw [if_pos (by omega), w64_id (by omega) (by omega), show (m : Int) - 1 = ((m - 1 : Nat) : Int) by omega, lidx_nat 0 (by omega)]
      simp only [Option.bind_some]
      by_cases hm : m = tn l
      · have := tn_last l (by omega)
        rw [if_neg (by rw [hm]; unfold Alg.gd at this; simpa using this), hm]
      · have := tn_zero l (m - 1) (by omega)
        unfold Alg.gd at this
        rw [if_pos (by rw [this]; rfl)]
        exact trimp_L hl kx f (m - 1) (by omega) (by omega) (by omega)
    · have : m = 0 := by omega
      subst this
      have h4 : tn l = 0 := by omega
      rw [if_neg (by omega), h4]
      simp
theorem trimp_eq {l : List Int} (hl : l.length ≤ 100000) : residue_Trim_p l = some ((0, (tn l : Int)), l) := by
  unfold residue_Trim_p
  rw [trimp_L hl _ big l.length (tn_le l) (Nat.le_refl _) (by simp only [big]; omega)]
  unfold residue_Trim_p_J1
  have := tn_le l
  unfold psub
  rw [if_pos ⟨by omega, by omega, by omega, by omega⟩]
  simp
theorem own_eq {l : List Int} (hl : l.length ≤ 100000) : poly_own l = some (trim l) := by
  have := tn_le l
  unfold poly_own
  rw [trim_eq hl, Option.bind_some, lapp_ok (by simp [trim_len]; omega)]
  simp
theorem open_L {p : Int} (kx : Bool → Int → Option (Int × Int)) (z : Int) : ∀ (L : List (List Int)), (∀ l ∈ L, El p l ∧ l.length ≤ 512) → poly_open_L2 kx p z L false = kx false z
  | [], _ => rfl
  | l :: L, h => by
    obtain ⟨⟨h1, h2⟩, h⟩ := List.forall_mem_cons.1 h
    rw [poly_open_L2]
    unfold poly_open_B2
    rw [all_eq, Option.bind_some, if_neg (by simp [h1]), decide_eq_false (by simp; omega)]
    exact open_L kx z L h
theorem open_ok {p : Int} (hf : Fd p) {L : List (List Int)} (h : ∀ l ∈ L, El p l ∧ l.length ≤ 512) : poly_open p L = some (p, 0) := by
  unfold poly_open
  rw [of_eq hf, Option.bind_some, if_neg (by simp), open_L _ _ L h]
  rfl
end Go.Proofs.YtfcicopgdahmcaaGreatDoor
end

section
namespace Go.Proofs.YtfcicopgdahmcaaGreatDoor
open Alg (Cg Pr)
theorem gget_gput {α β : Type} [DecidableEq α] (k : α) (v : β) (k' : α) : ∀ l : List (α × β), mget (mput l k v) k' = if k = k' then some v else mget l k'
  | [] => by simp [mput, mget]
  | (a, b) :: l => by
    have ih := gget_gput k v k' l
    by_cases h1 : a = k
    · subst h1
      simp only [mput, if_pos, mget]
      by_cases h2 : a = k'
      · simp [h2]
      · simp [h2]
    · simp only [mput, if_neg h1, mget]
      by_cases h2 : a = k'
      · subst h2; rw [if_pos rfl, if_pos rfl, if_neg (fun e => h1 e.symm)]
      · rw [if_neg h2, if_neg h2, ih]
theorem add_L {p x : Int} (hp : 2 ≤ p ∧ p ≤ 65521) (hx : E1 p x) : ∀ (xs : List Int) (i : Nat) (t : List Int), El p xs → El p t → i + xs.length ≤ t.length →
    ∃ r, residue_Field_AddTimes_L1 p x xs i t = some r ∧ El p r ∧ r.length = t.length
  | [], i, t, _, h, _ => ⟨t, rfl, h, rfl⟩
  | y :: xs, i, t, h1, h2, h3 => by
    obtain ⟨hy, h1⟩ := El.cons.1 h1
    simp only [List.length_cons] at h3
    rw [residue_Field_AddTimes_L1]
    unfold residue_Field_AddTimes_B1
    rw [lidx_nat 0 (by omega)]
    simp only [Option.bind_some]
    rw [mul_eq hp hx hy]
    simp only [Option.bind_some]
    rw [add_eq hp (show E1 p (t.getD i 0) from El.gd hp.1 h2 i) (E1.emod hp.1 _)]
    simp only [Option.bind_some]
    rw [lupd_ok (by omega) (by omega)]
    simp only [Option.bind_some]
    obtain ⟨r, a, b, c⟩ := add_L hp hx xs (i + 1) (t.set (i : Int).toNat ((t.getD i 0 + x * y % p) % p)) h1 (fun z hz => by
      rcases List.mem_or_eq_of_mem_set hz with hz | rfl
      · exact h2 z hz
      · exact E1.emod hp.1 _) (by simp; omega)
    exact ⟨r, a, b, by rw [c]; simp⟩
theorem add_ok {p x : Int} (hp : 2 ≤ p ∧ p ≤ 65521) (hx : E1 p x) {t l : List Int} (hl : El p l) (ht : El p t) (h : l.length ≤ t.length) :
    ∃ r, residue_Field_AddTimes p t x l = some r ∧ El p r ∧ r.length = t.length := by
  unfold residue_Field_AddTimes
  exact add_L hp hx l 0 t hl ht (by omega)
theorem cpy_el {p : Int} {l s : List Int} (hl : El p l) (hs : El p s) (i : Int) (n : Nat) : El p (lcpy l i n s) := fun z hz => by
  unfold lcpy at hz
  simp only [List.mem_append] at hz
  rcases hz with (hz | hz) | hz
  · exact hl z (List.mem_of_mem_take hz)
  · exact hs z (List.mem_of_mem_take hz)
  · exact hl z (List.mem_of_mem_drop hz)
theorem cpy_len {α : Type} {l s : List α} {i : Int} {n : Nat} (h0 : 0 ≤ i) (h : i.toNat + n ≤ l.length) : (lcpy l i n s).length = l.length := by
  unfold lcpy
  simp only [List.length_append, List.length_take, List.length_drop]
  omega
theorem times_L {p : Int} (hp : 2 ≤ p ∧ p ≤ 65521) {b : List Int} (hb : El p b) (hb1 : 1 ≤ b.length) : ∀ (xs : List Int) (i : Nat) (v : List Int), El p xs → El p v → i + xs.length + b.length ≤ v.length + 1 → v.length ≤ 1000 →
    ∃ r, poly_times_L1 p b xs i v = some r ∧ El p r ∧ r.length = v.length
  | [], i, v, _, h, _, _ => ⟨v, rfl, h, rfl⟩
  | x :: xs, i, v, h1, h2, h3, h4 => by
    obtain ⟨hx, h1⟩ := El.cons.1 h1
    simp only [List.length_cons] at h3
    rw [poly_times_L1]
    unfold poly_times_B1 psub
    rw [if_pos ⟨by omega, by omega, by omega, by omega⟩]
    simp only [Option.bind_some]
    rw [lsub_ok (by omega) (by omega) (by omega)]
    simp only [Option.bind_some]
    have hdl : ((v.drop (0 + (i : Int)).toNat).take (0 + ((v.length : Int) - 0) - (0 + (i : Int))).toNat).length = v.length - i := by
      rw [List.length_take, List.length_drop]; omega
    obtain ⟨r, a, c, d⟩ := add_ok hp hx (t := (v.drop (0 + (i : Int)).toNat).take (0 + ((v.length : Int) - 0) - (0 + (i : Int))).toNat) hb (fun z hz => h2 z (List.mem_of_mem_drop (List.mem_of_mem_take hz))) (by rw [hdl]; omega)
    rw [a]
    simp only [Option.bind_some]
    have hl : (lcpy v (0 + (i : Int)) ((v.drop (0 + (i : Int)).toNat).take (0 + ((v.length : Int) - 0) - (0 + (i : Int))).toNat).length r).length = v.length := cpy_len (by omega) (by rw [hdl]; omega)
    obtain ⟨r2, a2, c2, d2⟩ := times_L hp hb hb1 xs (i + 1) _ h1 (cpy_el h2 c (0 + (i : Int)) ((v.drop (0 + (i : Int)).toNat).take (0 + ((v.length : Int) - 0) - (0 + (i : Int))).toNat).length) (by rw [hl]; omega) (by rw [hl]; exact h4)
    exact ⟨r2, a2, c2, by rw [d2, hl]⟩
theorem times_ok {p : Int} (hp : 2 ≤ p ∧ p ≤ 65521) {a b : List Int} (ha : El p a) (hb : El p b) (ha1 : 1 ≤ a.length) (hb1 : 1 ≤ b.length) (h : a.length + b.length ≤ 1000) :
    ∃ r, poly_times p a b = some r ∧ El p r ∧ r.length = a.length + b.length - 1 := by
  unfold poly_times
  rw [w64_id (x := (a.length : Int) + b.length) (by omega) (by omega), w64_id (by omega) (by omega), show (a.length : Int) + b.length - 1 = ((a.length + b.length - 1 : Nat) : Int) by omega, lmk_ok _ (by omega), Option.bind_some]
  obtain ⟨r, e1, e2, e3⟩ := times_L hp hb hb1 a 0 (List.replicate (a.length + b.length - 1) 0) ha (zeros_el hp.1 _) (by simp; omega) (by simp; omega)
  exact ⟨r, e1, e2, by rw [e3]; simp⟩
theorem inv_any {p : Int} (hf : Fd p) {a : Int} (ha : E1 p a) : ∃ b, residue_Field_Inverse p a = some b ∧ E1 p b := by
  have hp := hf.rng
  by_cases h : a = 0
  · subst h
    refine ⟨0, ?_, by omega, by omega⟩
    unfold residue_Field_Inverse
    rw [show big = (big - 1) + 1 from rfl, residue_Field_Inverse_L1]
    unfold residue_Field_Inverse_B1
    rw [if_neg (by simp), nzp hp]
    simp only [Option.bind_some, Int.zero_tmod, Int.zero_add]
    rw [w64_id (by omega) (by omega), Int.tmod_self]
  · obtain ⟨b, h1, h2, _⟩ := inverse_ok hf ha h
    exact ⟨b, h1, h2⟩
theorem interp_L2 {p : Int} (hf : Fd p) {vs : List Int} (hvs : El p vs) (m : List (Int × Bool)) (z : Int) : ∀ (xs : List Int) (i : Nat) (P N : List Int), El p xs → El p P → El p N → N.length = i + 1 → P.length ≤ N.length → i + xs.length = vs.length → vs.length ≤ 400 →
    ∃ r, poly_Interpolate_L2 poly_Interpolate_J1 vs p m z xs i P N = some (r, 0)
  | [], i, P, N, _, hP, _, h1, h2, _, h4 => by
    rw [poly_Interpolate_L2]
    unfold poly_Interpolate_J1
    rw [own_eq (by omega)]
    exact ⟨_, rfl⟩
  | x :: xs, i, P, N, hxs, hP, hN, h1, h2, h3, h4 => by
    have hp := hf.rng
    obtain ⟨hx, hxs⟩ := El.cons.1 hxs
    simp only [List.length_cons] at h3
    rw [poly_Interpolate_L2]
    unfold poly_Interpolate_B2
    rw [lidx_nat 0 (by omega)]
    simp only [Option.bind_some]
    obtain ⟨a, a1, a2, _⟩ := value_ok hp hP (by omega) hx
    rw [a1, Option.bind_some, sub_eq hp (show E1 p (vs.getD i 0) from El.gd hp.1 hvs i) a2, Option.bind_some]
    obtain ⟨b, b1, b2, _⟩ := value_ok hp hN (by omega) hx
    rw [b1, Option.bind_some]
    obtain ⟨c, c1, c2⟩ := inv_any hf b2
    rw [c1, Option.bind_some, mul_eq hp (E1.emod hp.1 _) c2, Option.bind_some, lmk_ok _ (by omega), Option.bind_some, lsub_ok (by omega) (by simp) (by simp), Option.bind_some]
    have hdl : ((List.drop (0 : Int).toNat (List.replicate N.length (0 : Int))).take (((List.replicate N.length (0 : Int)).length : Int) - 0).toNat).length = N.length := by simp
    obtain ⟨r, r1, r2, r3⟩ := add_ok hp (x := ((vs.getD i 0 - a) % p * c) % p) (E1.emod hp.1 _) hN (cpy_el (zeros_el hp.1 N.length) hP 0 ((List.drop (0 : Int).toNat (List.replicate N.length (0 : Int))).take (((List.replicate N.length (0 : Int)).length : Int) - 0).toNat).length) (by rw [cpy_len (by omega) (by rw [hdl]; simp)]; simp)
    rw [r1, Option.bind_some]
    rw [cpy_len (by omega) (by rw [hdl]; simp)] at r3
    rw [sub_eq hp ⟨by omega, by omega⟩ hx, Option.bind_some]
    obtain ⟨t, t1, t2, t3⟩ := times_ok hp hN (b := [(0 - x) % p, 1]) (El.cons.2 ⟨E1.emod hp.1 _, El.cons.2 ⟨⟨by omega, by omega⟩, El.nil⟩⟩) (by omega) (by simp) (by simp; omega)
    rw [t1, Option.bind_some]
    simp only [List.length_replicate] at r3
    simp only [List.length_cons, List.length_nil] at t3
    exact interp_L2 hf hvs m z xs (i + 1) r t hxs r2 t2 (by omega) (by omega) (by omega) h4
theorem interp_L4 (kx : List (Int × Bool) → Int → Option (List Int × Int)) (z : Int) : ∀ (xs : List Int) (m : List (Int × Bool)), xs.Nodup → (∀ x ∈ xs, mget m x = none) → ∃ m', poly_Interpolate_L4 kx z xs m = kx m' z
  | [], m, _, _ => ⟨m, rfl⟩
  | x :: xs, m, h1, h2 => by
    obtain ⟨h3, h1⟩ := List.nodup_cons.1 h1
    rw [poly_Interpolate_L4]
    unfold poly_Interpolate_B4
    rw [h2 x List.mem_cons_self, if_neg (by simp)]
    refine interp_L4 kx z xs _ h1 fun y hy => ?_
    rw [gget_gput, if_neg (fun e => h3 (by rw [e]; exact hy))]
    exact h2 y (List.mem_cons_of_mem _ hy)
theorem interp_L6 (kx : List Int → List Int → Int → Option (List Int × Int)) (z : Int) : ∀ (l : List (Int × Int)) (a b : List Int), a.length + l.length ≤ 1000 → b.length = a.length → poly_Interpolate_L6 kx z l a b = kx (a ++ l.map (·.1)) (b ++ l.map (·.2)) z
  | [], a, b, _, _ => by simp [poly_Interpolate_L6]
  | x :: l, a, b, h1, h2 => by
    simp only [List.length_cons] at h1
    rw [poly_Interpolate_L6]
    unfold poly_Interpolate_B6
    rw [lapp_ok (by simp; omega), Option.bind_some, lapp_ok (by simp; omega), Option.bind_some, interp_L6 kx z l _ _ (by simp; omega) (by simp; omega)]
    simp
theorem interp_ok {p : Int} (hf : Fd p) {l : List (Int × Int)} (h1 : El p (l.map (·.1))) (h2 : El p (l.map (·.2))) (hl : l.length ≤ 400) (hn : (l.map (·.1)).Nodup) : ∃ r, poly_Interpolate p l = some (r, 0) := by
  unfold poly_Interpolate
  rw [interp_L6 _ _ l [] [] (by simp; omega) rfl]
  simp only [List.nil_append]
  unfold poly_Interpolate_J5
  rw [open_ok hf (by
    intro x hx
    simp only [List.mem_cons, List.not_mem_nil, or_false] at hx
    rcases hx with rfl | rfl
    · exact ⟨h1, by simp; omega⟩
    · exact ⟨h2, by simp; omega⟩)]
  simp only [Option.bind_some]
  rw [if_neg (by simp)]
  obtain ⟨m, hm⟩ := interp_L4 (poly_Interpolate_J3 (l.map (·.1)) (l.map (·.2)) p) p (l.map (·.1)) [] hn (fun _ _ => rfl)
  rw [hm]
  unfold poly_Interpolate_J3
  exact interp_L2 hf h2 m p (l.map (·.1)) 0 [] [1] h1 El.nil (El.cons.2 ⟨⟨by omega, by have := hf.rng; omega⟩, El.nil⟩) rfl (by simp) (by simp) (by simp; omega)
def kn : List (Int × Bool) → Nat → List (Int × Int)
  | [], _ => []
  | c :: l, i => if c.2 = true then ((i : Int) + 1, c.1) :: kn l (i + 1) else kn l (i + 1)
theorem kn_len : ∀ (l : List (Int × Bool)) (i : Nat), (kn l i).length ≤ l.length
  | [], _ => Nat.le_refl _
  | c :: l, i => by
    have := kn_len l (i + 1)
    unfold kn; split <;> simp only [List.length_cons] <;> omega
theorem kn_mem : ∀ (l : List (Int × Bool)) (i : Nat) (q : Int × Int), q ∈ kn l i → (i : Int) + 1 ≤ q.1 ∧ q.1 ≤ i + l.length
  | [], _, q, h => by cases h
  | c :: l, i, q, h => by
    have ih := kn_mem l (i + 1) q
    unfold kn at h
    simp only [List.length_cons]
    split at h
    · rcases List.mem_cons.1 h with rfl | h
      · simp only; omega
      · have := ih h; omega
    · have := ih h; omega
theorem kn_lt : ∀ (l : List (Int × Bool)) (i : Nat), ((kn l i).map (·.1)).Pairwise (· < ·)
  | [], _ => List.Pairwise.nil
  | c :: l, i => by
    have ih := kn_lt l (i + 1)
    unfold kn
    split
    · rw [List.map_cons]
      refine List.Pairwise.cons (fun x hx => ?_) ih
      obtain ⟨q, hq, rfl⟩ := List.mem_map.1 hx
      have := kn_mem l (i + 1) q hq
      omega
    · exact ih
theorem known_L : ∀ (l : List (Int × Bool)) (i : Nat), i + l.length ≤ 100000 → code_known_f1_L1 l i = some (kn l i)
  | [], i, _ => rfl
  | c :: l, i, h => by
    simp only [List.length_cons] at h
    have ih := known_L l (i + 1) (by omega)
    rw [code_known_f1_L1]
    unfold code_known_f1_B1 kn
    split
    · rw [ih, w64_id (by omega) (by omega)]; rfl
    · exact ih
theorem known_eq {l : List (Int × Bool)} (h : l.length ≤ 100000) : code_known l = some (kn l 0) := by
  unfold code_known code_known_f1
  rw [known_L l 0 (by omega)]; rfl
theorem cells_L {p : Int} (kx : Int → Option (Int × Int × Int)) : ∀ (K : List (Int × Int)) (n : Nat), n + K.length ≤ 100000 → El p (K.map (·.2)) → code_cells_L2 kx p K (n : Int) = kx ((n + K.length : Nat) : Int)
  | [], n, _, _ => by simp [code_cells_L2]
  | q :: K, n, h, hE => by
    rw [List.map_cons] at hE
    obtain ⟨h1, hE⟩ := El.cons.1 hE
    simp only [List.length_cons] at h
    rw [code_cells_L2]
    unfold code_cells_B2 residue_Field_Has
    simp only [Option.bind_some]
    rw [if_neg (by have := h1.1; have := h1.2; simp; omega), w64_id (by omega) (by omega), show (n : Int) + 1 = ((n + 1 : Nat) : Int) by omega, cells_L kx K (n + 1) (by omega) hE]
    congr 2; simp only [List.length_cons]; omega
theorem cells_ok {p : Int} (hf : Fd p) {l : List (Int × Bool)} (hl : l.length ≤ 32) (hlp : (l.length : Int) < p) (hE : El p ((kn l 0).map (·.2))) : code_cells p l = some (p, ((kn l 0).length : Int), 0) := by
  have := kn_len l 0
  unfold code_cells
  rw [of_eq hf]
  simp only [Option.bind_some]
  rw [if_neg (by simp), if_neg (by omega), known_eq (by omega), Option.bind_some]
  have := cells_L (p := p) (code_cells_J1 p) (kn l 0) 0 (by omega) hE
  rw [show (0 : Int) = ((0 : Nat) : Int) from rfl, this]
  unfold code_cells_J1
  simp
theorem firstC_L (k : Nat) : ∀ (K : List (Int × Int)) (acc : List (Int × Int)), acc.length ≤ k → acc.length + K.length ≤ 100000 → ∃ j, code_first_L2 code_first_J1 (k : Int) K acc = some (acc ++ K.take j)
  | [], acc, _, _ => ⟨0, by simp [code_first_L2, code_first_J1]⟩
  | q :: K, acc, h1, h2 => by
    simp only [List.length_cons] at h2
    rw [code_first_L2]
    unfold code_first_B2
    split
    · exact ⟨0, by simp [code_first_J1]⟩
    · rw [lapp_ok (by simp; omega), Option.bind_some]
      obtain ⟨j, hj⟩ := firstC_L k K (acc ++ [q]) (by simp; omega) (by simp; omega)
      exact ⟨j + 1, by rw [hj]; simp⟩
theorem fill_ok {p : Int} (hf : Fd p) {l : List (Int × Bool)} (hl : l.length ≤ 32) (hlp : (l.length : Int) < p) (hE : El p ((kn l 0).map (·.2))) {k : Nat} (hk : 1 ≤ k) (hk2 : k ≤ (kn l 0).length) : ∃ r, code_Fill p l (k : Int) = some (r, 0) := by
  have hkl := kn_len l 0
  unfold code_Fill
  rw [cells_ok hf hl hlp hE]
  simp only [Option.bind_some]
  rw [if_neg (by simp), if_neg (by omega), if_neg (by omega)]
  unfold code_first
  rw [known_eq (by omega), Option.bind_some]
  obtain ⟨j, hj⟩ := firstC_L k (kn l 0) [] (by simp) (by simp; omega)
  rw [hj, List.nil_append, Option.bind_some]
  have hsub : ∀ {f : Int × Int → Int}, El p ((kn l 0).map f) → El p (((kn l 0).take j).map f) := fun {f} h x hx => by
    obtain ⟨q, hq, rfl⟩ := List.mem_map.1 hx
    exact h _ (List.mem_map.2 ⟨q, List.mem_of_mem_take hq, rfl⟩)
  obtain ⟨r, hr⟩ := interp_ok hf (l := (kn l 0).take j) (hsub (fun x hx => by
    obtain ⟨q, hq, rfl⟩ := List.mem_map.1 hx
    have := kn_mem l 0 q hq
    exact ⟨by omega, by omega⟩)) (hsub hE) (by rw [List.length_take]; omega) (by
    have h1 := kn_lt l 0
    have h2 : (((kn l 0).take j).map (·.1)).Pairwise (· < ·) := List.Pairwise.sublist (List.Sublist.map _ (List.take_sublist _ _)) h1
    exact h2.imp (fun h => by omega))
  rw [hr]
  exact ⟨r, rfl⟩
theorem count_L : ∀ (l : List (Int × Bool)) (i n : Nat), n + l.length ≤ 100000 → unique_count_L1 l (n : Int) = some ((n + (kn l i).length : Nat) : Int)
  | [], i, n, _ => by simp [unique_count_L1, kn]
  | c :: l, i, n, h => by
    simp only [List.length_cons] at h
    rw [unique_count_L1]
    unfold unique_count_B1 kn
    split
    · rw [w64_id (by omega) (by omega), show (n : Int) + 1 = ((n + 1 : Nat) : Int) by omega, count_L l (i + 1) (n + 1) (by omega)]
      simp only [List.length_cons]; congr 2; omega
    · exact count_L l (i + 1) n (by omega)
theorem count_eq {l : List (Int × Bool)} (h : l.length ≤ 32) : unique_count l = some ((kn l 0).length : Int) := by
  have := count_L l 0 0 (by omega)
  unfold unique_count
  simpa using this
end Go.Proofs.YtfcicopgdahmcaaGreatDoor
end
