/- What the proof needs, gathered by wip/gen/shake.py. -/
import Derived.Calls
import Derived.Deep.Quiet
import Derived.Below
import Derived.Laws.AppendOwn
import Derived.WalkKit
import Derived.Laws.OwnMore
import Derived.Deep.Slices
import Derived.ChangeOld
import Derived.ArgAppend
import Derived.RangeFuncIn
import Derived.RangeFuncRecord
import Derived.RangeFuncLeaves
import Derived.Laws.MakeOwn
import Derived.IntWalk
import Derived.Laws.IdiomStrings
import Derived.Laws.Cover3
import Derived.Laws.CopyOwn
import Derived.Test.YtmfppphlhgneeaaGreatRows
import Derived.MapKept
import Derived.RangeFuncNested
import Derived.ProofKit
import Derived.OpenShut
import Derived.ShutString
import Derived.JoinedCond
import Derived.Test.YtmfppphlhgneeaaGreatLookupStepsQ3
set_option linter.unusedVariables false
set_option linter.unusedSimpArgs false
section
set_option maxHeartbeats 4000000
set_option maxRecDepth 100000
namespace Go.Proofs.YtmfppphlhgneeaaGreat
open Go.RowKit
set_option linter.unusedSimpArgs false
set_option linter.unusedVariables false
set_option synthInstance.maxSize 2000
set_option synthInstance.maxHeartbeats 400000
variable {Fs : List Hp} {G : Hp} {a0_1 a0 a0_0 a1 a2 : Option Addr} {k0_1 k0 p0 k0_0 k1 k2 : Nat} {cc0 : List Value} {bb0 : Option Nat}
theorem Xce {x0_0 : Int} {x0_1 : List ByteArray} {r : Int} (hG : G ∈ Fs) (s0_1 : SlR Rep.str G a0_1 k0_1 x0_1) (h : X8c (x0_0, x0_1) = some r) : RetS Tryz.prog 100 #[.agg #[.int .i64 x0_0, .slice a0_1 x0_1.length k0_1]] Fs [] [] (rv (.int .i64 r)) := by
 unfold X8c at h
 try dsimp only at h
 refine RetS.st [(0, _)] Tryz.func100 Tryz.ntmps100 hG fun w0 S0 hS0 B0 => ?_
 refine .go 2 ?_
 refine .box [_, _] .ro rfl rfl rfl (fun b1 hb1 => ?_)
 refine .go 7 ?_
 obtain ⟨u2, hu2, r3⟩ := X0 h
 refine .cV [_] Tryz.call126 (Xff mcs  hu2) ?_
 refine .go 2 ?_
 refine .kR (fun y => y = ⟨[(12, .bool (decide (((!u2) = true) ∨ ((x0_1.length : Int) < 1))))], G :: Fs, [], []⟩) [(1, _)] [_] [0] [] [] 5 ?_ ?_
 ·rintro _ rfl
  refine .gn 1 ?_
  refine .kR (fun y => y = ⟨[(18, .bool (decide ((((!u2) = true) ∨ ((x0_1.length : Int) < 1)) ∨ (256 < (x0_1.length : Int)))))], G :: Fs, [], []⟩) [(1, _)] [_] [0] [] [] 5 ?_ ?_
  ·rintro _ rfl
   refine .gn 1 ?_
   obtain ⟨u20, h21, r22⟩ := X0 r3
   refine .kR (fun y => y = ⟨[(24, .bool u20)], G :: Fs, [], []⟩) [] [_] [0] [] [] 5 ?_ ?_
   ·rintro _ rfl
    refine .gn 1 ?_
    refine .cB r22 (fun c25 r26 => ?_) (fun c25 r27 => ?_)
    ·refine .go 4 ?_
     cases r26
     refine .drop 1 0 [] _ rfl rfl ?_
     refine .rS [.tmp 2] [_] Tryz.func100 Tryz.results100 ⟨rfl, rfl, rfl⟩
    ·refine .go 5 ?_
     cases r27
     refine .drop 1 0 [] _ rfl rfl ?_
     refine .rS [.tmp 2] [_] Tryz.func100 Tryz.results100 ⟨rfl, rfl, rfl⟩
   ·intro hb19
    refine .split 19 rfl (fun c18 => ?_) (fun c18 => ?_)
    ·have r28 := ifT h21 c18
     refine .go 5 ?_
     exact (hb19 _ rfl).ax ⟨sval r28, trivial⟩
    ·have r29 := ifF h21 c18
     refine .go 5 ?_
     obtain ⟨u30, hu30, r31⟩ := X0 r29
     refine .cV [_] Tryz.call127 (Xe7 mcs s0_1 hu30) ?_
     refine .go 3 ?_
     exact (hb19 _ rfl).ax ⟨sval r31, trivial⟩
  ·intro hb11
   refine .split 13 rfl (fun c10 => ?_) (fun c10 => ?_)
   ·refine .go 5 ?_
    exact (hb11 _ rfl).ax ⟨X3s c10, rfl, trivial⟩
   ·refine .go 9 ?_
    exact (hb11 _ rfl).ax ⟨X44 c10, rfl, trivial⟩
 ·intro hb7
  refine .split_b 7 rfl (fun c6 => ?_) (fun c6 => ?_)
  ·refine .go 5 ?_
   exact (hb7 _ rfl).ax ⟨X3s c6, rfl, trivial⟩
  ·refine .go 9 ?_
   exact (hb7 _ rfl).ax ⟨X44 (Xga c6), rfl, trivial⟩
theorem X9a {x0 : List ByteArray} {r : (List ByteArray)} (hG : G ∈ Fs) (s0 : SlR Rep.str G a0 k0 x0) (h : X2m x0 = some r) : RetS Tryz.prog 128 #[.slice a0 x0.length k0] Fs [] [] (fun v bo so => ∃ (oa0 : Option Addr) (ok0 : Nat) (oc0 : List Value), v = .slice oa0 r.length ok0 ∧ bo = [] ∧ so = [.s (.slice oa0 r.length ok0) 9 1 r.length oc0] ∧ OL Rep.str G oc0 r) := by
 unfold X2m at h
 try dsimp only at h
 refine RetS.st [(0, _)] Tryz.func128 Tryz.ntmps128 hG fun w0 S0 hS0 B0 => ?_
 refine .go 8 ?_
 refine .q .ro (.eqnil Tryz.underlying46 rfl rfl) rfl (.go 1 ?_)
 refine .cond rfl (fun c1 => ?_) (fun _ => ?_)
 ·have h2 := SlR.isnil s0 c1
  refine .go 4 ?_
  refine .own_nil 9 1 ?_
  obtain rfl := Xgc h2 h
  refine .rS [.tmp 2] [_] Tryz.func128 Tryz.results128 ⟨none, 0, [], rfl, rfl, rfl, (OL.nil (Rp' := Rep.str))⟩
 ·refine .go 3 ?_
  refine .lit [] [] .ro sl46 ty9 rfl rfl rfl rfl rfl rfl (fun b4 hb4 => ?_)
  have o5 : OL Rep.str G [] ([] : List ByteArray) := ((OL.nil (Rp' := Rep.str)) :)
  refine .reval 5 (n' := ([] : List ByteArray).length) rfl rfl (.go 1 ?_)
  obtain ⟨u11, hu11, r12⟩ := X0 h
  refine .appR (Q := Rep.str) 0 .ro sl46 ty9 rfl rfl rfl rfl rfl o5 rfl rfl s0 rfl mcs hu11 rfl (fun a7 k8 cs9 o10 => ?_)
  refine .go 2 ?_
  cases r12
  refine .rS [.tmp 2] [_] Tryz.func128 Tryz.results128 ⟨a7, k8, cs9, rfl, rfl, rfl, o10⟩
theorem X8g {Fs : List Hp} {G : Hp} {p1 : Value} {a1 : Option Addr} {k1 : Nat} {x1 : List ByteArray} {p2 : Value} {x2 : Int} {l : (List (List ByteArray))} (hG : G ∈ Fs) (hp1 : Rp G p1 [.slice a1 x1.length k1]) (s1 : SlR Rep.str G a1 k1 x1) (hp2 : Rp G p2 [.int .i64 x2]) (h : X22 x1 x2 = some l) : IterX Tryz.prog 145 [p1, p2] Fs l.length (fun i v => ∃ x, l[i]? = some x ∧ (Yr.v (Rep.sl Rep.str)).r G v x) := by
 unfold X22 at h
 try dsimp only at h
 intro y 𝒢 ℰ R0 hy hR0
 refine RetG.of (vs := [_, _, _]) Tryz.func145 rfl Tryz.ntmps145 [(0, _), (1, _), (2, _)] ⟨rfl, rfl, rfl, trivial⟩ rfl fun w0 => Cov.dup hG ?_
 have B0 : Bd w0 (blks [] [.g R0]) Fs G := Bd.fin hG
 generalize hS0 : blks [] [.g R0] = S0 at B0 ⊢
 replace h : _ = some (List.drop 0 l) := h
 refine .go 4 ?_
 refine .block ?_
 refine .lp (fun y m => ∃ (Z0 : Nat) (Z1 : Guest) (Z2 : Nat) (Z3 : _), y = ⟨[(4, .int .i64 Z3)], [], [], [.g Z1]⟩ ∧ Z0 = m ∧ 𝒢 Z2 Z1 ∧ Z2 ≤ l.length ∧ Xn x1 x2 Z0 Z3 = some (List.drop Z2 l)) [(0, _), (1, _), (2, _)] [] [] ⟨big, R0, 0, 0, rfl, rfl, hR0, (Nat.zero_le _), h⟩ (fun y m hI hb32 => ?_)
 obtain ⟨n24, R26, i27, v30, rfl, rfl, hR28, le29, r31⟩ := hI
 refine .gn 0 ?_
 obtain ⟨m36, rfl⟩ : ∃ m, n24 = m + 1 := by cases n24 with | zero => exact absurd (show (none : Option _) = some _ from r31) (by simp) | succ m => exact ⟨m, rfl⟩
 have r35 : Xy x1 x2 (Xn x1 x2 m36) v30 = some (List.drop i27 l) := r31; clear r31; unfold Xy at r35; try dsimp only at r35
 refine .go 4 ?_
 refine .q .ro (.load_rp hp1 mcs rfl ty46 rfl) rfl (.go 3 ?_)
 refine .cH r35 (fun c37 r38 => ?_) (fun c37 r57 => ?_)
 ·refine .go 2 ?_
  refine .block (.go 1 ?_)
  refine .drawL (.q 0 (.q 1 (.q 2 (.q 3 (.q 4 (.q 5 (.q 6 .nil))))))) [] (by kernel_rfl) (by kernel_rfl) (X1 [] rfl) (.dq (.load_rp hp2 mcs rfl ty3 rfl) rfl (.dq (.load_rp hp1 mcs rfl ty46 rfl) rfl (.go 1 ?_)))
  obtain ⟨u39, hu39, r40⟩ := X0 r38
  obtain ⟨a41, k42, h43, s44⟩ := SlR.sub s1 hu39
  refine .dq (.sliceR s1 rfl hu39 sl46 ty9.sz (fun h => .yes' rfl h) (fun _ => .no) h43) rfl (.go 1 ?_)
  refine .dq (.min2 rfl rfl) rfl (.go 5 ?_)
  refine .q .ro (.load_rp hp1 mcs rfl ty46 rfl) rfl (.go 7 ?_)
  obtain ⟨u45, hu45, r46⟩ := X0 r40
  obtain ⟨a47, k48, h49, s50⟩ := SlR.sub3 s1 hu45
  refine .q .ro (.sliceR3 s1 rfl hu45 sl46 ty9.sz rfl rfl rfl h49) rfl ?_
  obtain ⟨h51, r52⟩ := Xj6 r46; clear r46
  refine .yieldX hy ⟨_, h51, ⟨_, rfl, ((Rep.slI s50) :)⟩⟩ hR28 mcm rfl rfl rfl (fun R53 hR54 => ?_) (fun R55 hE56 => ?_)
  ·refine .q .ro (.not_t rfl) rfl ?_
   refine .go 1 ?_
   refine .cond_false rfl (.go 4 ?_)
   refine .q .ro (.load_rp hp2 mcs rfl ty3 rfl) rfl (.go 3 ?_)
   exact (hb32 _ _ ⟨m36, R53, (i27 + 1), (w64 (v30 + x2)), rfl, rfl, hR54, (Xnh h51), r52⟩ (Nat.lt_succ_self _)).ar
  ·refine .q .ro (.not_f rfl) rfl ?_
   refine .go 1 ?_
   refine .cond_true rfl ?_
   refine .leave (.inr ⟨_, rfl⟩) [] [] rfl Tryz.func145 Tryz.results145 trivial mcm (.inl rfl) (X9g _) ⟨rfl, R55, .inr hE56, rfl⟩
 ·refine .exit rfl ?_
  have hi := Xlv r57 le29
  refine .leave (.inl rfl) [] [] rfl Tryz.func145 Tryz.results145 trivial mcm (.inl rfl) (X9g _) ⟨rfl, R26, .inl (hi ▸ hR28), rfl⟩
theorem X9b {x0 : List ByteArray} {x1 : Int} {r : (List (List ByteArray))} (hG : G ∈ Fs) (s0 : SlR Rep.str G a0 k0 x0) (h : X1t x0 x1 = some r) : RetW Tryz.prog 129 #[.slice a0 x0.length k0, .int .i64 x1] Fs [] [] (fun v bo so G => ∃ (Fi0 : FuncId) (ci0 : List Value), v = .func (.func Fi0) #[] ci0.toArray ∧ bo = [] ∧ so = [] ∧ (∀ args w, (callFunc Fi0 args).run Tryz.prog w = .ok (.enter Fi0 args) w) ∧ IterRX Tryz.prog (Yr.v (Rep.sl Rep.str)) Fi0 ci0 G r) := by
 unfold X1t at h
 try dsimp only at h
 refine RetW.st [(0, _), (1, _)] Tryz.func129 Tryz.ntmps129 hG fun w0 S0 hS0 B0 => ?_
 refine .go 2 ?_
 refine .box [_] .ro rfl rfl rfl (fun b1 hb1 => ?_)
 refine .box [_] .ro rfl rfl rfl (fun b2 hb2 => ?_)
 refine .go 8 ?_
 refine .cutI (β := Unit) (fun y => []) [(2, _), (3, _)] (fun y => G :: Fs) (fun y => []) [_, _] (fun y => []) [] (fun y => (X23 x1 x0)  = some r) ⟨rfl, rfl, trivial⟩ [0, 1] rfl [] rfl ?_ ?_
 ·intro _ hI
  have r8 := hI; clear hI
  refine .gn 0 ?_
  unfold X23 at r8
  try dsimp only at r8
  refine .go 2 ?_
  refine .q .ro (.makeFunc (vf := []) (vc := [_, _]) rfl rfl) rfl (.go 2 ?_)
  refine .freezeBR 1 rfl [_] rfl B0 (fun G11 e12 B13 p14 => ?_)
  refine .freezeBR 0 rfl [] rfl B13 (fun G16 e17 B18 p19 => ?_)
  obtain ⟨u21, hu21, r22⟩ := X0 r8
  cases r22
  refine .rW 0 [.tmp 4] [_] Tryz.func129 Tryz.results129 ⟨RV.tmp rfl, trivial⟩ B18 hS0 (fun G' hg => ⟨_, _, rfl, rfl, rfl, Tryz.call145, (fun Fs' G1 hle hm => X8g (G := G1) hm (Rp.mono (HpLe.trans hg hle) (Rp.mono e17 p14)) (SlR.mono (HpLe.trans hg hle) (SlR.mono (HpLe.trans e12 e17) s0)) (Rp.mono (HpLe.trans hg hle) p19) hu21)⟩)
 ·intro hb23
  refine .cH h (fun c24 r25 => ?_) (fun c24 r26 => ?_)
  ·refine .go 1 ?_
   exact absurd r25 (by simp)
  ·refine .go 1 ?_
   exact .arr (hb23 () r26) ⟨rfl, rfl, trivial⟩
theorem Xbs {x0_0 : Int} {x0_1 : List ByteArray} {r : (List (List ByteArray))} (hG : G ∈ Fs) (s0_1 : SlR Rep.str G a0_1 k0_1 x0_1) (h : X7l (x0_0, x0_1) = some r) : RetW Tryz.prog 101 #[.agg #[.int .i64 x0_0, .slice a0_1 x0_1.length k0_1]] Fs [] [] (fun v bo so G => ∃ (oa0 : Option Addr) (ok0 : Nat) (oc0 : List Value), v = .slice oa0 r.length ok0 ∧ bo = [] ∧ so = [.s (.slice oa0 r.length ok0) 46 1 r.length oc0] ∧ OL (Rep.sl Rep.str) G oc0 r) := by
 unfold X7l at h
 try dsimp only at h
 refine RetW.st [(0, _)] Tryz.func101 Tryz.ntmps101 hG fun w0 S0 hS0 B0 => ?_
 refine .marks0 (.go 2 ?_)
 refine .box [_, _] .ro rfl rfl rfl (fun b1 hb1 => ?_)
 refine .go 6 ?_
 obtain ⟨u2, hu2, r3⟩ := X0 h
 refine .cS [_] Tryz.call128 (X9a mcs s0_1 hu2) (fun v5 bo so h4 => ?_)
 obtain ⟨a7, k8, cs9, rfl, rfl, rfl, o10⟩ := h4
 refine .gn 0 ?_
 refine .freezeR 0 rfl rfl o10 [_] rfl B0 (fun G11 e12 B13 s14 => ?_)
 refine .lit [_] [(0, _)] .ro sl123 ty46 rfl rfl rfl rfl rfl rfl (fun b16 hb16 => ?_)
 have o17 : OL (Rep.sl Rep.str) G11 [.slice a7 u2.length k8] ([u2] : List (List ByteArray)) := ((OL.cons rfl (Rep.slI s14) (OL.nil (Rp' := (Rep.sl Rep.str)))) :)
 refine .reval 10 (n' := ([u2] : List (List ByteArray)).length) rfl rfl (.go 9 ?_)
 refine .block (.pullS 1 rfl [_, _] rfl ?_)
 refine .loopD (β := Nat × Hp × MK × List (List ByteArray) × Option Addr × Nat × List Value × List ByteArray × Option Addr × Nat) (fun y => mks y.2.2.1.1) (fun y => [(3, .slice y.2.2.2.2.1 y.2.2.2.1.length y.2.2.2.2.2.1), (4, .slice y.2.2.2.2.2.2.2.2.1 y.2.2.2.2.2.2.2.1.length y.2.2.2.2.2.2.2.2.2)]) [(1, _)] (fun y => [y.2.1]) (fun y => []) [_] (fun y => [.g (marksG y.2.2.1), .s (.slice y.2.2.2.2.1 y.2.2.2.1.length y.2.2.2.2.2.1) 46 1 y.2.2.2.1.length y.2.2.2.2.2.2.1]) [] (fun y => HpLe G11 y.2.1 ∧ Bd w0 S0 Fs y.2.1 ∧ OL (Rep.sl Rep.str) y.2.1 y.2.2.2.2.2.2.1 y.2.2.2.1 ∧ SlR Rep.str y.2.1 y.2.2.2.2.2.2.2.2.1 y.2.2.2.2.2.2.2.2.2 y.2.2.2.2.2.2.2.1 ∧ X1z x0_0 y.1 y.2.2.2.1 y.2.2.2.2.2.2.2.1 = some r) (fun y => y.1) (big, G11, mk0, ([u2] : List (List ByteArray)), (some ⟨b16, 0, none⟩), 1, [.slice a7 u2.length k8], x0_1, a0_1, k0_1) ⟨(HpLe.refl _), B13, o17, (SlR.mono e12 s0_1), r3⟩ rfl ⟨rfl, rfl, rfl, trivial⟩ rfl rfl rfl (fun y hI hb15 => ?_)
 obtain ⟨n18, G19, mk20, v21, a22, k23, cs24, v25, a26, k27⟩ := y
 obtain ⟨e28, B29, o30, s31, r32⟩ := hI
 try dsimp only at e28 B29 o30 s31 r32
 refine .gn 0 ?_
 obtain ⟨m33, rfl⟩ : ∃ m, n18 = m + 1 := by cases n18 with | zero => exact absurd (show (none : Option _) = some _ from r32) (by simp) | succ m => exact ⟨m, rfl⟩
 have r34 : X6h x0_0 (X1z x0_0 m33) v21 v25 = some r := r32; clear r32; unfold X6h at r34; try dsimp only at r34
 refine .go 9 ?_
 refine .cH r34 (fun c35 r36 => ?_) (fun c35 r37 => ?_)
 ·refine .go 1 ?_
  refine .block (.go 2 ?_)
  refine .alloc .ro ty46 rfl (fun b38 hb38 => ?_)
  refine .go 7 ?_
  obtain ⟨u39, hu39, r40⟩ := X0 r36
  refine .cW [_, _] Tryz.call129 (X9b mcs s31 hu39) B29 (fun v41 bo so G42 e43 B44 h45 => ?_)
  obtain ⟨F47, c48, rfl, rfl, rfl, hc49, hi50⟩ := h45
  refine .gn 1 ?_
  refine .cutBD (β := MK × List ByteArray × Option Addr × Nat × List Value) (fun y => mks y.1.1) (fun y => []) [(3, _), (1, _), (5, _)] (fun y => G42 :: Fs) (fun y => [(b38, .cells #[.slice y.2.2.1 y.2.1.length y.2.2.2.1] 46 (0, 0))]) [_] (fun y => [.g (marksG y.1), .s (.slice y.2.2.1 y.2.1.length y.2.2.2.1) 9 1 y.2.1.length y.2.2.2.2]) [_] (fun y => OL Rep.str G42 y.2.2.2.2 y.2.1 ∧ (X3w (X1z x0_0 m33) v21) y.2.1 = some r) ⟨rfl, rfl, rfl, trivial⟩ [1] rfl [1] rfl ?_ ?_
  ·intro y hI
   obtain ⟨mk51, v52, a53, k54, cs55⟩ := y
   obtain ⟨o56, r57⟩ := hI
   try dsimp only at o56 r57
   refine .gn 0 ?_
   unfold X3w at r57
   try dsimp only at r57
   refine .drawL (.q 0 (.q 1 (.q 4 (.e 2 1 (.e 3 1 (.q 5 (.q 6 .nil))))))) [_, _] (by kernel_rfl) (by kernel_rfl) (X1 [0, 1] rfl) (.go 3 ?_)
   refine .freezeR 1 rfl rfl o56 [_, _] rfl B44 (fun G58 e59 B60 s61 => ?_)
   refine .lit [_] [(0, _)] .d1 sl123 ty46 rfl rfl rfl rfl rfl rfl (fun b62 hb62 => ?_)
   have o63 : OL (Rep.sl Rep.str) G58 [.slice a53 v52.length k54] ([v52] : List (List ByteArray)) := ((OL.cons rfl (Rep.slI s61) (OL.nil (Rp' := (Rep.sl Rep.str)))) :)
   refine .reval 31 (n' := ([v52] : List (List ByteArray)).length) rfl rfl (.clsL e59 (X1 [0, 1] rfl) ?_)
   obtain ⟨u65, hu65, r66⟩ := X0 r57
   refine .appO (Q := (Rep.sl Rep.str)) 1 .d1 sl123 ty46 rfl rfl rfl rfl rfl rfl (OL.mono (HpLe.trans e43 e59) o30) o63 rfl rfl rfl B60 hu65 rfl (fun a67 k68 cs69 o70 => ?_)
   refine .clsL e59 (X1 [0, 1] rfl) (.go 4 ?_)
   refine .drop 1 0 [_] _ rfl rfl ?_
   exact .arr (hb15 (m33, G58, mk51, u65, a67, k68, cs69, v52, a53, k54) ⟨(HpLe.trans (HpLe.trans e28 e43) e59), B60, o70, s61, r66⟩ (Nat.lt_succ_self _)) ⟨rfl, rfl, rfl, trivial⟩
  ·intro hb71
   refine .block (.own_nil 9 1 ?_)
   refine .rangeX (α := List ByteArray × Option Addr × Nat × List Value) (β := Unit) (fun y => []) (fun y => [(b38, .cells #[.slice y.2.1 y.1.length y.2.2.1] 46 (0, 0))]) (fun y => [.s (.slice y.2.1 y.1.length y.2.2.1) 9 1 y.1.length y.2.2.2]) (fun _ => []) (fun _ => []) (fun _ => []) (fun _ => .skip) (fun i y => OL Rep.str G42 y.2.2.2 y.1 ∧ X2x (X3w (X1z x0_0 m33) v21) (List.drop i u39) y.1 = some r) (fun _ => False) (([] : List ByteArray), none, 0, [])  c48 rfl rfl hc49 rfl (by simp) rfl rfl (hi50 _ G42 (HpLe.refl _) mcs) (fun _ _ hv => by obtain ⟨_, _, hv⟩ := hv; exact (Yr.len _ hv).trans rfl) (by kernel_rfl) ⟨(OL.nil (Rp' := Rep.str)), r40⟩ ?_ ?_ (fun _ _ h => h.elim)
   ·intro l72 tm73 D74 i75 y v76 hV77 hI w78 S79 hw80
    obtain ⟨v81, a82, k83, cs84⟩ := y
    obtain ⟨o85, r86⟩ := hI
    try dsimp only at o85 r86
    obtain ⟨x87, h88, h89⟩ := hV77
    refine .dup (G := G42) mcs ?_
    obtain ⟨v90, rfl, h91⟩ := h89
    obtain ⟨a92, k93, h94, s95⟩ := h91
    obtain ⟨rfl, _⟩ := List.cons.inj h94
    rw [Xg8 h88] at r86
    have r96 : X6g (X3w (X1z x0_0 m33) v21) (X2x (X3w (X1z x0_0 m33) v21) (List.drop (i75 + 1) u39)) x87 v81 = some r := r86; clear r86; unfold X6g at r96; try dsimp only at r96
    refine .gn 3 ?_
    refine .beginRound 1 rfl rfl [_, _] rfl (.block (.drawL (.q 0 (.q 1 (.q 2 (.q 3 (.e 4 1 (.e 5 2 (.e 6 2 .nil))))))) [_, _] (by kernel_rfl) (by kernel_rfl) (X1 [0, 1] rfl) (.go 2 ?_)))
    obtain ⟨u97, hu97, r98⟩ := X0 r96
    obtain ⟨c99, p100, h102⟩ := SlR.get s95 hu97
    obtain rfl := h102
    refine .dq (.idxR s95 rfl rfl hu97 sl46 ty9.sz) rfl (.dq (.load_rp p100 mcs rfl ty9 rfl) rfl ?_)
    refine .lit [_] [(0, _)] .d1 sl46 ty9 rfl rfl rfl rfl rfl rfl (fun b103 hb103 => ?_)
    have o104 : OL Rep.str G42 [.string u97] ([u97] : List ByteArray) := ((OL.cons rfl (Rep.strI u97) (OL.nil (Rp' := Rep.str))) :)
    refine .reval 27 (n' := ([u97] : List ByteArray).length) rfl rfl (.clsL (HpLe.refl _) (X1 [0, 1] rfl) ?_)
    obtain ⟨u105, hu105, r106⟩ := X0 r98
    refine .appO (Q := Rep.str) 0 .d2 sl46 ty9 rfl rfl rfl rfl rfl rfl o85 o104 rfl rfl rfl (Bd.fin mcs) hu105 rfl (fun a107 k108 cs109 o110 => ?_)
    refine .store 0 [_] [_, _] .d2 rfl rfl rfl ty46 rfl rfl rfl rfl (.go 2 ?_)
    refine .round_endX (u105, a107, k108, cs109) 1 rfl rfl ⟨o110, r106⟩ rfl rfl (fun F hF => List.mem_cons_of_mem _ hF) (by simp)
   ·intro q111 y hI hb112
    obtain ⟨v81, a82, k83, cs84⟩ := y
    obtain ⟨o85, r86⟩ := hI
    try dsimp only at o85 r86
    refine .gn 0 ?_
    refine .pullS 1 rfl [_, _, _] rfl ?_
    refine .mkmerge 1 rfl [_, _] rfl (fun mk113 => ?_)
    rw [List.drop_length] at r86; rw [X2x] at r86; try dsimp only at r86
    refine .go 1 ?_
    exact .arr (hb71 (mk113, v81, a82, k83, cs84) ⟨o85, r86⟩) ⟨rfl, rfl, rfl, trivial⟩
 ·refine .exit rfl ?_
  refine .go 5 ?_
  cases r37
  refine .drop 1 0 [] _ rfl rfl ?_
  refine .out (.inr ⟨_, rfl⟩) rfl (Cov.unmarkAll _ _ ?_)
  refine .outW [.tmp 2] [_] Tryz.func101 Tryz.results101 ⟨RV.tmp rfl, trivial⟩ mcm mcs B29 (by subst hS0; simp [blks]) (fun G' hg => ⟨a22, k23, cs24, rfl, rfl, rfl, (OL.mono hg o30)⟩)
theorem Xe8 {x0_0 : Int} {x0_1 : List ByteArray} {r : ((List (List ByteArray)) × Int)} (hG : G ∈ Fs) (s0_1 : SlR Rep.str G a0_1 k0_1 x0_1) (h : X8x (x0_0, x0_1) = some r) : RetW Tryz.prog 60 #[.agg #[.int .i64 x0_0, .slice a0_1 x0_1.length k0_1]] Fs [] [] (fun v bo so G => ∃ (oa0 : Option Addr) (ok0 : Nat) (oc0 : List Value), v = .tuple #[.slice oa0 r.1.length ok0, .int .i64 r.2] ∧ bo = [] ∧ so = [.s (.slice oa0 r.1.length ok0) 46 1 r.1.length oc0] ∧ OL (Rep.sl Rep.str) G oc0 r.1) := by
 unfold X8x at h
 try dsimp only at h
 refine RetW.st [(0, _)] Tryz.func60 Tryz.ntmps60 hG fun w0 S0 hS0 B0 => ?_
 refine .go 2 ?_
 refine .box [_, _] .ro rfl rfl rfl (fun b1 hb1 => ?_)
 refine .go 6 ?_
 refine .q .ro (.load_own_a 0 [_, _] rfl rfl ty72 rfl) rfl ?_
 obtain ⟨u2, hu2, r3⟩ := X0 h
 refine .cV [_] Tryz.call100 (Xce mcs s0_1 hu2) ?_
 refine .go 7 ?_
 refine .cH r3 (fun c6 r7 => ?_) (fun c6 r9 => ?_)
 ·refine .go 6 ?_
  refine .own_nil 46 1 ?_
  cases r7
  refine .drop 1 0 [] _ rfl rfl ?_
  refine .rW 0 [.tmp 2, .tmp 3] [_, _] Tryz.func60 Tryz.results60 ⟨RV.tmp rfl, RV.tmp rfl, trivial⟩ B0 hS0 (fun G' hg => ⟨none, 0, [], rfl, rfl, rfl, (OL.mono hg (OL.nil (Rp' := (Rep.sl Rep.str))))⟩)
 ·refine .go 3 ?_
  refine .q .ro (.load_own_a 0 [_, _] rfl rfl ty72 rfl) rfl ?_
  obtain ⟨u10, hu10, r11⟩ := X0 r9
  refine .cW [_] Tryz.call101 (Xbs mcs s0_1 hu10) B0 (fun v13 bo so G14 e15 B16 h12 => ?_)
  obtain ⟨a19, k20, cs21, rfl, rfl, rfl, o22⟩ := h12
  refine .gn 3 ?_
  cases r11
  refine .drop 1 0 [] _ rfl rfl ?_
  refine .rW 0 [.tmp 2, .tmp 3] [_, _] Tryz.func60 Tryz.results60 ⟨RV.tmp rfl, RV.tmp rfl, trivial⟩ B16 hS0 (fun G' hg => ⟨a19, k20, cs21, rfl, rfl, rfl, (OL.mono hg o22)⟩)
theorem Xdq {x0 : List (List ByteArray)} {x1 : Int} {r : (List Int)} (hG : G ∈ Fs) (s0 : SlR (Rep.sl Rep.str) G a0 k0 x0) (h : X7v x0 x1 = some r) : RetS Tryz.prog 61 #[.slice a0 x0.length k0, .int .i64 x1] Fs [] [] (fun v bo so => ∃ (oa0 : Option Addr) (ok0 : Nat) (oc0 : List Value), v = .slice oa0 r.length ok0 ∧ bo = [] ∧ so = [.s (.slice oa0 r.length ok0) 3 1 r.length oc0] ∧ OL ri G oc0 r) := by
 unfold X7v at h
 try dsimp only at h
 refine RetS.st [(0, _), (1, _)] Tryz.func61 Tryz.ntmps61 hG fun w0 S0 hS0 B0 => ?_
 refine .go 8 ?_
 obtain ⟨u1, hu1, r2⟩ := X0 h
 refine .makeR (G := G) (Q := ri) .ro sl48 ty3 rfl rfl rfl ((Rep.intI .i64 0) :) rfl rfl hu1 rfl rfl (fun b3 cs4 hb3 o5 => ?_)
 refine .go 14 ?_
 refine .block ?_
 refine .lp (fun y m => ∃ (Z0 : Nat) (Z1 Z2 : _) (Z3 : List Int) (Z4 : _) (Z5 : Nat) (Z6 : _), y = ⟨[(6, .int .i64 Z1), (7, .int .i64 Z2), (5, .slice Z4 Z3.length Z5)], [], [], [.s (.slice Z4 Z3.length Z5) 3 1 Z3.length Z6]⟩ ∧ Z0 = m ∧ OL ri G Z6 Z3 ∧ X36 x0 x1 Z0 Z1 Z2 Z3 = some r) [(0, _), (1, _)] [] [] ⟨big, 0, (w64 ((x0.length : Int) - 1)), u1, (some ⟨b3, 0, none⟩), u1.length, cs4, rfl, rfl, o5, r2⟩ (fun y m hI hb44 => ?_)
 obtain ⟨n33, v35, v36, v37, a38, k39, cs40, rfl, rfl, o41, r43⟩ := hI
 refine .gn 0 ?_
 obtain ⟨m48, rfl⟩ : ∃ m, n33 = m + 1 := by cases n33 with | zero => exact absurd (show (none : Option _) = some _ from r43) (by simp) | succ m => exact ⟨m, rfl⟩
 have r47 : X5r x0 x1 (X36 x0 x1 m48) v35 v36 v37 = some r := r43; clear r43; unfold X5r at r47; try dsimp only at r47
 refine .go 6 ?_
 refine .cH r47 (fun c49 r50 => ?_) (fun c49 r71 => ?_)
 ·refine .go 2 ?_
  refine .block (.go 5 ?_)
  obtain ⟨u51, hu51, r52⟩ := X0 r50
  obtain ⟨c53, p54, h55⟩ := OL.get o41 hu51
  obtain rfl := h55
  refine .q .ro (.idxO 0 rfl rfl rfl hu51 sl48 ty3.sz) rfl ?_
  obtain ⟨u56, hu56, r57⟩ := X0 r52
  refine .storeR 0 0 (Q := ri) .ro rfl rfl o41 hu56 rfl (.inl ⟨rfl, rfl⟩) rfl ty3 p54 ((Rep.intI .i64 v35) :) rfl rfl (fun cs58 hlcs58 o59 => ?_)
  refine .reval 5 hlcs58 rfl (.reval 18 hlcs58 rfl (.go 5 ?_))
  obtain ⟨u61, hu61, r62⟩ := X0 r57
  obtain ⟨c63, p64, h65⟩ := SlR.get s0 hu61
  obtain ⟨a66, k67, rfl, s68⟩ := h65
  refine .q .ro (.idxR s0 rfl rfl hu61 sl123 ty46.sz) rfl (.q .ro (.load_rp p64 mcs rfl ty46 rfl) rfl (.go 5 ?_))
  obtain ⟨u69, hu69, r70⟩ := X0 r62
  refine .q .ro (.quow rfl rfl (Xbz hu69)) rfl (.go 9 ?_)
  exact (hb44 _ _ ⟨m48, (w64 (v35 + (w64 (Int.tdiv (w64 ((w64 ((u61.length : Int) + x1)) - 1)) x1)))), (w64 (v36 - 1)), u56, a38, k39, cs58, rfl, rfl, o59, r70⟩ (Nat.lt_succ_self _)).ar
 ·refine .exit rfl ?_
  refine .go 5 ?_
  cases r71
  refine .rS [.tmp 4] [_] Tryz.func61 Tryz.results61 ⟨a38, k39, cs40, rfl, rfl, rfl, o41⟩
theorem Xaj {x0 : List Int} {pre0 post0 : List Value} {r : (List Int)} (hG : G ∈ Fs) (vva0 : VA a0 bb0 x0.length k0 pre0 cc0) (oo0 : OL ri G cc0 x0) (h : X2n x0 = some r) : RetS Tryz.prog 62 #[.slice a0 x0.length k0] Fs [] [.g (viewG bb0 3 pre0 cc0 post0)] (fun v bo so => ∃ lc0 : List Value, v = .tuple #[] ∧ bo = [] ∧ so = [.g (viewG bb0 3 pre0 lc0 post0)] ∧ OL ri G lc0 r ∧ r.length = x0.length) := by
 unfold X2n at h
 try dsimp only at h
 refine RetS.st [(0, _)] Tryz.func62 Tryz.ntmps62 hG fun w0 S0 hS0 B0 => ?_
 refine .go 8 ?_
 refine .block ?_
 refine .lp (fun y m => ∃ (Z0 : Nat) (Z1 Z2 : _) (Z3 : List Int) (Z4 : _), y = ⟨[(2, .int .i64 Z1), (3, .int .i64 Z2), (0, .slice a0 Z3.length k0)], [], [], [.g (viewG bb0 3 pre0 Z4 post0)]⟩ ∧ Z0 = m ∧ OL ri G Z4 Z3 ∧ VA a0 bb0 Z3.length k0 pre0 Z4 ∧ Z3.length = x0.length ∧ X1c Z0 Z1 Z2 Z3 = some r) [] [] [] ⟨big, 0, (w64 ((x0.length : Int) - 1)), x0, cc0, rfl, rfl, oo0, vva0, rfl, h⟩ (fun y m hI hb10 => ?_)
 obtain ⟨n11, v12, v13, v14, cs15, rfl, rfl, o16, va17, hl18, r19⟩ := hI
 refine .gn 0 ?_
 obtain ⟨m20, rfl⟩ : ∃ m, n11 = m + 1 := by cases n11 with | zero => exact absurd (show (none : Option _) = some _ from r19) (by simp) | succ m => exact ⟨m, rfl⟩
 have r21 : X2s (X1c m20) v12 v13 v14 = some r := r19; clear r19; unfold X2s at r21; try dsimp only at r21
 refine .go 7 ?_
 refine .cH r21 (fun c22 r23 => ?_) (fun c22 r24 => ?_)
 ·refine .go 2 ?_
  refine .block (.drawL (.q 0 (.q 1 (.q 2 (.q 3 (.q 4 (.q 5 (.q 8 (.q 9 (.alt (.e 6 1 (.alt (.e 7 1 (.e 10 1 (.e 11 1 (.e 12 1 (.e 13 1 (.e 14 2 (.e 15 2 .nil))))))) (.e 10 1 (.alt (.e 7 1 (.e 11 1 (.e 12 1 (.e 13 1 (.e 14 2 (.e 15 2 .nil)))))) (.e 11 1 (.e 7 1 (.e 12 1 (.e 13 1 (.e 14 2 (.e 15 2 .nil)))))))))) (.e 10 1 (.alt (.e 6 1 (.alt (.e 7 1 (.e 11 1 (.e 12 1 (.e 13 1 (.e 14 2 (.e 15 2 .nil)))))) (.e 11 1 (.e 7 1 (.e 12 1 (.e 13 1 (.e 14 2 (.e 15 2 .nil)))))))) (.e 11 1 (.e 6 1 (.e 7 1 (.e 12 1 (.e 13 1 (.e 14 2 (.e 15 2 .nil)))))))))))))))))) [] (by kernel_rfl) (by kernel_rfl) (X1 [] rfl) ?_)
  obtain ⟨u25, hu25, r26⟩ := X0 r23
  obtain ⟨u27, hu27, r28⟩ := X0 r26
  obtain ⟨u29, hu29, r30⟩ := X0 r28
  obtain ⟨u31, hu31, r32⟩ := X0 r30
  obtain ⟨u33, hu33, r34⟩ := X0 r32
  obtain ⟨u35, hu35, r36⟩ := X0 r34
  refine .go 8 ?_
  refine .alt ?_ ?_
  ·obtain ⟨c37, p38, h39⟩ := OL.get o16 hu25
   obtain rfl := h39
   refine .q .d1 (.idxV 0 rfl va17 o16 rfl rfl hu25 sl48 ty3.sz rfl rfl) rfl (.clsL (HpLe.refl _) (X1 [] rfl) ?_)
   refine .alt ?_ ?_
   ·refine .q .d1 (.loadV 0 0 rfl va17 o16 rfl rfl hu25 p38 rfl (.inl ⟨rfl, rfl⟩) ty3 rfl) rfl ?_
    refine .clsL (HpLe.refl _) (X1 [] rfl) ?_
    obtain ⟨c40, p41, h42⟩ := OL.get o16 hu27
    obtain rfl := h42
    refine .q .d1 (.idxV 0 rfl va17 o16 rfl rfl hu27 sl48 ty3.sz rfl rfl) rfl (.clsL (HpLe.refl _) (X1 [] rfl) (.q .d1 (.loadV 0 0 rfl va17 o16 rfl rfl hu27 p41 rfl (.inl ⟨rfl, rfl⟩) ty3 rfl) rfl (.clsL (HpLe.refl _) (X1 [] rfl) ?_)))
    obtain ⟨c43, p44, h45⟩ := OL.get o16 hu29
    obtain rfl := h45
    refine .q .d1 (.idxV 0 rfl va17 o16 rfl rfl hu29 sl48 ty3.sz rfl rfl) rfl (.clsL (HpLe.refl _) (X1 [] rfl) ?_)
    refine .storeV 0 0 (Q := ri) .d1 rfl va17 rfl rfl o16 hu31 rfl (.inl ⟨rfl, rfl⟩) rfl ty3 p44 ((Rep.intI .i64 u25) :) rfl rfl (fun cs46 hlcs46 o47 va49 => ?_)
    refine .reval 0 hlcs46 rfl (.reval 14 hlcs46 rfl (.reval 16 hlcs46 rfl (.reval 18 hlcs46 rfl (.reval 22 hlcs46 rfl (.clsL (HpLe.refl _) (X1 [] rfl) ?_)))))
    obtain ⟨c50, p51, h52⟩ := OL.get o47 hu33
    obtain rfl := h52
    refine .q .d2 (.idxV 0 rfl va49 o47 rfl rfl hu33 sl48 ty3.sz rfl rfl) rfl ?_
    refine .storeV 0 0 (Q := ri) .d2 rfl va49 rfl rfl o47 hu35 rfl (.inl ⟨rfl, rfl⟩) rfl ty3 p51 ((Rep.intI .i64 u27) :) rfl rfl (fun cs53 hlcs53 o54 va55 => ?_)
    refine .reval 0 hlcs53 rfl (.reval 14 hlcs53 rfl (.reval 16 hlcs53 rfl (.reval 18 hlcs53 rfl (.reval 22 hlcs53 rfl (.go 10 ?_)))))
    exact (hb10 _ _ ⟨m20, (w64 (v12 + 1)), (w64 (v13 - 1)), u35, cs53, rfl, rfl, o54, va55, (hlcs53.trans (hlcs46.trans hl18)), r36⟩ (Nat.lt_succ_self _)).ar
   ·obtain ⟨c56, p57, h58⟩ := OL.get o16 hu27
    obtain rfl := h58
    refine .q .d1 (.idxV 0 rfl va17 o16 rfl rfl hu27 sl48 ty3.sz rfl rfl) rfl (.clsL (HpLe.refl _) (X1 [] rfl) ?_)
    refine .alt ?_ ?_
    ·refine .q .d1 (.loadV 0 0 rfl va17 o16 rfl rfl hu25 p38 rfl (.inl ⟨rfl, rfl⟩) ty3 rfl) rfl ?_
     refine .clsL (HpLe.refl _) (X1 [] rfl) (.q .d1 (.loadV 0 0 rfl va17 o16 rfl rfl hu27 p57 rfl (.inl ⟨rfl, rfl⟩) ty3 rfl) rfl (.clsL (HpLe.refl _) (X1 [] rfl) ?_))
     obtain ⟨c59, p60, h61⟩ := OL.get o16 hu29
     obtain rfl := h61
     refine .q .d1 (.idxV 0 rfl va17 o16 rfl rfl hu29 sl48 ty3.sz rfl rfl) rfl (.clsL (HpLe.refl _) (X1 [] rfl) ?_)
     refine .storeV 0 0 (Q := ri) .d1 rfl va17 rfl rfl o16 hu31 rfl (.inl ⟨rfl, rfl⟩) rfl ty3 p60 ((Rep.intI .i64 u25) :) rfl rfl (fun cs63 hlcs63 o65 va66 => ?_)
     refine .reval 0 hlcs63 rfl (.reval 14 hlcs63 rfl (.reval 16 hlcs63 rfl (.reval 18 hlcs63 rfl (.reval 22 hlcs63 rfl (.clsL (HpLe.refl _) (X1 [] rfl) ?_)))))
     obtain ⟨c67, p68, h69⟩ := OL.get o65 hu33
     obtain rfl := h69
     refine .q .d2 (.idxV 0 rfl va66 o65 rfl rfl hu33 sl48 ty3.sz rfl rfl) rfl ?_
     refine .storeV 0 0 (Q := ri) .d2 rfl va66 rfl rfl o65 hu35 rfl (.inl ⟨rfl, rfl⟩) rfl ty3 p68 ((Rep.intI .i64 u27) :) rfl rfl (fun cs70 hlcs70 o71 va72 => ?_)
     refine .reval 0 hlcs70 rfl (.reval 14 hlcs70 rfl (.reval 16 hlcs70 rfl (.reval 18 hlcs70 rfl (.reval 22 hlcs70 rfl (.go 10 ?_)))))
     exact (hb10 _ _ ⟨m20, (w64 (v12 + 1)), (w64 (v13 - 1)), u35, cs70, rfl, rfl, o71, va72, (hlcs70.trans (hlcs63.trans hl18)), r36⟩ (Nat.lt_succ_self _)).ar
    ·refine .q .d1 (.loadV 0 0 rfl va17 o16 rfl rfl hu27 p57 rfl (.inl ⟨rfl, rfl⟩) ty3 rfl) rfl ?_
     refine .clsL (HpLe.refl _) (X1 [] rfl) (.q .d1 (.loadV 0 0 rfl va17 o16 rfl rfl hu25 p38 rfl (.inl ⟨rfl, rfl⟩) ty3 rfl) rfl (.clsL (HpLe.refl _) (X1 [] rfl) ?_))
     obtain ⟨c73, p74, h75⟩ := OL.get o16 hu29
     obtain rfl := h75
     refine .q .d1 (.idxV 0 rfl va17 o16 rfl rfl hu29 sl48 ty3.sz rfl rfl) rfl (.clsL (HpLe.refl _) (X1 [] rfl) ?_)
     refine .storeV 0 0 (Q := ri) .d1 rfl va17 rfl rfl o16 hu31 rfl (.inl ⟨rfl, rfl⟩) rfl ty3 p74 ((Rep.intI .i64 u25) :) rfl rfl (fun cs76 hlcs76 o77 va78 => ?_)
     refine .reval 0 hlcs76 rfl (.reval 14 hlcs76 rfl (.reval 16 hlcs76 rfl (.reval 18 hlcs76 rfl (.reval 22 hlcs76 rfl (.clsL (HpLe.refl _) (X1 [] rfl) ?_)))))
     obtain ⟨c79, p80, h81⟩ := OL.get o77 hu33
     obtain rfl := h81
     refine .q .d2 (.idxV 0 rfl va78 o77 rfl rfl hu33 sl48 ty3.sz rfl rfl) rfl ?_
     refine .storeV 0 0 (Q := ri) .d2 rfl va78 rfl rfl o77 hu35 rfl (.inl ⟨rfl, rfl⟩) rfl ty3 p80 ((Rep.intI .i64 u27) :) rfl rfl (fun cs82 hlcs82 o83 va84 => ?_)
     refine .reval 0 hlcs82 rfl (.reval 14 hlcs82 rfl (.reval 16 hlcs82 rfl (.reval 18 hlcs82 rfl (.reval 22 hlcs82 rfl (.go 10 ?_)))))
     exact (hb10 _ _ ⟨m20, (w64 (v12 + 1)), (w64 (v13 - 1)), u35, cs82, rfl, rfl, o83, va84, (hlcs82.trans (hlcs76.trans hl18)), r36⟩ (Nat.lt_succ_self _)).ar
  ·obtain ⟨c85, p86, h87⟩ := OL.get o16 hu27
   obtain rfl := h87
   refine .q .d1 (.idxV 0 rfl va17 o16 rfl rfl hu27 sl48 ty3.sz rfl rfl) rfl (.clsL (HpLe.refl _) (X1 [] rfl) ?_)
   refine .alt ?_ ?_
   ·obtain ⟨c88, p89, h90⟩ := OL.get o16 hu25
    obtain rfl := h90
    refine .q .d1 (.idxV 0 rfl va17 o16 rfl rfl hu25 sl48 ty3.sz rfl rfl) rfl (.clsL (HpLe.refl _) (X1 [] rfl) ?_)
    refine .alt ?_ ?_
    ·refine .q .d1 (.loadV 0 0 rfl va17 o16 rfl rfl hu25 p89 rfl (.inl ⟨rfl, rfl⟩) ty3 rfl) rfl ?_
     refine .clsL (HpLe.refl _) (X1 [] rfl) (.q .d1 (.loadV 0 0 rfl va17 o16 rfl rfl hu27 p86 rfl (.inl ⟨rfl, rfl⟩) ty3 rfl) rfl (.clsL (HpLe.refl _) (X1 [] rfl) ?_))
     obtain ⟨c91, p92, h93⟩ := OL.get o16 hu29
     obtain rfl := h93
     refine .q .d1 (.idxV 0 rfl va17 o16 rfl rfl hu29 sl48 ty3.sz rfl rfl) rfl (.clsL (HpLe.refl _) (X1 [] rfl) ?_)
     refine .storeV 0 0 (Q := ri) .d1 rfl va17 rfl rfl o16 hu31 rfl (.inl ⟨rfl, rfl⟩) rfl ty3 p92 ((Rep.intI .i64 u25) :) rfl rfl (fun cs94 hlcs94 o95 va96 => ?_)
     refine .reval 0 hlcs94 rfl (.reval 14 hlcs94 rfl (.reval 16 hlcs94 rfl (.reval 18 hlcs94 rfl (.reval 22 hlcs94 rfl (.clsL (HpLe.refl _) (X1 [] rfl) ?_)))))
     obtain ⟨c97, p98, h99⟩ := OL.get o95 hu33
     obtain rfl := h99
     refine .q .d2 (.idxV 0 rfl va96 o95 rfl rfl hu33 sl48 ty3.sz rfl rfl) rfl ?_
     refine .storeV 0 0 (Q := ri) .d2 rfl va96 rfl rfl o95 hu35 rfl (.inl ⟨rfl, rfl⟩) rfl ty3 p98 ((Rep.intI .i64 u27) :) rfl rfl (fun cs100 hlcs100 o101 va102 => ?_)
     refine .reval 0 hlcs100 rfl (.reval 14 hlcs100 rfl (.reval 16 hlcs100 rfl (.reval 18 hlcs100 rfl (.reval 22 hlcs100 rfl (.go 10 ?_)))))
     exact (hb10 _ _ ⟨m20, (w64 (v12 + 1)), (w64 (v13 - 1)), u35, cs100, rfl, rfl, o101, va102, (hlcs100.trans (hlcs94.trans hl18)), r36⟩ (Nat.lt_succ_self _)).ar
    ·refine .q .d1 (.loadV 0 0 rfl va17 o16 rfl rfl hu27 p86 rfl (.inl ⟨rfl, rfl⟩) ty3 rfl) rfl ?_
     refine .clsL (HpLe.refl _) (X1 [] rfl) (.q .d1 (.loadV 0 0 rfl va17 o16 rfl rfl hu25 p89 rfl (.inl ⟨rfl, rfl⟩) ty3 rfl) rfl (.clsL (HpLe.refl _) (X1 [] rfl) ?_))
     obtain ⟨c103, p104, h105⟩ := OL.get o16 hu29
     obtain rfl := h105
     refine .q .d1 (.idxV 0 rfl va17 o16 rfl rfl hu29 sl48 ty3.sz rfl rfl) rfl (.clsL (HpLe.refl _) (X1 [] rfl) ?_)
     refine .storeV 0 0 (Q := ri) .d1 rfl va17 rfl rfl o16 hu31 rfl (.inl ⟨rfl, rfl⟩) rfl ty3 p104 ((Rep.intI .i64 u25) :) rfl rfl (fun cs106 hlcs106 o107 va108 => ?_)
     refine .reval 0 hlcs106 rfl (.reval 14 hlcs106 rfl (.reval 16 hlcs106 rfl (.reval 18 hlcs106 rfl (.reval 22 hlcs106 rfl (.clsL (HpLe.refl _) (X1 [] rfl) ?_)))))
     obtain ⟨c109, p110, h111⟩ := OL.get o107 hu33
     obtain rfl := h111
     refine .q .d2 (.idxV 0 rfl va108 o107 rfl rfl hu33 sl48 ty3.sz rfl rfl) rfl ?_
     refine .storeV 0 0 (Q := ri) .d2 rfl va108 rfl rfl o107 hu35 rfl (.inl ⟨rfl, rfl⟩) rfl ty3 p110 ((Rep.intI .i64 u27) :) rfl rfl (fun cs112 hlcs112 o113 va114 => ?_)
     refine .reval 0 hlcs112 rfl (.reval 14 hlcs112 rfl (.reval 16 hlcs112 rfl (.reval 18 hlcs112 rfl (.reval 22 hlcs112 rfl (.go 10 ?_)))))
     exact (hb10 _ _ ⟨m20, (w64 (v12 + 1)), (w64 (v13 - 1)), u35, cs112, rfl, rfl, o113, va114, (hlcs112.trans (hlcs106.trans hl18)), r36⟩ (Nat.lt_succ_self _)).ar
   ·refine .q .d1 (.loadV 0 0 rfl va17 o16 rfl rfl hu27 p86 rfl (.inl ⟨rfl, rfl⟩) ty3 rfl) rfl ?_
    refine .clsL (HpLe.refl _) (X1 [] rfl) ?_
    obtain ⟨c115, p116, h117⟩ := OL.get o16 hu25
    obtain rfl := h117
    refine .q .d1 (.idxV 0 rfl va17 o16 rfl rfl hu25 sl48 ty3.sz rfl rfl) rfl (.clsL (HpLe.refl _) (X1 [] rfl) (.q .d1 (.loadV 0 0 rfl va17 o16 rfl rfl hu25 p116 rfl (.inl ⟨rfl, rfl⟩) ty3 rfl) rfl (.clsL (HpLe.refl _) (X1 [] rfl) ?_)))
    obtain ⟨c118, p119, h120⟩ := OL.get o16 hu29
    obtain rfl := h120
    refine .q .d1 (.idxV 0 rfl va17 o16 rfl rfl hu29 sl48 ty3.sz rfl rfl) rfl (.clsL (HpLe.refl _) (X1 [] rfl) ?_)
    refine .storeV 0 0 (Q := ri) .d1 rfl va17 rfl rfl o16 hu31 rfl (.inl ⟨rfl, rfl⟩) rfl ty3 p119 ((Rep.intI .i64 u25) :) rfl rfl (fun cs121 hlcs121 o122 va123 => ?_)
    refine .reval 0 hlcs121 rfl (.reval 14 hlcs121 rfl (.reval 16 hlcs121 rfl (.reval 18 hlcs121 rfl (.reval 22 hlcs121 rfl (.clsL (HpLe.refl _) (X1 [] rfl) ?_)))))
    obtain ⟨c124, p125, h126⟩ := OL.get o122 hu33
    obtain rfl := h126
    refine .q .d2 (.idxV 0 rfl va123 o122 rfl rfl hu33 sl48 ty3.sz rfl rfl) rfl ?_
    refine .storeV 0 0 (Q := ri) .d2 rfl va123 rfl rfl o122 hu35 rfl (.inl ⟨rfl, rfl⟩) rfl ty3 p125 ((Rep.intI .i64 u27) :) rfl rfl (fun cs127 hlcs127 o128 va129 => ?_)
    refine .reval 0 hlcs127 rfl (.reval 14 hlcs127 rfl (.reval 16 hlcs127 rfl (.reval 18 hlcs127 rfl (.reval 22 hlcs127 rfl (.go 10 ?_)))))
    exact (hb10 _ _ ⟨m20, (w64 (v12 + 1)), (w64 (v13 - 1)), u35, cs127, rfl, rfl, o128, va129, (hlcs127.trans (hlcs121.trans hl18)), r36⟩ (Nat.lt_succ_self _)).ar
 ·refine .exit rfl ?_
  cases r24
  refine .rS [] [] Tryz.func62 Tryz.results62 ⟨cs15, rfl, rfl, rfl, o16, hl18⟩
theorem Xaw {x0_0 : Int} {x0_1 : List ByteArray} {r : ((List Int) × Int)} (hG : G ∈ Fs) (s0_1 : SlR Rep.str G a0_1 k0_1 x0_1) (h : X3x (x0_0, x0_1) = some r) : RetS Tryz.prog 26 #[.agg #[.int .i64 x0_0, .slice a0_1 x0_1.length k0_1]] Fs [] [] (fun v bo so => ∃ (oa0 : Option Addr) (ok0 : Nat) (oc0 : List Value), v = .tuple #[.slice oa0 r.1.length ok0, .int .i64 r.2] ∧ bo = [] ∧ so = [.s (.slice oa0 r.1.length ok0) 3 1 r.1.length oc0] ∧ OL ri G oc0 r.1) := by
 unfold X3x at h
 try dsimp only at h
 refine RetS.st [(0, _)] Tryz.func26 Tryz.ntmps26 hG fun w0 S0 hS0 B0 => ?_
 refine .go 2 ?_
 refine .box [_, _] .ro rfl rfl rfl (fun b1 hb1 => ?_)
 refine .go 5 ?_
 refine .q .ro (.load_own_a 0 [_, _] rfl rfl ty72 rfl) rfl ?_
 obtain ⟨u2, hu2, r3⟩ := X0 h
 refine .cW [_] Tryz.call60 (Xe8 mcs s0_1 hu2) B0 (fun v5 bo so G6 e7 B8 h4 => ?_)
 obtain ⟨a11, k12, cs13, rfl, rfl, rfl, o14⟩ := h4
 refine .gn 12 ?_
 refine .cH r3 (fun c15 r16 => ?_) (fun c15 r18 => ?_)
 ·refine .go 6 ?_
  refine .own_nil 3 1 ?_
  cases r16
  refine .drop 1 0 [] _ rfl rfl (.pullS 1 rfl [_, _] rfl (.drop 0 1 _ [_] rfl rfl ?_))
  refine .rS [.tmp 2, .tmp 3] [_, _] Tryz.func26 Tryz.results26 ⟨none, 0, [], rfl, rfl, rfl, (OL.nil (Rp' := ri))⟩
 ·refine .go 6 ?_
  refine .freezeR 0 rfl rfl o14 [] rfl B8 (fun G19 e20 B21 s22 => ?_)
  obtain ⟨u24, hu24, r25⟩ := X0 r18
  refine .cS [_, _] Tryz.call61 (Xdq mcs s22 hu24) (fun v27 bo so h26 => ?_)
  obtain ⟨a29, k30, cs31, rfl, rfl, rfl, o32⟩ := h26
  refine .gn 5 ?_
  refine .toV 0 rfl (fun vb33 po34 va35 vb36 => ?_)
  obtain ⟨u37, hu37, r38⟩ := X0 r25
  refine .callS (b1 := []) (b2 := [_]) (s1 := [_]) [_] [] .ro rfl rfl Tryz.call62 rfl rfl (Xaj mcs va35 o32 hu37) rfl (fun v40 bo so h39 => ?_)
  obtain ⟨cs41, rfl, rfl, rfl, o42, hl43⟩ := h39
  refine .gn 0 ?_
  refine .ofV 0 rfl vb36 hl43 o42 rfl (.reval 6 hl43 rfl (.reval 19 hl43 rfl (.go 7 ?_)))
  cases r38
  refine .drop 1 0 [] _ rfl rfl ?_
  refine .rS [.tmp 2, .tmp 3] [_, _] Tryz.func26 Tryz.results26 ⟨a29, k30, cs41, rfl, rfl, rfl, (OL.flat (Rep.flat_int _) o42)⟩
theorem Xgl  {r : Bool} (hG : G ∈ Fs)  (h : Xbm = some r) : RetS Tryz.prog 5 #[] Fs [] [] (rv (.bool r)) := by
 unfold Xbm at h
 try dsimp only at h
 refine RetS.st [] Tryz.func5 Tryz.ntmps5 hG fun w0 S0 hS0 B0 => ?_
 refine .go 6 ?_
 refine .q .ro (.build [_, _] [(0, _)] ty89 pl89 rfl rfl) rfl (.q .ro (.build [_, _] [(0, _)] ty89 pl89 rfl rfl) rfl ?_)
 refine .lit [_, _, _, _] [(0, _), (1, _)] .ro sl26 ty89 rfl rfl rfl rfl rfl rfl (fun b1 hb1 => ?_)
 have o2 : OL (Rep.pair ri ri) G [.int .i64 1, .int .i64 0, .int .i64 3, .int .i64 0] ([(1, 0), (3, 0)] : List (Int × Int)) := ((OL.cons rfl (Rep.pairI (Rep.intI .i64 1) (Rep.intI .i64 0)) (OL.cons rfl (Rep.pairI (Rep.intI .i64 3) (Rep.intI .i64 0)) (OL.nil (Rp' := (Rep.pair ri ri))))) :)
 refine .reval 12 (n' := ([(1, 0), (3, 0)] : List (Int × Int)).length) rfl rfl (.q .ro (.build [_, _] [(0, _), (1, _)] ty28 pl28 rfl rfl) rfl ?_)
 refine .alloc .ro ty28 rfl (fun b4 hb4 => ?_)
 refine .store 0 [_, _] [_] .ro rfl rfl rfl ty28 rfl rfl rfl rfl (.go 3 ?_)
 refine .q .ro (.load_own_a 0 [_, _] rfl rfl ty28 rfl) rfl (.q .ro (.build [_, _] [(0, _), (1, _)] ty69 pl69 rfl rfl) rfl ?_)
 refine .lit [_, _] [(0, _)] .ro sl32 ty69 rfl rfl rfl rfl rfl rfl (fun b5 hb5 => ?_)
 have o6 : OL (Rep.pair Rep.str ri) G [.string ⟨#[97, 110, 116]⟩, .int .i64 7] ([(⟨#[97, 110, 116]⟩, 7)] : List (ByteArray × Int)) := ((OL.cons rfl (Rep.pairI (Rep.strI ⟨#[97, 110, 116]⟩) (Rep.intI .i64 7)) (OL.nil (Rp' := (Rep.pair Rep.str ri)))) :)
 refine .reval 17 (n' := ([(⟨#[97, 110, 116]⟩, 7)] : List (ByteArray × Int)).length) rfl rfl ?_
 refine .freezeR 1 rfl rfl o2 [_] rfl B0 (fun G8 e9 B10 s11 => ?_)
 refine .freezeR 0 rfl rfl (OL.mono e9 o6) [] rfl B10 (fun G13 e14 B15 s16 => ?_)
 obtain ⟨u18, hu18, r19⟩ := X0 h
 refine .cW [_, _, _] Tryz.call19 (X99 mcs (SlR.mono e14 s11) s16 hu18) B15 (fun v21 bo so G22 e23 B24 h20 => ?_)
 obtain ⟨a26, k27, a29, k30, rfl, rfl, rfl, s28, s31⟩ := h20
 refine .gn 3 ?_
 refine .alloc .ro ty31 rfl (fun b32 hb32 => ?_)
 refine .store 0 [_, _, _, _] [_, _] .ro rfl rfl rfl ty31 rfl rfl rfl rfl (.go 4 ?_)
 refine .q .ro (.build [_] [(0, _)] ty36 pl36 rfl rfl) rfl (.q .ro (.load_own_a 0 [_, _, _, _] rfl rfl ty31 rfl) rfl ?_)
 obtain ⟨u33, hu33, r34⟩ := X0 r19
 refine .cW [_, _, _] Tryz.call8 (Xa8 mcs s28 s31 hu33) B24 (fun v36 bo so G37 e38 B39 h35 => ?_)
 obtain ⟨a41, k42, rfl, rfl, rfl, s43⟩ := h35
 refine .gn 3 ?_
 refine .alloc .ro ty39 rfl (fun b44 hb44 => ?_)
 refine .store 0 [_, _, _, _] [_, _, _] .ro rfl rfl rfl ty39 rfl rfl rfl rfl (.go 4 ?_)
 refine .q .ro (.load_own_a 2 [_, _] rfl rfl ty28 rfl) rfl ?_
 obtain ⟨u45, hu45, r46⟩ := X0 r34
 refine .cS [_, _] Tryz.call11 (Xcd mcs (SlR.mono (HpLe.trans (HpLe.trans e14 e23) e38) s11) hu45) (fun v48 bo so h47 => ?_)
 obtain ⟨a50, k51, cs52, rfl, rfl, rfl, o53⟩ := h47
 refine .gn 8 ?_
 refine .lit [_, _, _, _] [(0, _), (1, _), (2, _), (3, _)] .ro sl46 ty9 rfl rfl rfl rfl rfl rfl (fun b54 hb54 => ?_)
 have o55 : OL Rep.str G37 [.string ⟨#[97]⟩, .string ⟨#[98]⟩, .string ⟨#[99]⟩, .string ⟨#[100]⟩] ([⟨#[97]⟩, ⟨#[98]⟩, ⟨#[99]⟩, ⟨#[100]⟩] : List ByteArray) := ((OL.cons rfl (Rep.strI ⟨#[97]⟩) (OL.cons rfl (Rep.strI ⟨#[98]⟩) (OL.cons rfl (Rep.strI ⟨#[99]⟩) (OL.cons rfl (Rep.strI ⟨#[100]⟩) (OL.nil (Rp' := Rep.str)))))) :)
 refine .reval 33 (n' := ([⟨#[97]⟩, ⟨#[98]⟩, ⟨#[99]⟩, ⟨#[100]⟩] : List ByteArray).length) rfl rfl (.q .ro (.build [_, _] [(0, _), (1, _)] ty72 pl72 rfl rfl) rfl ?_)
 refine .freezeR 0 rfl rfl o55 [_] rfl B39 (fun G57 e58 B59 s60 => ?_)
 obtain ⟨u62, hu62, r63⟩ := X0 r46
 refine .cS [_] Tryz.call26 (Xaw mcs s60 hu62) (fun v65 bo so h64 => ?_)
 obtain ⟨a67, k68, cs69, rfl, rfl, rfl, o70⟩ := h64
 refine .gn 8 ?_
 obtain ⟨u71, hu71, r72⟩ := X0 r63
 refine .cV [_] Tryz.call30 (X8r mcs  hu71) ?_
 refine .go 2 ?_
 refine .kR (fun y => y = ⟨[(43, .bool (decide ((u71 = 37) ∧ (u33.2 = 0))))], G57 :: Fs, [], []⟩) [(4, _), (6, _), (7, _), (8, _), (9, _)] [_, _, _] [0, 1, 2] [_, _] [0, 1] 3 ?_ ?_
 ·rintro _ rfl
  refine .gn 1 ?_
  refine .kR (fun y => y = ⟨[(49, .bool (decide (((u71 = 37) ∧ (u33.2 = 0)) ∧ ((u33.1.2.2.2.length : Int) = 4))))], G57 :: Fs, [], []⟩) [(4, _), (6, _), (7, _), (8, _), (9, _)] [_, _, _] [0, 1, 2] [_, _] [0, 1] 5 ?_ ?_
  ·rintro _ rfl
   refine .gn 1 ?_
   refine .kR (fun y => y = ⟨[(54, .bool (decide ((((u71 = 37) ∧ (u33.2 = 0)) ∧ ((u33.1.2.2.2.length : Int) = 4)) ∧ (u33.1.2.2.1 = 37))))], G57 :: Fs, [], []⟩) [(6, _), (7, _), (8, _), (9, _)] [_, _, _] [0, 1, 2] [_, _] [0, 1] 4 ?_ ?_
   ·rintro _ rfl
    refine .gn 1 ?_
    refine .kR (fun y => y = ⟨[(58, .bool (decide (((((u71 = 37) ∧ (u33.2 = 0)) ∧ ((u33.1.2.2.2.length : Int) = 4)) ∧ (u33.1.2.2.1 = 37)) ∧ (u45.2 = 0))))], G57 :: Fs, [], []⟩) [(6, _), (8, _), (9, _)] [_, _, _] [0, 1, 2] [_, _] [0, 1] 3 ?_ ?_
    ·rintro _ rfl
     refine .gn 1 ?_
     refine .kR (fun y => y = ⟨[(63, .bool (decide ((((((u71 = 37) ∧ (u33.2 = 0)) ∧ ((u33.1.2.2.2.length : Int) = 4)) ∧ (u33.1.2.2.1 = 37)) ∧ (u45.2 = 0)) ∧ ((u45.1.length : Int) = 2))))], G57 :: Fs, [], []⟩) [(8, _), (9, _)] [_, _, _] [0, 1, 2] [_, _] [0, 1] 4 ?_ ?_
     ·rintro _ rfl
      refine .gn 1 ?_
      refine .kR (fun y => y = ⟨[(67, .bool (decide (((((((u71 = 37) ∧ (u33.2 = 0)) ∧ ((u33.1.2.2.2.length : Int) = 4)) ∧ (u33.1.2.2.1 = 37)) ∧ (u45.2 = 0)) ∧ ((u45.1.length : Int) = 2)) ∧ (u62.2 = 0))))], G57 :: Fs, [], []⟩) [(8, _)] [_, _, _] [0, 1, 2] [_, _] [0, 1] 3 ?_ ?_
      ·rintro _ rfl
       refine .gn 1 ?_
       refine .kR (fun y => y = ⟨[(72, .bool (decide ((((((((u71 = 37) ∧ (u33.2 = 0)) ∧ ((u33.1.2.2.2.length : Int) = 4)) ∧ (u33.1.2.2.1 = 37)) ∧ (u45.2 = 0)) ∧ ((u45.1.length : Int) = 2)) ∧ (u62.2 = 0)) ∧ ((u62.1.length : Int) = 2))))], G57 :: Fs, [], []⟩) [(8, _)] [_, _, _] [0, 1, 2] [_, _] [0, 1] 4 ?_ ?_
       ·rintro _ rfl
        refine .gn 1 ?_
        obtain ⟨u12, h17, r25⟩ := X0 r72
        refine .kR (fun y => y = ⟨[(78, .bool u12)], G57 :: Fs, [], []⟩) [] [_, _, _] [0, 1, 2] [_, _] [0, 1] 5 ?_ ?_
        ·rintro _ rfl
         refine .gn 2 ?_
         cases r25
         refine .drop 3 0 [] _ rfl rfl (.drop 0 2 _ [] rfl rfl ?_)
         refine .rS [.tmp 0] [_] Tryz.func5 Tryz.results5 ⟨rfl, rfl, rfl⟩
        ·intro hb40
         refine .split 73 rfl (fun c49 => ?_) (fun c49 => ?_)
         ·have r56 := ifT h17 c49
          refine .go 3 ?_
          obtain ⟨u61, hu61, r66⟩ := X0 r56
          obtain ⟨c73, p74, h77⟩ := OL.get o70 hu61
          obtain rfl := h77
          refine .q .ro (.idxO 0 rfl rfl rfl hu61 sl48 ty3.sz) rfl (.go 1 ?_)
          refine .q .ro (.loadO 0 0 rfl hu61 p74 rfl (.inl ⟨rfl, rfl⟩) ty3 rfl) rfl (.go 3 ?_)
          exact (hb40 _ rfl).ax ⟨sval r66, trivial⟩
         ·have r78 := ifF h17 c49
          refine .go 5 ?_
          exact (hb40 _ rfl).ax ⟨sval r78, trivial⟩
       ·intro hb81
        refine .split 68 rfl (fun c99 => ?_) (fun c99 => ?_)
        ·refine .go 7 ?_
         exact (hb81 _ rfl).ax ⟨X6w c99, rfl, trivial⟩
        ·refine .go 4 ?_
         exact (hb81 _ rfl).ax ⟨X6x c99, rfl, trivial⟩
      ·intro hb96
       refine .split 64 rfl (fun c95 => ?_) (fun c95 => ?_)
       ·refine .go 5 ?_
        exact (hb96 _ rfl).ax ⟨X6w c95, rfl, trivial⟩
       ·refine .go 3 ?_
        exact (hb96 _ rfl).ax ⟨X6x c95, rfl, trivial⟩
     ·intro hb92
      refine .split 59 rfl (fun c91 => ?_) (fun c91 => ?_)
      ·refine .go 7 ?_
       exact (hb92 _ rfl).ax ⟨X6w c91, rfl, rfl, trivial⟩
      ·refine .go 4 ?_
       exact (hb92 _ rfl).ax ⟨X6x c91, rfl, rfl, trivial⟩
    ·intro hb88
     refine .split 55 rfl (fun c87 => ?_) (fun c87 => ?_)
     ·refine .go 5 ?_
      exact (hb88 _ rfl).ax ⟨X6w c87, rfl, rfl, rfl, trivial⟩
     ·refine .go 3 ?_
      exact (hb88 _ rfl).ax ⟨X6x c87, rfl, rfl, rfl, trivial⟩
   ·intro hb84
    refine .split 50 rfl (fun c83 => ?_) (fun c83 => ?_)
    ·refine .go 7 ?_
     exact (hb84 _ rfl).ax ⟨X6w c83, rfl, rfl, rfl, rfl, trivial⟩
    ·refine .go 4 ?_
     exact (hb84 _ rfl).ax ⟨X6x c83, rfl, rfl, rfl, rfl, trivial⟩
  ·intro hb80
   refine .split 44 rfl (fun c79 => ?_) (fun c79 => ?_)
   ·refine .go 9 ?_
    exact (hb80 _ rfl).ax ⟨X6w c79, rfl, rfl, rfl, rfl, rfl, trivial⟩
   ·refine .go 5 ?_
    exact (hb80 _ rfl).ax ⟨X6x c79, rfl, rfl, rfl, rfl, rfl, trivial⟩
 ·intro hb76
  refine .split 40 rfl (fun c75 => ?_) (fun c75 => ?_)
  ·refine .go 5 ?_
   exact (hb76 _ rfl).ax ⟨X6w c75, rfl, rfl, rfl, rfl, rfl, trivial⟩
  ·refine .go 3 ?_
   exact (hb76 _ rfl).ax ⟨X6x c75, rfl, rfl, rfl, rfl, rfl, trivial⟩
theorem Xio {x0 : List Int} {r : ((List Int) × Int)} (hG : G ∈ Fs) (s0 : SlR (Rep.int .u8) G a0 k0 x0) (h : Xcb x0 = some r) : RetS Tryz.prog 6 #[.slice a0 x0.length k0] Fs [] [] (fun v bo so => ∃ a0 : Option Addr, ∃ k0 : Nat, ∃ b0 : Nat, v = .pointer (some ⟨b0, 0, none⟩) ∧ bo = [(b0, .cells #[.slice a0 r.1.length k0, .int .i64 r.2] 91 (0, 0))] ∧ so = [] ∧ SlR (Rep.int .u8) G a0 k0 r.1) := by
 unfold Xcb at h
 try dsimp only at h
 refine RetS.st [(0, _)] Tryz.func6 Tryz.ntmps6 hG fun w0 S0 hS0 B0 => ?_
 refine .go 11 ?_
 refine .kI (fun y => ∃ (Z0 : List Int) (Z1 : _) (Z2 : Nat), y = ⟨[(0, .slice Z1 Z0.length Z2)], G :: Fs, [], []⟩ ∧ SlR (Rep.int .u8) G Z1 Z2 Z0 ∧ X9m Z0 = some r) [] [] [] [] [] ?_ ?_
 ·rintro _ ⟨v11, a12, k13, rfl, s14, r16⟩
  refine .gn 0 ?_
  unfold X9m at r16
  try dsimp only at r16
  refine .go 3 ?_
  refine .q .ro (.build [_, _] [(0, _)] ty91 pl91 rfl rfl) rfl ?_
  refine .box [_, _] .ro rfl rfl rfl (fun b17 hb17 => ?_)
  refine .go 2 ?_
  cases r16
  refine .rS [.tmp 2] [_] Tryz.func6 Tryz.results6 ⟨a12, k13, _, rfl, rfl, rfl, s14⟩
 ·intro hb18
  refine .cH h (fun c19 r20 => ?_) (fun c19 r27 => ?_)
  ·refine .go 2 ?_
   obtain ⟨u21, hu21, r22⟩ := X0 r20
   obtain ⟨a23, k24, h25, s26⟩ := SlR.sub s0 hu21
   refine .q .ro (.sliceR s0 rfl hu21 sl22 ty5.sz (fun _ => .no) (fun h => .yes' rfl h) h25) rfl (.go 2 ?_)
   exact (hb18 _ ⟨u21, a23, k24, rfl, s26, r22⟩).ar
  ·refine .go 1 ?_
   exact (hb18 _ ⟨x0, a0, k0, rfl, s0, r27⟩).ar
theorem X6 {x0_0 : List Int} {x0_1 : Int} {x1 : Int} {r : (Int × ((List Int) × Int))} (hG : G ∈ Fs) (s0_0 : SlR (Rep.int .u8) G a0_0 k0_0 x0_0) (h : Xp (x0_0, x0_1) x1 = some r) : RetS Tryz.prog 10 #[.pointer (some ⟨p0, 0, none⟩), .int .i64 x1] Fs [(p0, .cells #[.slice a0_0 x0_0.length k0_0, .int .i64 x0_1] 91 (0, 0))] [] (fun v bo so => ∃ a0 : Option Addr, ∃ k0 : Nat, v = .int .i64 r.1 ∧ bo = [(p0, .cells #[.slice a0 r.2.1.length k0, .int .i64 r.2.2] 91 (0, 0))] ∧ so = [] ∧ SlR (Rep.int .u8) G a0 k0 r.2.1) := by
 unfold Xp at h
 try dsimp only at h
 refine RetS.st [(0, _), (1, _)] Tryz.func10 Tryz.ntmps10 hG fun w0 S0 hS0 B0 => ?_
 refine .go 6 ?_
 refine .drawL (.q 0 (.q 1 (.q 2 (.q 3 (.q 4 (.q 5 (.q 6 (.q 7 (.q 8 (.q 9 .nil)))))))))) [_] (by kernel_rfl) (by kernel_rfl) (X1 [0] rfl) (.go 11 ?_)
 refine .cH h (fun c1 r2 => ?_) (fun c1 r3 => ?_)
 ·refine .go 4 ?_
  cases r2
  refine .rS [.tmp 4] [_] Tryz.func10 Tryz.results10 ⟨a0_0, k0_0, rfl, rfl, rfl, s0_0⟩
 ·refine .go 10 ?_
  refine .store 0 [_, _] [_] .ro rfl rfl rfl ty3 rfl rfl rfl rfl (.go 2 ?_)
  refine .drawL (.q 0 (.q 1 (.q 2 (.q 3 (.q 4 (.q 5 (.q 6 (.q 7 (.q 8 (.q 9 (.q 10 (.q 11 (.q 12 (.q 13 (.q 14 .nil))))))))))))))) [_] (by kernel_rfl) (by kernel_rfl) (X1 [0] rfl) (.go 9 ?_)
  obtain ⟨u4, hu4, r5⟩ := X0 r3
  obtain ⟨c6, p7, h8⟩ := SlR.get s0_0 hu4
  obtain rfl := h8
  refine .dq (.idxR s0_0 rfl rfl hu4 sl22 ty5.sz) rfl (.dq (.load_rp p7 mcs rfl ty5 rfl) rfl (.dq (.convw Tryz.underlying5 Tryz.underlying3 rfl) rfl (.go 1 ?_)))
  obtain ⟨u9, hu9, r10⟩ := X0 r5
  refine .dq (.remt rfl rfl (Xbz hu9)) rfl (.go 2 ?_)
  cases r10
  refine .rS [.tmp 4] [_] Tryz.func10 Tryz.results10 ⟨a0_0, k0_0, rfl, rfl, rfl, s0_0⟩
theorem Xck {x0_0 : List Int} {x0_1 : Int} {r : (((Int × (List (Int × Int))) × Int × (List (List (ByteArray × Int)))) × (List (ByteArray × Int)) × ((List Int) × Int))} (hG : G ∈ Fs) (s0_0 : SlR (Rep.int .u8) G a0_0 k0_0 x0_0) (h : X7w (x0_0, x0_1) = some r) : RetW Tryz.prog 7 #[.pointer (some ⟨p0, 0, none⟩)] Fs [(p0, .cells #[.slice a0_0 x0_0.length k0_0, .int .i64 x0_1] 91 (0, 0))] [] (fun v bo so G => ∃ a0 : Option Addr, ∃ k0 : Nat, ∃ a1 : Option Addr, ∃ k1 : Nat, ∃ a2 : Option Addr, ∃ k2 : Nat, ∃ a3 : Option Addr, ∃ k3 : Nat, v = .tuple #[.agg #[.int .i64 r.1.1.1, .slice a0 r.1.1.2.length k0, .int .i64 r.1.2.1, .slice a1 r.1.2.2.length k1], .slice a2 r.2.1.length k2] ∧ bo = [(p0, .cells #[.slice a3 r.2.2.1.length k3, .int .i64 r.2.2.2] 91 (0, 0))] ∧ so = [] ∧ SlR (Rep.pair ri ri) G a0 k0 r.1.1.2 ∧ SlR (Rep.sl (Rep.pair Rep.str ri)) G a1 k1 r.1.2.2 ∧ SlR (Rep.pair Rep.str ri) G a2 k2 r.2.1 ∧ SlR (Rep.int .u8) G a3 k3 r.2.2.1) := by
 unfold X7w at h
 try dsimp only at h
 refine RetW.st [(0, _)] Tryz.func7 Tryz.ntmps7 hG fun w0 S0 hS0 B0 => ?_
 refine .go 2 ?_
 refine .alloc .ro ty31 rfl (fun b1 hb1 => ?_)
 refine .go 4 ?_
 refine .lit [_, _, _, _, _, _] [(0, _), (1, _), (2, _), (3, _), (4, _), (5, _)] .ro sl46 ty9 rfl rfl rfl rfl rfl rfl (fun b2 hb2 => ?_)
 have o3 : OL Rep.str G [.string ⟨#[97, 110, 116]⟩, .string ⟨#[98, 101, 101]⟩, .string ⟨#[99, 97, 116]⟩, .string ⟨#[100, 111, 103]⟩, .string ⟨#[101, 101, 108]⟩, .string ⟨#[102, 111, 120]⟩] ([⟨#[97, 110, 116]⟩, ⟨#[98, 101, 101]⟩, ⟨#[99, 97, 116]⟩, ⟨#[100, 111, 103]⟩, ⟨#[101, 101, 108]⟩, ⟨#[102, 111, 120]⟩] : List ByteArray) := ((OL.cons rfl (Rep.strI ⟨#[97, 110, 116]⟩) (OL.cons rfl (Rep.strI ⟨#[98, 101, 101]⟩) (OL.cons rfl (Rep.strI ⟨#[99, 97, 116]⟩) (OL.cons rfl (Rep.strI ⟨#[100, 111, 103]⟩) (OL.cons rfl (Rep.strI ⟨#[101, 101, 108]⟩) (OL.cons rfl (Rep.strI ⟨#[102, 111, 120]⟩) (OL.nil (Rp' := Rep.str)))))))) :)
 refine .reval 11 (n' := ([⟨#[97, 110, 116]⟩, ⟨#[98, 101, 101]⟩, ⟨#[99, 97, 116]⟩, ⟨#[100, 111, 103]⟩, ⟨#[101, 101, 108]⟩, ⟨#[102, 111, 120]⟩] : List ByteArray).length) rfl rfl (.go 13 ?_)
 refine .kB (fun y => ∃ (Z0 : List (ByteArray × Int)) (Z1 : _) (Z2 : Nat) (Z3 Z4 Z5 : _) (Z6 : List Int) (Z7 : _) (Z8 : Nat) (Z9 : _), y = ⟨[(5, .slice Z1 Z0.length Z2)], G :: Fs, [(b1, .cells #[.int .i64 Z4, .slice none 0 0, .int .i64 Z5, .slice none 0 0] 31 (0, 0)), (p0, .cells #[.slice Z7 Z6.length Z8, .int .i64 Z9] 91 (0, 0))], [.s (.slice Z1 Z0.length Z2) 69 2 Z0.length Z3]⟩ ∧ OL (Rep.pair Rep.str ri) G Z3 Z0 ∧ SlR (Rep.int .u8) G Z7 Z8 Z6 ∧ Xw Z0 Z4 Z5 Z6 Z9 = some r) [(0, _), (2, _)] [] [] [_] [0] ?_ ?_
 ·rintro _ ⟨v12, a13, k14, cs15, v16, v17, v18, a21, k22, v23, rfl, o24, s25, r27⟩
  refine .gn 0 ?_
  unfold Xw at r27
  try dsimp only at r27
  refine .go 3 ?_
  obtain ⟨u29, hu29, r30⟩ := X0 r27
  refine .pull 1 rfl [_, _] rfl ?_
  refine .callS (b1 := [_]) (b2 := [_]) (s1 := []) [_, _] [] .ro rfl rfl Tryz.call10 rfl rfl (X6 mcs s25 hu29) rfl (fun v33 bo so h34 => ?_)
  obtain ⟨a36, k37, rfl, rfl, rfl, s38⟩ := h34
  refine .gn 2 ?_
  obtain ⟨u39, hu39, r40⟩ := X0 r30
  refine .callS (b1 := [_]) (b2 := [_]) (s1 := []) [_, _] [] .ro rfl rfl Tryz.call10 rfl rfl (X6 mcs s38 hu39) rfl (fun v41 bo so h42 => ?_)
  obtain ⟨a43, k44, rfl, rfl, rfl, s45⟩ := h42
  refine .gn 2 ?_
  obtain ⟨u47, hu47, r48⟩ := X0 r40
  refine .callS (b1 := [_]) (b2 := [_]) (s1 := []) [_, _] [] .ro rfl rfl Tryz.call10 rfl rfl (X6 mcs s45 hu47) rfl (fun v49 bo so h50 => ?_)
  obtain ⟨a51, k52, rfl, rfl, rfl, s53⟩ := h50
  refine .gn 0 ?_
  refine .q .ro (.build [_, _] [(0, _), (1, _)] ty89 pl89 rfl rfl) rfl (.go 1 ?_)
  obtain ⟨u54, hu54, r55⟩ := X0 r48
  refine .callS (b1 := [_]) (b2 := [_]) (s1 := []) [_, _] [] .ro rfl rfl Tryz.call10 rfl rfl (X6 mcs s53 hu54) rfl (fun v56 bo so h57 => ?_)
  obtain ⟨a58, k59, rfl, rfl, rfl, s60⟩ := h57
  refine .gn 2 ?_
  obtain ⟨u61, hu61, r62⟩ := X0 r55
  refine .callS (b1 := [_]) (b2 := [_]) (s1 := []) [_, _] [] .ro rfl rfl Tryz.call10 rfl rfl (X6 mcs s60 hu61) rfl (fun v63 bo so h65 => ?_)
  obtain ⟨a66, k67, rfl, rfl, rfl, s68⟩ := h65
  refine .gn 0 ?_
  refine .q .ro (.build [_, _] [(0, _), (1, _)] ty89 pl89 rfl rfl) rfl (.go 1 ?_)
  obtain ⟨u70, hu70, r71⟩ := X0 r62
  refine .callS (b1 := [_]) (b2 := [_]) (s1 := []) [_, _] [] .ro rfl rfl Tryz.call10 rfl rfl (X6 mcs s68 hu70) rfl (fun v72 bo so h73 => ?_)
  obtain ⟨a74, k75, rfl, rfl, rfl, s76⟩ := h73
  refine .gn 0 ?_
  refine .q .ro (.build [_, _] [(0, _), (1, _)] ty89 pl89 rfl rfl) rfl ?_
  refine .lit [_, _, _, _, _, _] [(0, _), (1, _), (2, _)] .ro sl26 ty89 rfl rfl rfl rfl rfl rfl (fun b77 hb77 => ?_)
  have o78 : OL (Rep.pair ri ri) G [.int .i64 (w64 (1 + u39.1)), .int .i64 u47.1, .int .i64 (w64 (11 + u54.1)), .int .i64 u61.1, .int .i64 31, .int .i64 u70.1] ([((w64 (1 + u39.1)), u47.1), ((w64 (11 + u54.1)), u61.1), (31, u70.1)] : List (Int × Int)) := ((OL.cons rfl (Rep.pairI (Rep.intI .i64 (w64 (1 + u39.1))) (Rep.intI .i64 u47.1)) (OL.cons rfl (Rep.pairI (Rep.intI .i64 (w64 (11 + u54.1))) (Rep.intI .i64 u61.1)) (OL.cons rfl (Rep.pairI (Rep.intI .i64 31) (Rep.intI .i64 u70.1)) (OL.nil (Rp' := (Rep.pair ri ri)))))) :)
  refine .reval 56 (n' := ([((w64 (1 + u39.1)), u47.1), ((w64 (11 + u54.1)), u61.1), (31, u70.1)] : List (Int × Int)).length) rfl rfl (.q .ro (.build [_, _] [(0, _), (1, _)] ty28 pl28 rfl rfl) rfl ?_)
  refine .alloc .ro ty28 rfl (fun b79 hb79 => ?_)
  refine .store 0 [_, _] [_, _, _] .ro rfl rfl rfl ty28 rfl rfl rfl rfl (.go 3 ?_)
  refine .q .ro (.load_own_a 0 [_, _] rfl rfl ty28 rfl) rfl (.go 1 ?_)
  refine .freezeR 0 rfl rfl o78 [_, _] rfl B0 (fun G80 e81 B82 s83 => ?_)
  refine .freezeR 0 rfl rfl (OL.mono e81 o24) [_] rfl B82 (fun G84 e85 B86 s87 => ?_)
  obtain ⟨u88, hu88, r90⟩ := X0 r71
  refine .cW [_, _, _] Tryz.call19 (X99 mcs (SlR.mono e85 s83) s87 hu88) B86 (fun v91 bo so G92 e93 B94 h95 => ?_)
  obtain ⟨a96, k97, a98, k99, rfl, rfl, rfl, s100, s101⟩ := h95
  refine .gn 3 ?_
  refine .alloc .ro ty31 rfl (fun b102 hb102 => ?_)
  refine .store 0 [_, _, _, _] [_, _, _, _] .ro rfl rfl rfl ty31 rfl rfl rfl rfl (.go 8 ?_)
  refine .kI (fun y => ∃ (Z0 : _) (Z1 : List (ByteArray × Int)) (Z2 : _) (Z3 : Nat) (Z4 : _) (Z5 : List (Int × Int)) (Z6 : _) (Z7 : Nat) (Z8 : _) (Z9 : List (List (ByteArray × Int))) (Z10 : _) (Z11 : Nat), y = ⟨[(5, .slice Z2 Z1.length Z3)], Z0 :: Fs, [(b102, .cells #[.int .i64 Z4, .slice Z6 Z5.length Z7, .int .i64 Z8, .slice Z10 Z9.length Z11] 31 (0, 0))], []⟩ ∧ HpLe G92 Z0 ∧ Bd w0 S0 Fs Z0 ∧ SlR (Rep.pair Rep.str ri) Z0 Z2 Z3 Z1 ∧ SlR (Rep.pair ri ri) Z0 Z6 Z7 Z5 ∧ SlR (Rep.sl (Rep.pair Rep.str ri)) Z0 Z10 Z11 Z9 ∧ (X62 u70.2.1 u70.2.2) Z1 Z4 Z5 Z8 Z9 = some r) [(2, _), (9, _)] [_, _, _] [1, 2, 3] [_] [0] ?_ ?_
  ·rintro _ ⟨G103, v104, a105, k106, v107, v108, a109, k110, v111, v112, a113, k114, rfl, e115, B116, s117, s118, s119, r120⟩
   refine .gn 0 ?_
   unfold X62 at r120
   try dsimp only at r120
   refine .go 2 ?_
   refine .q .ro (.load_own_a 0 [_, _, _, _] rfl rfl ty31 rfl) rfl (.go 1 ?_)
   refine .store 3 [_, _, _, _] [_, _, _, _] .ro rfl rfl rfl ty31 rfl rfl rfl rfl (.go 2 ?_)
   cases r120
   refine .drop 0 1 _ [] rfl rfl (.pull 2 rfl [_, _, _, _] rfl (.pull 3 rfl [_, _, _, _] rfl (.pull 3 rfl [_, _, _, _] rfl (.pull 3 rfl [_, _, _, _] rfl ?_))))
   refine .rW 3 [.cell 2 31, .tmp 3] [_, _] Tryz.func7 Tryz.results7 ⟨RV.cell_a 2 [_, _, _, _] rfl rfl ty31 rfl, RV.tmp rfl, trivial⟩ B116 hS0 (fun G' hg => ⟨a109, k110, a113, k114, a105, k106, a74, k75, rfl, rfl, rfl, (SlR.mono hg s118), (SlR.mono hg s119), (SlR.mono hg s117), (SlR.mono hg (SlR.mono (HpLe.trans (HpLe.trans (HpLe.trans e81 e85) e93) e115) s76))⟩)
  ·intro hb121
   refine .cH r90 (fun c122 r123 => ?_) (fun c122 r124 => ?_)
   ·refine .go 2 ?_
    refine .q .ro (.load_own_a 1 [_, _] rfl rfl ty28 rfl) rfl ?_
    obtain ⟨u125, hu125, r126⟩ := X0 r123
    have hl127 := X99 (G := G92) (Fs := G92 :: Fs) mcs (SlR.mono (HpLe.trans e85 e93) s83) (SlR.nil (Rp' := (Rep.pair Rep.str ri))) hu125
    refine .callW (b1 := []) (b2 := [_, _, _, _]) (s1 := []) [_, _, _] [] .ro rfl rfl Tryz.call19 rfl rfl hl127 rfl B94 (fun v128 bo so G129 e130 B131 h132 => ?_)
    obtain ⟨a133, k134, a135, k136, rfl, rfl, rfl, s137, s138⟩ := h132
    refine .gn 3 ?_
    refine .store 0 [_, _, _, _] [_, _, _, _] .ro rfl rfl rfl ty31 rfl rfl rfl rfl (.go 4 ?_)
    exact (hb121 _ ⟨G129, ([] : List (ByteArray × Int)), none, 0, u125.1.1.1, u125.1.1.2, a133, k134, u125.1.2.1, u125.1.2.2, a135, k136, rfl, e130, B131, SlR.nil, s137, s138, r126⟩).ar
   ·refine .go 1 ?_
    exact (hb121 _ ⟨G92, v12, a13, k14, u88.1.1.1, u88.1.1.2, a96, k97, u88.1.2.1, u88.1.2.2, a98, k99, rfl, (HpLe.refl _), B94, (SlR.mono e93 s87), s100, s101, r124⟩).ar
 ·intro hb139
  refine .block (.own_nil 69 2 (.pull 1 rfl [_, _] rfl ?_))
  refine .lp (fun y m => ∃ (Z0 : Nat) (Z1 : List ByteArray) (Z2 : List (ByteArray × Int)) (Z3 : _) (Z4 : Nat) (Z5 : _) (Z6 : List Int) (Z7 : _) (Z8 : Nat) (Z9 : _), y = ⟨[(5, .slice Z3 Z2.length Z4), (14, .int .i64 (Z0 : Int))], [], [(p0, .cells #[.slice Z7 Z6.length Z8, .int .i64 Z9] 91 (0, 0))], [.s (.slice Z3 Z2.length Z4) 69 2 Z2.length Z5]⟩ ∧ Z1.length = m ∧ OL (Rep.pair Rep.str ri) G Z5 Z2 ∧ SlR (Rep.int .u8) G Z7 Z8 Z6 ∧ List.drop Z0 ([⟨#[97, 110, 116]⟩, ⟨#[98, 101, 101]⟩, ⟨#[99, 97, 116]⟩, ⟨#[100, 111, 103]⟩, ⟨#[101, 101, 108]⟩, ⟨#[102, 111, 120]⟩] : List ByteArray) = Z1 ∧ X2g Xw Z1 Z0 Z2 Z6 Z9 = some r) [(0, _), (2, _), (12, _), (13, _)] [_] [_] ⟨0, ([⟨#[97, 110, 116]⟩, ⟨#[98, 101, 101]⟩, ⟨#[99, 97, 116]⟩, ⟨#[100, 111, 103]⟩, ⟨#[101, 101, 108]⟩, ⟨#[102, 111, 120]⟩] : List ByteArray), ([] : List (ByteArray × Int)), none, 0, [], x0_0, a0_0, k0_0, x0_1, rfl, rfl, (OL.nil (Rp' := (Rep.pair Rep.str ri))), s0_0, rfl, h⟩ (fun y m hI hb140 => ?_)
  obtain ⟨i141, w142, v143, a144, k145, cs146, v147, a148, k149, v150, rfl, rfl, o151, s152, g153, r154⟩ := hI
  refine .gn 0 ?_
  cases w142 with
  | nil =>
   rw [X2g] at r154; try dsimp only at r154
   refine .go 5 ?_
   refine .cond_dec rfl (fun c => absurd c (X8 g153)) (fun _ => ?_)
   refine .exit rfl (.pull 1 rfl [_, _] rfl ?_)
   exact (hb139 _ ⟨v143, a144, k145, cs146, 0, 0, v147, a148, k149, v150, rfl, o151, s152, r154⟩).ar
  | cons x155 xs156 =>
   have r157 : X47 Xw (X2g Xw xs156 (i141 + 1)) x155 i141 v143 v147 v150 = some r := r154; clear r154; unfold X47 at r157; try dsimp only at r157
   refine .go 5 ?_
   refine .cond_dec rfl (fun _ => ?_) (fun c => absurd (Xf g153) c)
   refine .go 2 ?_
   refine .block (.go 3 ?_)
   obtain ⟨c158, p159, h160⟩ := OL.get o3 (X2 g153)
   obtain rfl := h160
   refine .q .ro (.idxO 1 rfl rfl rfl (X2 g153) sl46 ty9.sz) rfl (.q .ro (.loadO 1 0 rfl (X2 g153) p159 rfl (.inl ⟨rfl, rfl⟩) ty9 rfl) rfl (.go 6 ?_))
   obtain ⟨u161, hu161, r162⟩ := X0 r157
   refine .callS (b1 := [_]) (b2 := [_]) (s1 := []) [_, _] [] .ro rfl rfl Tryz.call10 rfl rfl (X6 mcs s152 hu161) rfl (fun v163 bo so h164 => ?_)
   obtain ⟨a165, k166, rfl, rfl, rfl, s167⟩ := h164
   refine .gn 2 ?_
   refine .kR (fun y => y = ⟨[(26, .bool (decide ((u161.1 = 0) ∧ ((v143.length : Int) < 3))))], G :: Fs, [], []⟩) [(5, _), (14, _), (0, _), (2, _), (12, _), (13, _), (6, _), (7, _)] [_, _] [0, 1] [_, _] [0, 1] 4 ?_ ?_
   ·rintro _ rfl
    refine .gn 1 ?_
    refine .cH r162 (fun c168 r169 => ?_) (fun c168 r170 => ?_)
    ·refine .go 6 ?_
     obtain ⟨u171, hu171, r172⟩ := X0 r169
     refine .callS (b1 := [_]) (b2 := [_]) (s1 := []) [_, _] [] .ro rfl rfl Tryz.call10 rfl rfl (X6 mcs s167 hu171) rfl (fun v173 bo so h174 => ?_)
     obtain ⟨a175, k176, rfl, rfl, rfl, s177⟩ := h174
     refine .gn 1 ?_
     refine .q .ro (.build [_, _] [(0, _), (1, _)] ty69 pl69 rfl rfl) rfl ?_
     refine .lit [_, _] [(0, _)] .ro sl32 ty69 rfl rfl rfl rfl rfl rfl (fun b178 hb178 => ?_)
     have o179 : OL (Rep.pair Rep.str ri) G [.string x155, .int .i64 (w64 ((w64 ((i141 : Int) * 100)) + u171.1))] ([(x155, (w64 ((w64 ((i141 : Int) * 100)) + u171.1)))] : List (ByteArray × Int)) := ((OL.cons rfl (Rep.pairI (Rep.strI x155) (Rep.intI .i64 (w64 ((w64 ((i141 : Int) * 100)) + u171.1)))) (OL.nil (Rp' := (Rep.pair Rep.str ri)))) :)
     refine .reval 35 (n' := ([(x155, (w64 ((w64 ((i141 : Int) * 100)) + u171.1)))] : List (ByteArray × Int)).length) rfl rfl ?_
     obtain ⟨u180, hu180, r181⟩ := X0 r172
     refine .appO (Q := (Rep.pair Rep.str ri)) 0 .ro sl32 ty69 rfl rfl rfl rfl rfl rfl o151 o179 rfl rfl rfl B0 hu180 rfl (fun a182 k183 cs184 o185 => ?_)
     refine .go 7 ?_
     exact (hb140 _ _ ⟨(i141 + 1), xs156, u180, a182, k183, cs184, u171.2.1, a175, k176, u171.2.2, rfl, rfl, o185, s177, (X3 g153), r181⟩ (Nat.lt_succ_self _)).ax ⟨rfl, (congrArg (fun z => some (Value.int .i64 z)) (X7 (OL.len' o3) g153)), rfl, rfl, rfl, rfl, trivial⟩
    ·refine .go 6 ?_
     exact (hb140 _ _ ⟨(i141 + 1), xs156, v143, a144, k145, cs146, u161.2.1, a165, k166, u161.2.2, rfl, rfl, o151, s167, (X3 g153), r170⟩ (Nat.lt_succ_self _)).ax ⟨rfl, (congrArg (fun z => some (Value.int .i64 z)) (X7 (OL.len' o3) g153)), rfl, rfl, rfl, rfl, trivial⟩
   ·intro hb186
    refine .split 22 rfl (fun c187 => ?_) (fun c187 => ?_)
    ·refine .go 7 ?_
     exact (hb186 _ rfl).ax ⟨X6w c187, rfl, rfl, rfl, rfl, rfl, rfl, rfl, rfl, trivial⟩
    ·refine .go 4 ?_
     exact (hb186 _ rfl).ax ⟨X6x c187, rfl, rfl, rfl, rfl, rfl, rfl, rfl, rfl, trivial⟩
theorem Xc5 {x0 : Int} {r : Bool} (hG : G ∈ Fs)  (h : X4y x0 = some r) : RetS Tryz.prog 91 #[.int .i64 x0] Fs [] [] (rv (.bool r)) := by
 unfold X4y at h
 try dsimp only at h
 refine RetS.st [(0, _)] Tryz.func91 Tryz.ntmps91 hG fun w0 S0 hS0 B0 => ?_
 refine .go 9 ?_
 refine .kR (fun y => y = ⟨[(8, .bool (decide ((x0 < 0) ∨ (256 ≤ x0))))], G :: Fs, [], []⟩) [(2, _)] [] [] [] [] 3 ?_ ?_
 ·rintro _ rfl
  refine .gn 2 ?_
  cases h
  refine .rS [.tmp 2] [_] Tryz.func91 Tryz.results91 ⟨rfl, rfl, rfl⟩
 ·intro hb2
  refine .split 5 rfl (fun c1 => ?_) (fun c1 => ?_)
  ·refine .go 3 ?_
   exact (hb2 _ rfl).ax ⟨X3s c1, rfl, trivial⟩
  ·refine .go 5 ?_
   exact (hb2 _ rfl).ax ⟨X44 c1, rfl, trivial⟩
theorem Xcw {x0 : List Int} {r : (ByteArray × Bool)} (hG : G ∈ Fs) (s0 : SlR ri G a0 k0 x0) (h : X77 x0 = some r) : RetS Tryz.prog 46 #[.slice a0 x0.length k0] Fs [] [] (rv (.tuple #[.string r.1, .bool r.2])) := by
 unfold X77 at h
 try dsimp only at h
 refine RetS.st [(0, _)] Tryz.func46 Tryz.ntmps46 hG fun w0 S0 hS0 B0 => ?_
 refine .go 9 ?_
 obtain ⟨u1, hu1, r2⟩ := X0 h
 refine .cV [_, _] Tryz.call90 (X5s mcs s0 Tryz.call91 (fun Fs' G1 hle hm y0 r  hr => Xc5 (G := G1) hm   hr) hu1) ?_
 refine .go 1 ?_
 refine .cB r2 (fun c5 r6 => ?_) (fun c5 r7 => ?_)
 ·refine .go 5 ?_
  cases r6
  refine .rS [.tmp 2, .tmp 3] [_, _] Tryz.func46 Tryz.results46 ⟨rfl, rfl, rfl⟩
 ·refine .go 5 ?_
  obtain ⟨u8, hu8, r9⟩ := X0 r7
  refine .makeR (G := G) (Q := (Rep.int .u8)) .ro sl22 ty5 rfl rfl rfl ((Rep.intI .u8 0) :) rfl rfl hu8 rfl rfl (fun b10 cs11 hb10 o12 => ?_)
  refine .go 9 ?_
  refine .kB (fun y => ∃ (Z0 : List Int) (Z1 : _) (Z2 : Nat) (Z3 : _), y = ⟨[(4, .slice Z1 Z0.length Z2)], G :: Fs, [], [.s (.slice Z1 Z0.length Z2) 5 1 Z0.length Z3]⟩ ∧ OL (Rep.int .u8) G Z3 Z0 ∧ X28 Z0 = some r) [] [] [] [] [] ?_ ?_
  ·rintro _ ⟨v64, a65, k66, cs67, rfl, o68, r71⟩
   refine .gn 0 ?_
   unfold X28 at r71
   try dsimp only at r71
   refine .go 3 ?_
   refine .freezeR 0 rfl rfl o68 [] rfl B0 (fun G72 e73 B74 s75 => ?_)
   refine .q .ro (.b2s s75 mcs rfl Tryz.underlying22 Tryz.underlying5 Tryz.underlying9) rfl (.go 3 ?_)
   cases r71
   refine .rS [.tmp 2, .tmp 3] [_, _] Tryz.func46 Tryz.results46 ⟨rfl, rfl, rfl⟩
  ·intro hb77
   refine .block ?_
   refine .lp (fun y m => ∃ (Z0 : Nat) (Z1 Z2 : List Int) (Z3 : _) (Z4 : Nat) (Z5 : _), y = ⟨[(4, .slice Z3 Z2.length Z4), (14, .int .i64 (Z0 : Int))], [], [], [.s (.slice Z3 Z2.length Z4) 5 1 Z2.length Z5]⟩ ∧ Z1.length = m ∧ OL (Rep.int .u8) G Z5 Z2 ∧ List.drop Z0 x0 = Z1 ∧ X29 X28 Z1 Z0 Z2 = some r) [(12, _), (13, _)] [] [] ⟨0, x0, u8, (some ⟨b10, 0, none⟩), u8.length, cs11, rfl, rfl, o12, rfl, r9⟩ (fun y m hI hb13 => ?_)
   obtain ⟨i99, w14, v15, a16, k17, cs18, rfl, rfl, o19, g20, r21⟩ := hI
   refine .gn 0 ?_
   cases w14 with
   | nil =>
    rw [X29] at r21; try dsimp only at r21
    refine .go 5 ?_
    refine .cond_dec rfl (fun c => absurd c (X8 g20)) (fun _ => ?_)
    refine .exit rfl ?_
    exact (hb77 _ ⟨v15, a16, k17, cs18, rfl, o19, r21⟩).ar
   | cons x23 xs24 =>
    have r25 : X6u X28 (X29 X28 xs24 (i99 + 1)) x23 i99 v15 = some r := r21; clear r21; unfold X6u at r25; try dsimp only at r25
    refine .go 5 ?_
    refine .cond_dec rfl (fun _ => ?_) (fun c => absurd (Xf g20) c)
    refine .go 2 ?_
    refine .block (.go 3 ?_)
    obtain ⟨c26, p27, h28⟩ := SlR.get s0 (X2 g20)
    obtain rfl := h28
    refine .q .ro (.idxR s0 rfl rfl (X2 g20) sl48 ty3.sz) rfl (.q .ro (.load_rp p27 mcs rfl ty3 rfl) rfl (.go 7 ?_))
    refine .q .ro (.convw Tryz.underlying3 Tryz.underlying5 rfl) rfl ?_
    obtain ⟨u29, hu29, r30⟩ := X0 r25
    obtain ⟨c31, p32, h33⟩ := OL.get o19 hu29
    obtain rfl := h33
    refine .q .ro (.idxO 0 rfl rfl rfl hu29 sl22 ty5.sz) rfl ?_
    obtain ⟨u34, hu34, r35⟩ := X0 r30
    refine .storeR 0 0 (Q := (Rep.int .u8)) .ro rfl rfl o19 hu34 rfl (.inl ⟨rfl, rfl⟩) rfl ty5 p32 ((Rep.intI .u8 (wu8 x23)) :) rfl rfl (fun cs36 hlcs36 o37 => ?_)
    refine .reval 4 hlcs36 rfl (.reval 19 hlcs36 rfl (.go 6 ?_))
    exact (hb13 _ _ ⟨(i99 + 1), xs24, u34, a16, k17, cs36, rfl, rfl, o37, (X3 g20), r35⟩ (Nat.lt_succ_self _)).ax ⟨rfl, (congrArg (fun z => some (Value.int .i64 z)) (X7 (SlR.len s0) g20)), rfl, rfl, trivial⟩
theorem Xcx {x0 : Int} {x1 : ByteArray} {r : ((List (ByteArray × Int)) × Int)} (hG : G ∈ Fs)  (h : X78 x0 x1 = some r) : RetW Tryz.prog 47 #[.int .i64 x0, .string x1] Fs [] [] (fun v bo so G => ∃ a0 : Option Addr, ∃ k0 : Nat, v = .tuple #[.slice a0 r.1.length k0, .int .i64 r.2] ∧ bo = [] ∧ so = [] ∧ SlR (Rep.pair Rep.str ri) G a0 k0 r.1) := by
 unfold X78 at h
 try dsimp only at h
 refine RetW.st [(0, _), (1, _)] Tryz.func47 Tryz.ntmps47 hG fun w0 S0 hS0 B0 => ?_
 refine .go 9 ?_
 obtain ⟨u1, hu1, r2⟩ := X0 h
 refine .cV [_] Tryz.call68 (X8f mcs  hu1) ?_
 refine .go 2 ?_
 refine .cB r2 (fun c5 r6 => ?_) (fun c5 r7 => ?_)
 ·refine .go 5 ?_
  cases r6
  refine .rW 0 [.tmp 4, .tmp 5] [_, _] Tryz.func47 Tryz.results47 ⟨RV.tmp rfl, RV.tmp rfl, trivial⟩ B0 hS0 (fun G' hg => ⟨none, 0, rfl, rfl, rfl, (SlR.mono hg (SlR.nil (Rp' := (Rep.pair Rep.str ri))))⟩)
 ·refine .go 9 ?_
  refine .q .ro (.len_s rfl Tryz.underlying9) rfl (.go 5 ?_)
  refine .cH r7 (fun c8 r9 => ?_) (fun c8 r10 => ?_)
  ·refine .go 5 ?_
   cases r9
   refine .rW 0 [.tmp 4, .tmp 5] [_, _] Tryz.func47 Tryz.results47 ⟨RV.tmp rfl, RV.tmp rfl, trivial⟩ B0 hS0 (fun G' hg => ⟨none, 0, rfl, rfl, rfl, (SlR.mono hg (SlR.nil (Rp' := (Rep.pair Rep.str ri))))⟩)
  ·refine .go 11 ?_
   refine .kB (fun y => ∃ (Z0 : List (ByteArray × Int)) (Z1 : _) (Z2 : Nat) (Z3 : _), y = ⟨[(7, .slice Z1 Z0.length Z2)], G :: Fs, [], [.s (.slice Z1 Z0.length Z2) 69 2 Z0.length Z3]⟩ ∧ OL (Rep.pair Rep.str ri) G Z3 Z0 ∧ (Xq x0 x1) Z0 = some r) [(0, _), (1, _)] [] [] [] [] ?_ ?_
   ·rintro _ ⟨v11, a12, k13, cs14, rfl, o15, r16⟩
    refine .gn 0 ?_
    unfold Xq at r16
    try dsimp only at r16
    refine .go 5 ?_
    refine .freezeR 0 rfl rfl o15 [] rfl B0 (fun G17 e18 B19 s20 => ?_)
    obtain ⟨u21, hu21, r22⟩ := X0 r16
    refine .cV [_, _] Tryz.call34 (Xb3 mcs s20 hu21) ?_
    refine .go 11 ?_
    refine .kR (fun y => y = ⟨[(80, .bool (decide ((u21.2 ≠ 0) ∨ (u21.1 ≠ x1))))], G17 :: Fs, [], []⟩) [(7, _)] [] [] [] [] 4 ?_ ?_
    ·rintro _ rfl
     refine .gn 1 ?_
     refine .cH r22 (fun c23 r24 => ?_) (fun c23 r25 => ?_)
     ·refine .go 5 ?_
      cases r24
      refine .rW 0 [.tmp 4, .tmp 5] [_, _] Tryz.func47 Tryz.results47 ⟨RV.tmp rfl, RV.tmp rfl, trivial⟩ B19 hS0 (fun G' hg => ⟨none, 0, rfl, rfl, rfl, (SlR.mono hg (SlR.nil (Rp' := (Rep.pair Rep.str ri))))⟩)
     ·refine .go 7 ?_
      cases r25
      refine .rW 0 [.tmp 4, .tmp 5] [_, _] Tryz.func47 Tryz.results47 ⟨RV.tmp rfl, RV.tmp rfl, trivial⟩ B19 hS0 (fun G' hg => ⟨a12, k13, rfl, rfl, rfl, (SlR.mono hg s20)⟩)
    ·intro hb26
     refine .split 76 rfl (fun c27 => ?_) (fun c27 => ?_)
     ·refine .go 4 ?_
      exact (hb26 _ rfl).ax ⟨X3s c27, rfl, trivial⟩
     ·refine .go 5 ?_
      refine .q .ro (.neq_s rfl rfl) rfl (.go 1 ?_)
      exact (hb26 _ rfl).ax ⟨X44 c27, rfl, trivial⟩
   ·intro hb28
    refine .block (.own_nil 69 2 ?_)
    refine .lp (fun y m => ∃ (Z0 : Nat) (Z1 : List (ByteArray × Int)) (Z2 : _) (Z3 : Nat) (Z4 Z5 : _), y = ⟨[(7, .slice Z2 Z1.length Z3), (25, .int .i64 Z5)], [], [], [.s (.slice Z2 Z1.length Z3) 69 2 Z1.length Z4]⟩ ∧ Z0 = m ∧ OL (Rep.pair Rep.str ri) G Z4 Z1 ∧ Xu (Xq x0 x1) x0 x1 Z0 Z1 Z5 = some r) [(0, _), (1, _), (6, _), (24, _)] [] [] ⟨big, ([] : List (ByteArray × Int)), none, 0, [], 0, rfl, rfl, (OL.nil (Rp' := (Rep.pair Rep.str ri))), r10⟩ (fun y m hI hb29 => ?_)
    obtain ⟨n30, v31, a33, k35, cs36, v37, rfl, rfl, o38, r39⟩ := hI
    refine .gn 0 ?_
    obtain ⟨m40, rfl⟩ : ∃ m, n30 = m + 1 := by cases n30 with | zero => exact absurd (show (none : Option _) = some _ from r39) (by simp) | succ m => exact ⟨m, rfl⟩
    have r41 : X50 (Xq x0 x1) x0 x1 (Xu (Xq x0 x1) x0 x1 m40) v31 v37 = some r := r39; clear r39; unfold X50 at r41; try dsimp only at r41
    refine .go 5 ?_
    refine .cH r41 (fun c42 r43 => ?_) (fun c42 r44 => ?_)
    ·refine .go 2 ?_
     refine .block (.go 15 ?_)
     obtain ⟨u45, hu45, r46⟩ := X0 r43
     refine .q .ro (.ssub rfl Tryz.underlying9 hu45 (fun h => .yes' rfl h) (fun h => .yes' rfl h)) rfl (.go 5 ?_)
     obtain ⟨u48, hu48, r49⟩ := X0 r46
     refine .q .ro (.sidx rfl rfl Tryz.underlying9 hu48) rfl (.q .ro (.convw Tryz.underlying5 Tryz.underlying3 rfl) rfl (.go 8 ?_))
     refine .cH r49 (fun c50 r51 => ?_) (fun c50 r52 => ?_)
     ·refine .exit rfl ?_
      exact (hb28 _ ⟨v31, a33, k35, cs36, rfl, o38, r51⟩).ar
     ·refine .go 7 ?_
      refine .cH r52 (fun c53 r54 => ?_) (fun c53 r55 => ?_)
      ·refine .go 5 ?_
       cases r54
       refine .drop 0 1 _ [] rfl rfl ?_
       refine .rW 0 [.tmp 4, .tmp 5] [_, _] Tryz.func47 Tryz.results47 ⟨RV.tmp rfl, RV.tmp rfl, trivial⟩ B0 hS0 (fun G' hg => ⟨none, 0, rfl, rfl, rfl, (SlR.mono hg (SlR.nil (Rp' := (Rep.pair Rep.str ri))))⟩)
      ·refine .go 6 ?_
       obtain ⟨u56, hu56, r57⟩ := X0 r55
       refine .q .ro (.ssub rfl Tryz.underlying9 hu56 (fun h => .yes' rfl h) (fun h => .yes' rfl h)) rfl (.q .ro (.build [_, _] [(0, _)] ty69 pl69 rfl rfl) rfl ?_)
       refine .alloc .ro ty69 rfl (fun b58 hb58 => ?_)
       refine .store 0 [_, _] [_] .ro rfl rfl rfl ty69 rfl rfl rfl rfl (.go 6 ?_)
       refine .kB (fun y => ∃ (Z0 : ByteArray) (Z1 : _), y = ⟨[], G :: Fs, [(b58, .cells #[.string Z0, .int .i64 Z1] 69 (0, 0))], []⟩ ∧ (X2a (Xu (Xq x0 x1) x0 x1 m40) v37 v31) Z0 Z1 = some r) [(7, _), (25, _), (0, _), (1, _), (6, _), (24, _), (11, _)] [] [] [_] [0] ?_ ?_
       ·rintro _ ⟨v59, v60, rfl, r61⟩
        refine .gn 0 ?_
        unfold X2a at r61
        try dsimp only at r61
        refine .go 2 ?_
        refine .q .ro (.load_own_a 0 [_, _] rfl rfl ty69 rfl) rfl ?_
        refine .lit [_, _] [(0, _)] .ro sl32 ty69 rfl rfl rfl rfl rfl rfl (fun b62 hb62 => ?_)
        have o63 : OL (Rep.pair Rep.str ri) G [.string v59, .int .i64 v60] ([(v59, v60)] : List (ByteArray × Int)) := ((OL.cons rfl (Rep.pairI (Rep.strI v59) (Rep.intI .i64 v60)) (OL.nil (Rp' := (Rep.pair Rep.str ri)))) :)
        refine .reval 65 (n' := ([(v59, v60)] : List (ByteArray × Int)).length) rfl rfl ?_
        obtain ⟨u65, hu65, r66⟩ := X0 r61
        refine .appO (Q := (Rep.pair Rep.str ri)) 0 .ro sl32 ty69 rfl rfl rfl rfl rfl rfl o38 o63 rfl rfl rfl B0 hu65 rfl (fun a67 k70 cs71 o72 => ?_)
        refine .go 7 ?_
        refine .drop 1 0 [] _ rfl rfl ?_
        exact (hb29 _ _ ⟨m40, u65, a67, k70, cs71, (w64 (v37 + 1)), rfl, rfl, o72, r66⟩ (Nat.lt_succ_self _)).ar
       ·intro hb73
        refine .block ?_
        refine .lp (fun y m => ∃ (Z0 : Nat) (Z1 Z2 : _), y = ⟨[(12, .int .i64 Z1)], [], [(b58, .cells #[.string u56, .int .i64 Z2] 69 (0, 0))], []⟩ ∧ Z0 = m ∧ X1r (X2a (Xu (Xq x0 x1) x0 x1 m40) v37 v31) u45 u56 Z0 Z1 Z2 = some r) [(7, _), (25, _), (0, _), (1, _), (6, _), (24, _), (9, _), (11, _)] [] [_] ⟨big, 3, 0, rfl, rfl, r57⟩ (fun y m hI hb74 => ?_)
        obtain ⟨n75, v76, v77, rfl, rfl, r78⟩ := hI
        refine .gn 0 ?_
        obtain ⟨m79, rfl⟩ : ∃ m, n75 = m + 1 := by cases n75 with | zero => exact absurd (show (none : Option _) = some _ from r78) (by simp) | succ m => exact ⟨m, rfl⟩
        have r80 : X4z (X2a (Xu (Xq x0 x1) x0 x1 m40) v37 v31) u45 u56 (X1r (X2a (Xu (Xq x0 x1) x0 x1 m40) v37 v31) u45 u56 m79) v76 v77 = some r := r78; clear r78; unfold X4z at r80; try dsimp only at r80
        refine .go 6 ?_
        refine .cH r80 (fun c81 r82 => ?_) (fun c81 r83 => ?_)
        ·refine .go 2 ?_
         refine .block (.drawL (.q 0 (.q 1 (.q 2 (.q 3 (.q 4 (.q 5 (.q 6 (.q 7 (.q 8 (.q 9 (.e 10 2 .nil))))))))))) [_] (by kernel_rfl) (by kernel_rfl) (X1 [0] rfl) (.go 2 ?_))
         refine .dq (.shlw rfl rfl (by decide)) rfl (.go 3 ?_)
         obtain ⟨u84, hu84, r85⟩ := X0 r82
         refine .dq (.sidx rfl rfl Tryz.underlying9 hu84) rfl (.dq (.convw Tryz.underlying5 Tryz.underlying3 rfl) rfl (.dq (.orw rfl rfl) rfl (.go 1 ?_)))
         refine .store 0 [_, _] [_] .d2 rfl rfl rfl ty3 rfl rfl rfl rfl (.go 7 ?_)
         exact (hb74 _ _ ⟨m79, (w64 (v76 - 1)), (orI .i64 (shlI .i64 v77 8) (w64 u84)), rfl, rfl, r85⟩ (Nat.lt_succ_self _)).ar
        ·refine .exit rfl ?_
         exact (hb73 _ ⟨u56, v77, rfl, r83⟩).ar
    ·refine .exit rfl ?_
     exact (hb28 _ ⟨v31, a33, k35, cs36, rfl, o38, r44⟩).ar
theorem Xe9 {x0 : ByteArray} {x1 : List (List (ByteArray × Int))} {r : (Int × Bool × Int)} (hG : G ∈ Fs) (s1 : SlR (Rep.sl (Rep.pair Rep.str ri)) G a1 k1 x1) (h : X8y x0 x1 = some r) : RetS Tryz.prog 48 #[.string x0, .slice a1 x1.length k1] Fs [] [] (rv (.tuple #[.int .i64 r.1, .bool r.2.1, .int .i64 r.2.2])) := by
 unfold X8y at h
 try dsimp only at h
 refine RetS.st [(0, _), (1, _)] Tryz.func48 Tryz.ntmps48 hG fun w0 S0 hS0 B0 => ?_
 refine .go 10 ?_
 obtain ⟨u1, hu1, r2⟩ := X0 h
 refine .cV [_] Tryz.call74 (X93 mcs  hu1) ?_
 refine .go 2 ?_
 refine .cB r2 (fun c5 r6 => ?_) (fun c5 r7 => ?_)
 ·refine .go 6 ?_
  cases r6
  refine .rS [.tmp 4, .tmp 5, .tmp 6] [_, _, _] Tryz.func48 Tryz.results48 ⟨rfl, rfl, rfl⟩
 ·refine .go 8 ?_
  refine .block ?_
  refine .lp (fun y m => ∃ (Z0 : Nat) (Z1 : List (List (ByteArray × Int))), y = ⟨[(16, .int .i64 (Z0 : Int))], [], [], []⟩ ∧ Z1.length = m ∧ List.drop Z0 x1 = Z1 ∧ X2y x0 Z1  = some r) [(0, _), (14, _), (15, _)] [] [] ⟨0, x1, rfl, rfl, rfl, r7⟩ (fun y m hI hb61 => ?_)
  obtain ⟨i57, w58, rfl, rfl, g59, r60⟩ := hI
  refine .gn 0 ?_
  cases w58 with
  | nil =>
   rw [X2y] at r60; try dsimp only at r60
   refine .go 5 ?_
   refine .cond_dec rfl (fun c => absurd c (X8 g59)) (fun _ => ?_)
   refine .exit rfl (.go 6 ?_)
   cases r60
   refine .rS [.tmp 4, .tmp 5, .tmp 6] [_, _, _] Tryz.func48 Tryz.results48 ⟨rfl, rfl, rfl⟩
  | cons x66 xs67 =>
   have r65 : X9n x0 (X2y x0 xs67) x66  = some r := r60; clear r60; unfold X9n at r65; try dsimp only at r65
   refine .go 5 ?_
   refine .cond_dec rfl (fun _ => ?_) (fun c => absurd (Xf g59) c)
   refine .go 2 ?_
   refine .block (.go 2 ?_)
   obtain ⟨c68, p69, h70⟩ := SlR.get s1 (X2 g59)
   obtain ⟨a71, k72, rfl, s73⟩ := h70
   refine .q .ro (.idxR s1 rfl rfl (X2 g59) sl29 ty32.sz) rfl (.q .ro (.load_rp p69 mcs rfl ty32 rfl) rfl (.go 8 ?_))
   refine .block ?_
   refine .lp (fun y m => ∃ (Z0 : Nat) (Z1 : List (ByteArray × Int)), y = ⟨[(22, .int .i64 (Z0 : Int))], [], [], []⟩ ∧ Z1.length = m ∧ List.drop Z0 x66 = Z1 ∧ X3y (X2y x0 xs67) x0 Z1  = some r) [(16, _), (0, _), (14, _), (15, _), (20, _), (21, _)] [] [] ⟨0, x66, rfl, rfl, rfl, r65⟩ (fun y m hI hb93 => ?_)
   obtain ⟨i89, w90, rfl, rfl, g91, r92⟩ := hI
   refine .gn 0 ?_
   cases w90 with
   | nil =>
    rw [X3y] at r92; try dsimp only at r92
    refine .go 5 ?_
    refine .cond_dec rfl (fun c => absurd c (X8 g91)) (fun _ => ?_)
    refine .exit rfl (.go 5 ?_)
    exact (hb61 _ _ ⟨(i57 + 1), xs67, rfl, rfl, (X3 g59), r92⟩ (Nat.lt_succ_self _)).ax ⟨(congrArg (fun z => some (Value.int .i64 z)) (X7 (SlR.len s1) g59)), rfl, rfl, rfl, trivial⟩
   | cons x10 xs11 =>
    have r12 : X6i (X2y x0 xs67) x0 (X3y (X2y x0 xs67) x0 xs11) x10  = some r := r92; clear r92; unfold X6i at r12; try dsimp only at r12
    refine .go 5 ?_
    refine .cond_dec rfl (fun _ => ?_) (fun c => absurd (Xf g91) c)
    refine .go 2 ?_
    refine .block (.go 2 ?_)
    obtain ⟨c13, p14, h15⟩ := SlR.get s73 (X2 g91)
    obtain ⟨_, _, rfl, rfl, rfl⟩ := h15
    refine .q .ro (.idxR s73 rfl rfl (X2 g91) sl32 ty69.sz) rfl (.q .ro (.load_rp_a [_, _] p14 mcs rfl ty69 rfl) rfl ?_)
    refine .alloc .ro ty69 rfl (fun b16 hb16 => ?_)
    refine .store 0 [_, _] [_] .ro rfl rfl rfl ty69 rfl rfl rfl rfl (.go 6 ?_)
    refine .q .ro (.eql_s rfl rfl) rfl (.go 1 ?_)
    refine .cH r12 (fun c17 r18 => ?_) (fun c17 r19 => ?_)
    ·refine .go 8 ?_
     cases r18
     refine .drop 1 0 [] _ rfl rfl ?_
     refine .rS [.tmp 4, .tmp 5, .tmp 6] [_, _, _] Tryz.func48 Tryz.results48 ⟨rfl, rfl, rfl⟩
    ·refine .go 6 ?_
     refine .drop 1 0 [] _ rfl rfl ?_
     exact (hb93 _ _ ⟨(i89 + 1), xs11, rfl, rfl, (X3 g91), r19⟩ (Nat.lt_succ_self _)).ax ⟨(congrArg (fun z => some (Value.int .i64 z)) (X7 (SlR.len s73) g91)), rfl, rfl, rfl, rfl, rfl, rfl, trivial⟩
theorem Xfg {x0 : Int} {x1 : ByteArray} {x2 : List (Int × (List Int) × (List Int))} {r : (Int × Bool × Int)} (hG : G ∈ Fs) (s2 : SlR (Rep.pair ri (Rep.pair (Rep.sl ri) (Rep.sl ri))) G a2 k2 x2) (h : X9o x0 x1 x2 = some r) : RetS Tryz.prog 18 #[.int .i64 x0, .string x1, .slice a2 x2.length k2] Fs [] [] (rv (.tuple #[.int .i64 r.1, .bool r.2.1, .int .i64 r.2.2])) := by
 unfold X9o at h
 try dsimp only at h
 refine RetS.st [(0, _), (1, _), (2, _)] Tryz.func18 Tryz.ntmps18 hG fun w0 S0 hS0 B0 => ?_
 refine .go 13 ?_
 refine .cutB (β := Unit) (fun y => []) [(0, _), (1, _), (2, _)] (fun y => G :: Fs) (fun y => []) [] (fun y => []) [] (fun y => (X4j x0 x1 x2)  = some r) ⟨rfl, rfl, rfl, trivial⟩ [] rfl [] rfl ?_ ?_
 ·intro _ hI
  have r48 := hI; clear hI
  refine .gn 0 ?_
  unfold X4j at r48
  try dsimp only at r48
  refine .go 4 ?_
  obtain ⟨u52, hu52, r53⟩ := X0 r48
  refine .makeR (G := G) (Q := Rep.str) .ro sl46 ty9 rfl rfl rfl ((Rep.strI ByteArray.empty) :) rfl rfl hu52 rfl rfl (fun b54 cs55 hb54 o56 => ?_)
  refine .go 9 ?_
  refine .kB (fun y => ∃ (Z0 : List ByteArray) (Z1 : _) (Z2 : Nat) (Z3 : _), y = ⟨[(11, .slice Z1 Z0.length Z2)], G :: Fs, [], [.s (.slice Z1 Z0.length Z2) 9 1 Z0.length Z3]⟩ ∧ OL Rep.str G Z3 Z0 ∧ (X4i x0 x1) Z0 = some r) [(0, _), (1, _)] [] [] [] [] ?_ ?_
  ·rintro _ ⟨v10, a11, k12, cs13, rfl, o14, r15⟩
   refine .gn 0 ?_
   unfold X4i at r15
   try dsimp only at r15
   refine .go 11 ?_
   refine .kB (fun y => ∃ (Z0 : _) (Z1 : List (List (ByteArray × Int))) (Z2 : _) (Z3 : Nat) (Z4 : _), y = ⟨[(16, .slice Z2 Z1.length Z3)], Z0 :: Fs, [], [.s (.slice Z2 Z1.length Z3) 32 1 Z1.length Z4]⟩ ∧ HpLe G Z0 ∧ Bd w0 S0 Fs Z0 ∧ OL (Rep.sl (Rep.pair Rep.str ri)) Z0 Z4 Z1 ∧ (X3k x1) Z1 = some r) [(1, _)] [] [] [_] [0] ?_ ?_
   ·rintro _ ⟨G16, v17, a19, k20, cs21, rfl, e22, B23, o24, r25⟩
    refine .gn 0 ?_
    unfold X3k at r25
    try dsimp only at r25
    refine .go 4 ?_
    refine .freezeR 0 rfl rfl o24 [_] rfl B23 (fun G26 e27 B28 s30 => ?_)
    obtain ⟨u31, hu31, r33⟩ := X0 r25
    refine .cV [_, _] Tryz.call48 (Xe9 mcs s30 hu31) ?_
    refine .go 7 ?_
    cases r33
    refine .drop 0 1 _ [] rfl rfl ?_
    refine .rS [.tmp 6, .tmp 7, .tmp 8] [_, _, _] Tryz.func18 Tryz.results18 ⟨rfl, rfl, rfl⟩
   ·intro hb34
    refine .block (.own_nil 32 1 ?_)
    refine .lp (fun y m => ∃ (Z0 : Nat) (Z1 : List ByteArray) (Z2 : _) (Z3 : List (List (ByteArray × Int))) (Z4 : _) (Z5 : Nat) (Z6 : _), y = ⟨[(16, .slice Z4 Z3.length Z5), (58, .int .i64 (Z0 : Int))], [Z2], [], [.s (.slice Z4 Z3.length Z5) 32 1 Z3.length Z6]⟩ ∧ Z1.length = m ∧ HpLe G Z2 ∧ Bd w0 S0 Fs Z2 ∧ OL (Rep.sl (Rep.pair Rep.str ri)) Z2 Z6 Z3 ∧ List.drop Z0 v10 = Z1 ∧ X3l (X3k x1) x0 Z1 Z3 = some r) [(0, _), (1, _), (56, _), (57, _)] [] [_] ⟨0, v10, G, ([] : List (List (ByteArray × Int))), none, 0, [], rfl, rfl, (HpLe.refl _), B0, (OL.nil (Rp' := (Rep.sl (Rep.pair Rep.str ri)))), rfl, r15⟩ (fun y m hI hb35 => ?_)
    obtain ⟨i36, w37, G38, v39, a40, k41, cs42, rfl, rfl, e43, B44, o45, g49, r50⟩ := hI
    refine .gn 0 ?_
    cases w37 with
    | nil =>
     rw [X3l] at r50; try dsimp only at r50
     refine .go 5 ?_
     refine .cond_dec rfl (fun c => absurd c (X8 g49)) (fun _ => ?_)
     refine .exit rfl ?_
     exact (hb34 _ ⟨G38, v39, a40, k41, cs42, rfl, e43, B44, o45, r50⟩).ar
    | cons x51 xs57 =>
     have r58 : X8l (X3k x1) x0 (X3l (X3k x1) x0 xs57) x51 v39 = some r := r50; clear r50; unfold X8l at r58; try dsimp only at r58
     refine .go 5 ?_
     refine .cond_dec rfl (fun _ => ?_) (fun c => absurd (Xf g49) c)
     refine .go 2 ?_
     refine .block (.go 2 ?_)
     obtain ⟨c59, p60, h61⟩ := OL.get (OL.mono e43 o14) (X2 g49)
     obtain rfl := h61
     refine .q .ro (.idxO 1 rfl rfl rfl (X2 g49) sl46 ty9.sz) rfl (.q .ro (.loadO 1 0 rfl (X2 g49) p60 rfl (.inl ⟨rfl, rfl⟩) ty9 rfl) rfl (.go 6 ?_))
     obtain ⟨u62, hu62, r65⟩ := X0 r58
     refine .cW [_, _] Tryz.call47 (Xcx mcs  hu62) B44 (fun v66 bo so G67 e68 B69 h70 => ?_)
     obtain ⟨a71, k72, rfl, rfl, rfl, s73⟩ := h70
     refine .gn 12 ?_
     refine .cH r65 (fun c74 r75 => ?_) (fun c74 r76 => ?_)
     ·refine .go 7 ?_
      cases r75
      refine .drop 0 2 _ [] rfl rfl ?_
      refine .rS [.tmp 6, .tmp 7, .tmp 8] [_, _, _] Tryz.func18 Tryz.results18 ⟨rfl, rfl, rfl⟩
     ·refine .go 4 ?_
      refine .lit [_] [(0, _)] .ro sl29 ty32 rfl rfl rfl rfl rfl rfl (fun b77 hb77 => ?_)
      have o78 : OL (Rep.sl (Rep.pair Rep.str ri)) G67 [.slice a71 u62.1.length k72] ([u62.1] : List (List (ByteArray × Int))) := ((OL.cons rfl (Rep.slI s73) (OL.nil (Rp' := (Rep.sl (Rep.pair Rep.str ri))))) :)
      refine .reval 73 (n' := ([u62.1] : List (List (ByteArray × Int))).length) rfl rfl ?_
      obtain ⟨u79, hu79, r81⟩ := X0 r76
      refine .appO (Q := (Rep.sl (Rep.pair Rep.str ri))) 0 .ro sl29 ty32 rfl rfl rfl rfl rfl rfl (OL.mono e68 o45) o78 rfl rfl rfl B69 hu79 rfl (fun a82 k83 cs84 o85 => ?_)
      refine .go 7 ?_
      exact (hb35 _ _ ⟨(i36 + 1), xs57, G67, u79, a82, k83, cs84, rfl, rfl, (HpLe.trans e43 e68), B69, o85, (X3 g49), r81⟩ (Nat.lt_succ_self _)).ax ⟨rfl, (congrArg (fun z => some (Value.int .i64 z)) (X7 (OL.len' o14) g49)), rfl, rfl, rfl, rfl, trivial⟩
  ·intro hb86
   refine .block ?_
   refine .lp (fun y m => ∃ (Z0 : Nat) (Z1 : List (Int × (List Int) × (List Int))) (Z2 : List ByteArray) (Z3 : _) (Z4 : Nat) (Z5 : _), y = ⟨[(11, .slice Z3 Z2.length Z4), (38, .int .i64 (Z0 : Int))], [], [], [.s (.slice Z3 Z2.length Z4) 9 1 Z2.length Z5]⟩ ∧ Z1.length = m ∧ OL Rep.str G Z5 Z2 ∧ List.drop Z0 x2 = Z1 ∧ X3m (X4i x0 x1) Z1 Z0 Z2 = some r) [(0, _), (1, _), (36, _), (37, _)] [] [] ⟨0, x2, u52, (some ⟨b54, 0, none⟩), u52.length, cs55, rfl, rfl, o56, rfl, r53⟩ (fun y m hI hb87 => ?_)
   obtain ⟨i88, w89, v90, a91, k92, cs93, rfl, rfl, o94, g95, r96⟩ := hI
   refine .gn 0 ?_
   cases w89 with
   | nil =>
    rw [X3m] at r96; try dsimp only at r96
    refine .go 5 ?_
    refine .cond_dec rfl (fun c => absurd c (X8 g95)) (fun _ => ?_)
    refine .exit rfl ?_
    exact (hb86 _ ⟨v90, a91, k92, cs93, rfl, o94, r96⟩).ar
   | cons x97 xs98 =>
    have r99 : X8m (X4i x0 x1) (X3m (X4i x0 x1) xs98 (i88 + 1)) x97 i88 v90 = some r := r96; clear r96; unfold X8m at r99; try dsimp only at r99
    refine .go 5 ?_
    refine .cond_dec rfl (fun _ => ?_) (fun c => absurd (Xf g95) c)
    refine .go 2 ?_
    refine .block (.go 3 ?_)
    obtain ⟨c100, p101, h102⟩ := SlR.get s2 (X2 g95)
    obtain ⟨_, _, rfl, rfl, _, _, rfl, ⟨a103, k104, rfl, s105⟩, a106, k107, rfl, s108⟩ := h102
    refine .q .ro (.idxR s2 rfl rfl (X2 g95) sl63 ty80.sz) rfl (.q .ro (.load_rp_a [_, _, _] p101 mcs rfl ty80 rfl) rfl ?_)
    refine .alloc .ro ty80 rfl (fun b109 hb109 => ?_)
    refine .go 1 ?_
    refine .store 0 [_, _, _] [_] .ro rfl rfl rfl ty80 rfl rfl rfl rfl (.go 5 ?_)
    obtain ⟨u110, hu110, r111⟩ := X0 r99
    refine .cV [_] Tryz.call46 (Xcw mcs s105 hu110) ?_
    refine .go 12 ?_
    refine .cB r111 (fun c112 r113 => ?_) (fun c112 r114 => ?_)
    ·refine .go 6 ?_
     cases r113
     refine .drop 1 0 [] _ rfl rfl (.drop 0 1 _ [] rfl rfl ?_)
     refine .rS [.tmp 6, .tmp 7, .tmp 8] [_, _, _] Tryz.func18 Tryz.results18 ⟨rfl, rfl, rfl⟩
    ·refine .go 5 ?_
     obtain ⟨u115, hu115, r116⟩ := X0 r114
     obtain ⟨c117, p118, h119⟩ := OL.get o94 hu115
     obtain rfl := h119
     refine .q .ro (.idxO 0 rfl rfl rfl hu115 sl46 ty9.sz) rfl ?_
     obtain ⟨u120, hu120, r121⟩ := X0 r116
     refine .storeR 0 0 (Q := Rep.str) .ro rfl rfl o94 hu120 rfl (.inl ⟨rfl, rfl⟩) rfl ty9 p118 ((Rep.strI u110.1) :) rfl rfl (fun cs122 hlcs122 o123 => ?_)
     refine .reval 11 hlcs122 rfl (.reval 51 hlcs122 rfl (.go 6 ?_))
     refine .drop 1 0 [] _ rfl rfl ?_
     exact (hb87 _ _ ⟨(i88 + 1), xs98, u120, a91, k92, cs122, rfl, rfl, o123, (X3 g95), r121⟩ (Nat.lt_succ_self _)).ax ⟨rfl, (congrArg (fun z => some (Value.int .i64 z)) (X7 (SlR.len s2) g95)), rfl, rfl, rfl, rfl, trivial⟩
 ·intro hb124
  refine .block ?_
  refine .lp (fun y m => ∃ (Z0 : Nat) (Z1 : List (Int × (List Int) × (List Int))), y = ⟨[(23, .int .i64 (Z0 : Int))], [], [], []⟩ ∧ Z1.length = m ∧ List.drop Z0 x2 = Z1 ∧ X3n (X4j x0 x1 x2) Z1  = some r) [(0, _), (1, _), (2, _), (21, _), (22, _)] [] [] ⟨0, x2, rfl, rfl, rfl, h⟩ (fun y m hI hb125 => ?_)
  obtain ⟨i126, w127, rfl, rfl, g128, r129⟩ := hI
  refine .gn 0 ?_
  cases w127 with
  | nil =>
   rw [X3n] at r129; try dsimp only at r129
   refine .go 5 ?_
   refine .cond_dec rfl (fun c => absurd c (X8 g128)) (fun _ => ?_)
   refine .exit rfl ?_
   exact .arr (hb124 () r129) ⟨rfl, rfl, rfl, trivial⟩
  | cons x130 xs131 =>
   have r132 : X8n (X4j x0 x1 x2) (X3n (X4j x0 x1 x2) xs131) x130  = some r := r129; clear r129; unfold X8n at r132; try dsimp only at r132
   refine .go 5 ?_
   refine .cond_dec rfl (fun _ => ?_) (fun c => absurd (Xf g128) c)
   refine .go 2 ?_
   refine .block (.go 2 ?_)
   obtain ⟨c133, p134, h135⟩ := SlR.get s2 (X2 g128)
   obtain ⟨_, _, rfl, rfl, _, _, rfl, ⟨a136, k137, rfl, s138⟩, a139, k140, rfl, s141⟩ := h135
   refine .q .ro (.idxR s2 rfl rfl (X2 g128) sl63 ty80.sz) rfl (.q .ro (.load_rp_a [_, _, _] p134 mcs rfl ty80 rfl) rfl ?_)
   refine .alloc .ro ty80 rfl (fun b142 hb142 => ?_)
   refine .store 0 [_, _, _] [_] .ro rfl rfl rfl ty80 rfl rfl rfl rfl (.go 7 ?_)
   refine .cH r132 (fun c143 r144 => ?_) (fun c143 r145 => ?_)
   ·refine .go 1 ?_
    refine .drawL (.q 0 (.q 1 (.q 2 (.q 3 (.q 4 .nil))))) [_] (by kernel_rfl) (by kernel_rfl) (X1 [0] rfl) (.go 6 ?_)
    cases r144
    refine .drop 1 0 [] _ rfl rfl ?_
    refine .rS [.tmp 6, .tmp 7, .tmp 8] [_, _, _] Tryz.func18 Tryz.results18 ⟨rfl, rfl, rfl⟩
   ·refine .go 6 ?_
    refine .drop 1 0 [] _ rfl rfl ?_
    exact (hb125 _ _ ⟨(i126 + 1), xs131, rfl, rfl, (X3 g128), r145⟩ (Nat.lt_succ_self _)).ax ⟨(congrArg (fun z => some (Value.int .i64 z)) (X7 (SlR.len s2) g128)), rfl, rfl, rfl, rfl, rfl, trivial⟩
theorem Xax {x0 : Int} {r : Int} (hG : G ∈ Fs)  (h : X3z x0 = some r) : RetS Tryz.prog 31 #[.int .i64 x0] Fs [] [] (rv (.int .i64 r)) := by
 unfold X3z at h
 try dsimp only at h
 refine RetS.st [(0, _)] Tryz.func31 Tryz.ntmps31 hG fun w0 S0 hS0 B0 => ?_
 refine .go 10 ?_
 cases h
 refine .rS [.tmp 2] [_] Tryz.func31 Tryz.results31 ⟨rfl, rfl, rfl⟩
theorem Xhc {x0 : List Int} {x1 : Int} {r : Bool} (hG : G ∈ Fs) (s0 : SlR ri G a0 k0 x0) (h : X9p x0 x1 = some r) : RetS Tryz.prog 96 #[.slice a0 x0.length k0, .int .i64 x1] Fs [] [] (rv (.bool r)) := by
 unfold X9p at h
 try dsimp only at h
 refine RetS.st [(0, _), (1, _)] Tryz.func96 Tryz.ntmps96 hG fun w0 S0 hS0 B0 => ?_
 refine .go 11 ?_
 refine .block ?_
 refine .lp (fun y m => ∃ (Z0 : Nat) (Z1 : List Int), y = ⟨[(9, .int .i64 (Z0 : Int))], [], [], []⟩ ∧ Z1.length = m ∧ List.drop Z0 x0 = Z1 ∧ X6j x1 Z1  = some r) [(1, _), (7, _), (8, _)] [] [] ⟨0, x0, rfl, rfl, rfl, h⟩ (fun y m hI hb19 => ?_)
 obtain ⟨i15, w16, rfl, rfl, g17, r18⟩ := hI
 refine .gn 0 ?_
 cases w16 with
 | nil =>
  rw [X6j] at r18; try dsimp only at r18
  refine .go 5 ?_
  refine .cond_dec rfl (fun c => absurd c (X8 g17)) (fun _ => ?_)
  refine .exit rfl (.go 4 ?_)
  cases r18
  refine .rS [.tmp 4] [_] Tryz.func96 Tryz.results96 ⟨rfl, rfl, rfl⟩
 | cons x24 xs25 =>
  have r23 : X8z x1 (X6j x1 xs25) x24  = some r := r18; clear r18; unfold X8z at r23; try dsimp only at r23
  refine .go 5 ?_
  refine .cond_dec rfl (fun _ => ?_) (fun c => absurd (Xf g17) c)
  refine .go 2 ?_
  refine .block (.go 2 ?_)
  obtain ⟨c26, p27, h28⟩ := SlR.get s0 (X2 g17)
  obtain rfl := h28
  refine .q .ro (.idxR s0 rfl rfl (X2 g17) sl48 ty3.sz) rfl (.q .ro (.load_rp p27 mcs rfl ty3 rfl) rfl (.go 8 ?_))
  refine .cH r23 (fun c29 r30 => ?_) (fun c29 r31 => ?_)
  ·refine .go 4 ?_
   cases r30
   refine .rS [.tmp 4] [_] Tryz.func96 Tryz.results96 ⟨rfl, rfl, rfl⟩
  ·refine .go 6 ?_
   exact (hb19 _ _ ⟨(i15 + 1), xs25, rfl, rfl, (X3 g17), r31⟩ (Nat.lt_succ_self _)).ax ⟨(congrArg (fun z => some (Value.int .i64 z)) (X7 (SlR.len s0) g17)), rfl, rfl, rfl, trivial⟩
end Go.Proofs.YtmfppphlhgneeaaGreat
end

section
set_option maxHeartbeats 4000000
set_option maxRecDepth 100000
namespace Go.Proofs.YtmfppphlhgneeaaGreat
open Go.RowKit
set_option linter.unusedSimpArgs false
set_option linter.unusedVariables false
set_option synthInstance.maxSize 2000
set_option synthInstance.maxHeartbeats 400000
variable {Fs : List Hp} {G : Hp} {a0_1 a0_3 a0 a1 a3 a2_1 a2_3 a1_3 : Option Addr} {k0_1 k0_3 k0 k1 k3 k2_1 k2_3 k1_3 : Nat}
theorem Xfh {x0_0 : Int} {x0_1 : List (Int × Int)} {x0_2 : Int} {x0_3 : List (List (ByteArray × Int))} {r : Int} (hG : G ∈ Fs) (s0_1 : SlR (Rep.pair ri ri) G a0_1 k0_1 x0_1) (s0_3 : SlR (Rep.sl (Rep.pair Rep.str ri)) G a0_3 k0_3 x0_3) (h : X9q ((x0_0, x0_1), x0_2, x0_3) = some r) : RetS Tryz.prog 53 #[.agg #[.int .i64 x0_0, .slice a0_1 x0_1.length k0_1, .int .i64 x0_2, .slice a0_3 x0_3.length k0_3]] Fs [] [] (rv (.int .i64 r)) := by
 unfold X9q at h
 try dsimp only at h
 refine RetS.st [(0, _)] Tryz.func53 Tryz.ntmps53 hG fun w0 S0 hS0 B0 => ?_
 refine .go 2 ?_
 refine .box [_, _, _, _] .ro rfl rfl rfl (fun b1 hb1 => ?_)
 refine .go 6 ?_
 refine .q .ro (.load_own_a 0 [_, _] rfl rfl ty28 rfl) rfl ?_
 obtain ⟨u2, hu2, r3⟩ := X0 h
 refine .cV [_] Tryz.call49 (X98 mcs s0_1 hu2) ?_
 refine .go 2 ?_
 refine .kR (fun y => y = ⟨[(18, .bool (decide ((u2 ≠ 0) ∨ (x0_2 < 1))))], G :: Fs, [], []⟩) [(1, _)] [_] [0] [] [] 4 ?_ ?_
 ·rintro _ rfl
  refine .gn 1 ?_
  refine .kR (fun y => y = ⟨[(23, .bool (decide (((u2 ≠ 0) ∨ (x0_2 < 1)) ∨ (8 < x0_2))))], G :: Fs, [], []⟩) [(1, _)] [_] [0] [] [] 4 ?_ ?_
  ·rintro _ rfl
   refine .gn 1 ?_
   refine .kR (fun y => y = ⟨[(32, .bool (decide ((((u2 ≠ 0) ∨ (x0_2 < 1)) ∨ (8 < x0_2)) ∨ ((x0_3.length : Int) ≠ x0_0))))], G :: Fs, [], []⟩) [(1, _)] [_] [0] [] [] 8 ?_ ?_
   ·rintro _ rfl
    refine .gn 1 ?_
    refine .cH r3 (fun c18 r19 => ?_) (fun c18 r20 => ?_)
    ·refine .go 4 ?_
     cases r19
     refine .drop 1 0 [] _ rfl rfl ?_
     refine .rS [.tmp 2] [_] Tryz.func53 Tryz.results53 ⟨rfl, rfl, rfl⟩
    ·refine .go 3 ?_
     refine .mkMap (Value.string) (Value.bool) .ro rfl (fun b21 hb21 => ?_)
     refine .go 10 ?_
     refine .block (.pull 1 rfl [_, _] rfl (.pull 1 rfl [_, _] rfl ?_))
     refine .lp (fun y m => ∃ (Z0 : Nat) (Z1 : List (List (ByteArray × Int))) (Z2 : _) (Z3 : List (ByteArray × Bool)) (Z4 Z5 : _), y = ⟨[(37, .int .i64 (Z0 : Int))], [Z2], [(b21, mObj (Value.string) (Value.bool) Z3), (b1, .cells #[.int .i64 Z4, .slice a0_1 x0_1.length k0_1, .int .i64 Z5, .slice a0_3 x0_3.length k0_3] 31 (0, 0))], []⟩ ∧ Z1.length = m ∧ HpLe G Z2 ∧ Bd w0 S0 Fs Z2 ∧ List.drop Z0 x0_3 = Z1 ∧ X2d x0_1 Z1 Z0 Z3 Z4 Z5 = some r) [(1, _), (3, _), (35, _), (36, _)] [] [] ⟨0, x0_3, G, ([] : List (ByteArray × Bool)), x0_0, x0_2, rfl, rfl, (HpLe.refl _), B0, rfl, r20⟩ (fun y m hI hb12 => ?_)
     obtain ⟨i13, w16, G17, v22, v23, v24, rfl, rfl, e25, B26, g27, r30⟩ := hI
     refine .gn 0 ?_
     cases w16 with
     | nil =>
      rw [X2d] at r30; try dsimp only at r30
      refine .go 5 ?_
      refine .cond_dec rfl (fun c => absurd c (X8 g27)) (fun _ => ?_)
      refine .exit rfl (.go 4 ?_)
      cases r30
      refine .drop 2 0 [] _ rfl rfl ?_
      refine .rS [.tmp 2] [_] Tryz.func53 Tryz.results53 ⟨rfl, rfl, rfl⟩
     | cons x31 xs33 =>
      have r34 : X79 x0_1 (X2d x0_1 xs33 (i13 + 1)) x31 i13 v22 v23 v24 = some r := r30; clear r30; unfold X79 at r34; try dsimp only at r34
      refine .go 5 ?_
      refine .cond_dec rfl (fun _ => ?_) (fun c => absurd (Xf g27) c)
      refine .go 2 ?_
      refine .block (.go 3 ?_)
      obtain ⟨c35, p36, h37⟩ := SlR.get (SlR.mono e25 s0_3) (X2 g27)
      obtain ⟨a38, k39, rfl, s40⟩ := h37
      refine .q .ro (.idxR (SlR.mono e25 s0_3) rfl rfl (X2 g27) sl29 ty32.sz) rfl (.q .ro (.load_rp p36 mcs rfl ty32 rfl) rfl (.go 12 ?_))
      refine .cH r34 (fun c41 r42 => ?_) (fun c41 r43 => ?_)
      ·refine .go 4 ?_
       cases r42
       refine .drop 2 0 [] _ rfl rfl ?_
       refine .rS [.tmp 2] [_] Tryz.func53 Tryz.results53 ⟨rfl, rfl, rfl⟩
      ·refine .go 7 ?_
       refine .block ?_
       refine .lp (fun y m => ∃ (Z0 : Nat) (Z1 : List (ByteArray × Int)) (Z2 : _) (Z3 : List (ByteArray × Bool)), y = ⟨[(49, .int .i64 (Z0 : Int))], [Z2], [(b21, mObj (Value.string) (Value.bool) Z3)], []⟩ ∧ Z1.length = m ∧ HpLe G17 Z2 ∧ Bd w0 S0 Fs Z2 ∧ List.drop Z0 x31 = Z1 ∧ X20 (X2d x0_1 xs33 (i13 + 1)) (i13 : Int) x31 v23 x0_1 v24 Z1 Z0 Z3 = some r) [(37, _), (1, _), (3, _), (35, _), (36, _), (4, _), (5, _), (47, _), (48, _)] [_] [] ⟨0, x31, G17, v22, rfl, rfl, (HpLe.refl _), B26, rfl, r43⟩ (fun y m hI hb44 => ?_)
       obtain ⟨i45, w46, G47, v48, rfl, rfl, e52, B54, g55, r56⟩ := hI
       refine .gn 0 ?_
       cases w46 with
       | nil =>
        rw [X20] at r56; try dsimp only at r56
        refine .go 5 ?_
        refine .cond_dec rfl (fun c => absurd c (X8 g55)) (fun _ => ?_)
        refine .exit rfl (.go 5 ?_)
        exact (hb12 _ _ ⟨(i13 + 1), xs33, G47, v48, v23, v24, rfl, rfl, (HpLe.trans e25 e52), B54, (X3 g27), r56⟩ (Nat.lt_succ_self _)).ax ⟨(congrArg (fun z => some (Value.int .i64 z)) (X7 (SlR.len s0_3) g27)), rfl, rfl, rfl, rfl, trivial⟩
       | cons x57 xs58 =>
        have r59 : X4k (X2d x0_1 xs33 (i13 + 1)) (i13 : Int) x31 v23 x0_1 v24 (X20 (X2d x0_1 xs33 (i13 + 1)) (i13 : Int) x31 v23 x0_1 v24 xs58 (i45 + 1)) x57 i45 v48 = some r := r56; clear r56; unfold X4k at r59; try dsimp only at r59
        refine .go 5 ?_
        refine .cond_dec rfl (fun _ => ?_) (fun c => absurd (Xf g55) c)
        refine .go 2 ?_
        refine .block (.go 3 ?_)
        obtain ⟨c60, p61, h62⟩ := SlR.get (SlR.mono e52 s40) (X2 g55)
        obtain ⟨_, _, rfl, rfl, rfl⟩ := h62
        refine .q .ro (.idxR (SlR.mono e52 s40) rfl rfl (X2 g55) sl32 ty69.sz) rfl (.q .ro (.load_rp_a [_, _] p61 mcs rfl ty69 rfl) rfl ?_)
        refine .alloc .ro ty69 rfl (fun b63 hb63 => ?_)
        refine .go 1 ?_
        refine .store 0 [_, _] [_, _, _] .ro rfl rfl rfl ty69 rfl rfl rfl rfl (.go 3 ?_)
        refine .drawL (.q 0 (.e 1 1 (.q 2 (.q 3 (.q 4 (.q 5 (.q 6 (.q 7 (.q 8 (.q 9 (.q 10 (.q 11 (.q 12 (.q 13 (.q 14 (.q 15 (.q 16 (.q 17 (.q 18 (.q 19 (.q 20 (.q 21 (.q 22 (.q 23 .nil)))))))))))))))))))))))) [_, _, _] (by kernel_rfl) (by kernel_rfl) (X1 [0, 1, 2] rfl) (.dq (.load_own_a 0 [_, _] rfl rfl ty69 rfl) rfl ?_)
        obtain ⟨u65, hu65, r66⟩ := X0 r59
        refine .cVd [_] Tryz.call50 (Xau mcs  hu65) ?_
        refine .clsL (HpLe.refl _) (X1 [0, 1, 2] rfl) (.go 2 ?_)
        obtain ⟨u67, h68, r70⟩ := X0 r66
        refine .kD (fun y => y = ⟨[(71, .bool u67)], G47 :: Fs, [], []⟩) [(49, _), (37, _), (1, _), (3, _), (35, _), (36, _), (4, _), (5, _), (47, _), (48, _), (7, _)] [_, _, _] [0, 1, 2] [] [] 14 ?_ ?_
        ·rintro _ rfl
         refine .gn 1 ?_
         refine .kD (fun y => y = ⟨[(77, .bool (decide ((u67 = true) ∨ (((mget v48 x57.1).getD false) = true))))], G47 :: Fs, [], []⟩) [(49, _), (37, _), (1, _), (3, _), (35, _), (36, _), (4, _), (5, _), (47, _), (48, _), (7, _)] [_, _, _] [0, 1, 2] [] [] 5 ?_ ?_
         ·rintro _ rfl
          refine .gn 1 ?_
          refine .cH r70 (fun c71 r72 => ?_) (fun c71 r73 => ?_)
          ·refine .go 4 ?_
           cases r72
           refine .drop 3 0 [] _ rfl rfl ?_
           refine .rS [.tmp 2] [_] Tryz.func53 Tryz.results53 ⟨rfl, rfl, rfl⟩
          ·refine .go 5 ?_
           refine .q .ro (.load_own_a 2 [_, _] rfl rfl ty28 rfl) rfl (.go 2 ?_)
           obtain ⟨u74, hu74, r75⟩ := X0 r73
           refine .cS [_, _] Tryz.call51 (Xav mcs (SlR.mono (HpLe.trans e25 e52) s0_1) hu74) (fun v76 bo so h77 => ?_)
           obtain ⟨a78, k79, cs80, rfl, rfl, rfl, o81⟩ := h77
           refine .gn 10 ?_
           refine .freezeR 0 rfl rfl o81 [] rfl B54 (fun G82 e83 B84 s85 => ?_)
           obtain ⟨u86, hu86, r87⟩ := X0 r75
           refine .cV [_, _] Tryz.call96 (Xhc mcs s85 hu86) ?_
           refine .go 2 ?_
           refine .cB r87 (fun c88 r89 => ?_) (fun c88 r90 => ?_)
           ·refine .go 4 ?_
            cases r89
            refine .drop 3 0 [] _ rfl rfl ?_
            refine .rS [.tmp 2] [_] Tryz.func53 Tryz.results53 ⟨rfl, rfl, rfl⟩
           ·refine .go 5 ?_
            refine .mapPut 1 (f := Value.string) (g := Value.bool) (l := v48) (x := x57.1) (y := true) (.inl rfl) .ro rfl rfl rfl rfl Tryz.underlying130 Tryz.underlying9 Xhn Xho _ rfl (.go 6 ?_)
            refine .drop 1 0 [_, _] _ rfl rfl ?_
            exact (hb44 _ _ ⟨(i45 + 1), xs58, G82, (mput v48 x57.1 true), rfl, rfl, (HpLe.trans e52 e83), B84, (X3 g55), r90⟩ (Nat.lt_succ_self _)).ax ⟨(congrArg (fun z => some (Value.int .i64 z)) (X7 (SlR.len s40) g55)), rfl, rfl, rfl, rfl, rfl, rfl, rfl, rfl, rfl, trivial⟩
         ·intro hb91
          refine .split_b 72 rfl (fun c92 => ?_) (fun c92 => ?_)
          ·refine .dgq_off rfl rfl rfl ?_
           refine .dgq_off rfl rfl rfl (.dgq_off rfl rfl rfl (.dgq_off rfl rfl rfl (.go 1 ?_)))
           exact (hb91 _ rfl).ax ⟨X3s c92, rfl, rfl, rfl, rfl, rfl, rfl, rfl, rfl, rfl, rfl, rfl, trivial⟩
          ·refine .dgq_on rfl ?_
           refine .go 1 ?_
           refine .dgq_on rfl (.go 1 ?_)
           refine .dgq_on rfl (.go 1 ?_)
           refine .dgq_on rfl (.dq (.mapGet 1 (f := Value.string) (g := Value.bool) (l := v48) (x := x57.1) (z := false) rfl rfl rfl Tryz.underlying130 Tryz.underlying9 Xhn Xho (by kernel_rfl)) rfl (.go 1 ?_))
           exact (hb91 _ rfl).ax ⟨Xni (Xga c92), rfl, rfl, rfl, rfl, rfl, rfl, rfl, rfl, rfl, rfl, rfl, trivial⟩
        ·intro hb93
         refine .split_b 57 rfl (fun c94 => ?_) (fun c94 => ?_)
         ·have r95 := ifT h68 c94
          refine .dgq_off rfl rfl rfl (.dgq_off rfl rfl rfl (.dgq_off rfl rfl rfl (.dgqu_off rfl rfl (.dgqu_off rfl rfl (.dgqu_off rfl rfl (.dgqu_off rfl rfl (.dgqu_off rfl rfl (.dgqu_off rfl rfl (.dgqu_off rfl rfl (.dgqu_off rfl rfl (.dgqu_off rfl rfl (.dgq_off rfl rfl rfl (.go 1 ?_)))))))))))))
          exact (hb93 _ rfl).ax ⟨sval r95, rfl, rfl, rfl, rfl, rfl, rfl, rfl, rfl, rfl, rfl, rfl, trivial⟩
         ·have r97 := ifBF h68 c94
          refine .dgq_on rfl (.go 1 ?_)
          refine .dgq_on rfl (.go 1 ?_)
          refine .dgq_on rfl (.go 1 ?_)
          obtain ⟨u98, h99, r100⟩ := X0 r97
          refine .kD (fun y => y = ⟨[(70, .bool u98)], G47 :: Fs, [], []⟩) [(49, _), (37, _), (1, _), (3, _), (35, _), (36, _), (4, _), (5, _), (47, _), (48, _), (7, _), (57, _), (58, _), (59, _)] [_, _, _] [0, 1, 2] [] [] 10 ?_ ?_
          ·rintro _ rfl
           refine .gn 1 ?_
           exact (hb93 _ rfl).ax ⟨sval r100, rfl, rfl, rfl, rfl, rfl, rfl, rfl, rfl, rfl, rfl, rfl, trivial⟩
          ·intro hb101
           refine .split 60 rfl (fun c102 => ?_) (fun c102 => ?_)
           ·have r103 := ifT h99 c102
            refine .dgq_on rfl (.go 1 ?_)
            refine .dgq_on rfl (.go 1 ?_)
            refine .dgq_on rfl (.go 1 ?_)
            refine .dgq_on rfl (.go 1 ?_)
            refine .dgq_on rfl (.go 1 ?_)
            refine .dgq_on rfl ?_
            obtain ⟨u104, hu104, r105⟩ := X0 r103
            obtain ⟨c106, p107, h108⟩ := SlR.get (SlR.mono e52 s40) hu104
            obtain ⟨_, _, rfl, rfl, rfl⟩ := h108
            refine .dq (.idxR (SlR.mono e52 s40) rfl rfl hu104 sl32 ty69.sz) rfl (.dgq_on rfl (.dq (.fieldAddr_rp p107 rfl Xhp ty9.sz) rfl (.dgq_on rfl (.dq (.load_rp (p107.add _) mcs rfl ty9 rfl) rfl (.dgq_on rfl (.dq (.leq_d rfl rfl) rfl (.dgq_on rfl (.go 1 ?_))))))))
            exact (hb101 _ rfl).ax ⟨sval r105, rfl, rfl, rfl, rfl, rfl, rfl, rfl, rfl, rfl, rfl, rfl, rfl, rfl, rfl, trivial⟩
           ·have r109 := ifF h99 c102
            refine .dgq_off rfl rfl rfl (.dgq_off rfl rfl rfl (.dgq_off rfl rfl rfl (.dgq_off rfl rfl rfl (.dgq_off rfl rfl rfl (.dgq_off rfl rfl rfl (.dgq_off rfl rfl rfl (.dgq_off rfl rfl rfl (.dgq_off rfl rfl rfl (.dgq_on rfl (.go 1 ?_))))))))))
            exact (hb101 _ rfl).ax ⟨sval r109, rfl, rfl, rfl, rfl, rfl, rfl, rfl, rfl, rfl, rfl, rfl, rfl, rfl, rfl, trivial⟩
   ·intro hb15
    refine .split 24 rfl (fun c14 => ?_) (fun c14 => ?_)
    ·refine .go 8 ?_
     exact (hb15 _ rfl).ax ⟨X3s c14, rfl, trivial⟩
    ·refine .go 15 ?_
     exact (hb15 _ rfl).ax ⟨X44 c14, rfl, trivial⟩
  ·intro hb11
   refine .split 19 rfl (fun c10 => ?_) (fun c10 => ?_)
   ·refine .go 4 ?_
    exact (hb11 _ rfl).ax ⟨X3s c10, rfl, trivial⟩
   ·refine .go 7 ?_
    exact (hb11 _ rfl).ax ⟨X44 c10, rfl, trivial⟩
 ·intro hb7
  refine .split 14 rfl (fun c6 => ?_) (fun c6 => ?_)
  ·refine .go 4 ?_
   exact (hb7 _ rfl).ax ⟨X3s c6, rfl, trivial⟩
  ·refine .go 7 ?_
   exact (hb7 _ rfl).ax ⟨X44 c6, rfl, trivial⟩
theorem Xay {x0_0 : Int} {r : Int} (hG : G ∈ Fs)  (h : X4l x0_0 = some r) : RetS Tryz.prog 54 #[.agg #[.int .i64 x0_0]] Fs [] [] (rv (.int .i64 r)) := by
 unfold X4l at h
 try dsimp only at h
 refine RetS.st [(0, _)] Tryz.func54 Tryz.ntmps54 hG fun w0 S0 hS0 B0 => ?_
 refine .go 2 ?_
 refine .box [_] .ro rfl rfl rfl (fun b1 hb1 => ?_)
 refine .go 9 ?_
 refine .kR (fun y => y = ⟨[(11, .bool (decide ((x0_0 < 2) ∨ (65521 < x0_0))))], G :: Fs, [], []⟩) [(1, _)] [_] [0] [] [] 4 ?_ ?_
 ·rintro _ rfl
  refine .gn 1 ?_
  refine .cH h (fun c6 r7 => ?_) (fun c6 r8 => ?_)
  ·refine .go 4 ?_
   cases r7
   refine .drop 1 0 [] _ rfl rfl ?_
   refine .rS [.tmp 2] [_] Tryz.func54 Tryz.results54 ⟨rfl, rfl, rfl⟩
  ·refine .go 6 ?_
   refine .block ?_
   refine .lp (fun y m => ∃ (Z0 : Nat) (Z1 : _), y = ⟨[(3, .int .i64 Z1)], [], [], []⟩ ∧ Z0 = m ∧ X5v x0_0 Z0 Z1 = some r) [(1, _)] [_] [] ⟨big, 2, rfl, rfl, r8⟩ (fun y m hI hb24 => ?_)
   obtain ⟨n20, v22, rfl, rfl, r23⟩ := hI
   refine .gn 0 ?_
   obtain ⟨m27, rfl⟩ : ∃ m, n20 = m + 1 := by cases n20 with | zero => exact absurd (show (none : Option _) = some _ from r23) (by simp) | succ m => exact ⟨m, rfl⟩
   have r26 : X8o x0_0 (X5v x0_0 m27) v22 = some r := r23; clear r23; unfold X8o at r26; try dsimp only at r26
   refine .go 10 ?_
   refine .cH r26 (fun c28 r29 => ?_) (fun c28 r35 => ?_)
   ·refine .go 2 ?_
    refine .block (.go 5 ?_)
    obtain ⟨u30, hu30, r31⟩ := X0 r29
    refine .q .ro (.remt rfl rfl (Xbz hu30)) rfl (.go 2 ?_)
    refine .cH r31 (fun c32 r33 => ?_) (fun c32 r34 => ?_)
    ·refine .go 4 ?_
     cases r33
     refine .drop 1 0 [] _ rfl rfl ?_
     refine .rS [.tmp 2] [_] Tryz.func54 Tryz.results54 ⟨rfl, rfl, rfl⟩
    ·refine .go 7 ?_
     exact (hb24 _ _ ⟨m27, (w64 (v22 + 1)), rfl, rfl, r34⟩ (Nat.lt_succ_self _)).ar
   ·refine .exit rfl ?_
    refine .go 4 ?_
    cases r35
    refine .drop 1 0 [] _ rfl rfl ?_
    refine .rS [.tmp 2] [_] Tryz.func54 Tryz.results54 ⟨rfl, rfl, rfl⟩
 ·intro hb3
  refine .split 7 rfl (fun c2 => ?_) (fun c2 => ?_)
  ·refine .go 4 ?_
   exact (hb3 _ rfl).ax ⟨X3s c2, rfl, trivial⟩
  ·refine .go 7 ?_
   exact (hb3 _ rfl).ax ⟨X44 c2, rfl, trivial⟩
theorem Xea {x0 : List (ByteArray × Int)} {r : Bool} (hG : G ∈ Fs) (s0 : SlR (Rep.pair Rep.str ri) G a0 k0 x0) (h : X9z x0 = some r) : RetS Tryz.prog 97 #[.slice a0 x0.length k0] Fs [] [] (rv (.bool r)) := by
 unfold X9z at h
 try dsimp only at h
 refine RetS.st [(0, _)] Tryz.func97 Tryz.ntmps97 hG fun w0 S0 hS0 B0 => ?_
 refine .go 11 ?_
 refine .block ?_
 refine .lp (fun y m => ∃ (Z0 : Nat) (Z1 : List (ByteArray × Int)), y = ⟨[(7, .int .i64 (Z0 : Int))], [], [], []⟩ ∧ Z1.length = m ∧ List.drop Z0 x0 = Z1 ∧ X40 x0 Z1 Z0  = some r) [(0, _), (5, _), (6, _)] [] [] ⟨0, x0, rfl, rfl, rfl, h⟩ (fun y m hI hb71 => ?_)
 obtain ⟨i67, w68, rfl, rfl, g69, r70⟩ := hI
 refine .gn 0 ?_
 cases w68 with
 | nil =>
  rw [X40] at r70; try dsimp only at r70
  refine .go 5 ?_
  refine .cond_dec rfl (fun c => absurd c (X8 g69)) (fun _ => ?_)
  refine .exit rfl (.go 4 ?_)
  cases r70
  refine .rS [.tmp 2] [_] Tryz.func97 Tryz.results97 ⟨rfl, rfl, rfl⟩
 | cons x75 xs76 =>
  have r74 : X7x x0 (X40 x0 xs76 (i67 + 1)) x75 i67  = some r := r70; clear r70; unfold X7x at r74; try dsimp only at r74
  refine .go 5 ?_
  refine .cond_dec rfl (fun _ => ?_) (fun c => absurd (Xf g69) c)
  refine .go 2 ?_
  refine .block (.go 3 ?_)
  obtain ⟨c77, p78, h79⟩ := SlR.get s0 (X2 g69)
  obtain ⟨_, _, rfl, rfl, rfl⟩ := h79
  refine .q .ro (.idxR s0 rfl rfl (X2 g69) sl32 ty69.sz) rfl (.q .ro (.load_rp_a [_, _] p78 mcs rfl ty69 rfl) rfl ?_)
  refine .alloc .ro ty69 rfl (fun b80 hb80 => ?_)
  refine .go 1 ?_
  refine .store 0 [_, _] [_] .ro rfl rfl rfl ty69 rfl rfl rfl rfl (.go 2 ?_)
  refine .drawL (.q 0 (.e 1 1 (.q 2 (.q 3 (.q 4 (.q 5 (.q 6 (.q 7 (.q 8 (.q 9 (.q 10 (.q 11 (.q 12 (.q 13 (.q 14 (.q 15 (.q 16 (.q 17 .nil)))))))))))))))))) [_] (by kernel_rfl) (by kernel_rfl) (X1 [0] rfl) (.dq (.load_own_a 0 [_, _] rfl rfl ty69 rfl) rfl ?_)
  obtain ⟨u81, hu81, r82⟩ := X0 r74
  refine .cVd [_] Tryz.call50 (Xau mcs  hu81) ?_
  refine .clsL (HpLe.refl _) (X1 [0] rfl) (.go 2 ?_)
  obtain ⟨u10, h11, r12⟩ := X0 r82
  refine .kD (fun y => y = ⟨[(29, .bool u10)], G :: Fs, [], []⟩) [(7, _), (0, _), (5, _), (6, _)] [_] [0] [] [] 14 ?_ ?_
  ·rintro _ rfl
   refine .gn 1 ?_
   refine .cB r12 (fun c13 r14 => ?_) (fun c13 r15 => ?_)
   ·refine .go 4 ?_
    cases r14
    refine .drop 1 0 [] _ rfl rfl ?_
    refine .rS [.tmp 2] [_] Tryz.func97 Tryz.results97 ⟨rfl, rfl, rfl⟩
   ·refine .go 6 ?_
    refine .drop 1 0 [] _ rfl rfl ?_
    exact (hb71 _ _ ⟨(i67 + 1), xs76, rfl, rfl, (X3 g69), r15⟩ (Nat.lt_succ_self _)).ax ⟨(congrArg (fun z => some (Value.int .i64 z)) (X7 (SlR.len s0) g69)), rfl, rfl, rfl, trivial⟩
  ·intro hb16
   refine .split_b 15 rfl (fun c17 => ?_) (fun c17 => ?_)
   ·have r18 := ifT h11 c17
    refine .dgq_off rfl rfl rfl (.dgq_off rfl rfl rfl (.dgq_off rfl rfl rfl (.dgqu_off rfl rfl (.dgqu_off rfl rfl (.dgqu_off rfl rfl (.dgqu_off rfl rfl (.dgqu_off rfl rfl (.dgqu_off rfl rfl (.dgqu_off rfl rfl (.dgqu_off rfl rfl (.dgqu_off rfl rfl (.dgq_off rfl rfl rfl (.go 1 ?_)))))))))))))
    exact (hb16 _ rfl).ax ⟨sval r18, rfl, rfl, rfl, rfl, trivial⟩
   ·have r19 := ifBF h11 c17
    refine .dgq_on rfl (.go 1 ?_)
    refine .dgq_on rfl (.go 1 ?_)
    refine .dgq_on rfl (.go 1 ?_)
    obtain ⟨u21, h22, r23⟩ := X0 r19
    refine .kD (fun y => y = ⟨[(28, .bool u21)], G :: Fs, [], []⟩) [(7, _), (0, _), (5, _), (6, _), (15, _), (16, _), (17, _)] [_] [0] [] [] 10 ?_ ?_
    ·rintro _ rfl
     refine .gn 1 ?_
     exact (hb16 _ rfl).ax ⟨sval r23, rfl, rfl, rfl, rfl, trivial⟩
    ·intro hb24
     refine .split 18 rfl (fun c25 => ?_) (fun c25 => ?_)
     ·have r26 := ifT h22 c25
      refine .dgq_on rfl (.go 1 ?_)
      refine .dgq_on rfl (.go 1 ?_)
      refine .dgq_on rfl (.go 1 ?_)
      refine .dgq_on rfl (.go 1 ?_)
      refine .dgq_on rfl (.go 1 ?_)
      refine .dgq_on rfl ?_
      obtain ⟨u27, hu27, r28⟩ := X0 r26
      obtain ⟨c29, p30, h31⟩ := SlR.get s0 hu27
      obtain ⟨_, _, rfl, rfl, rfl⟩ := h31
      refine .dq (.idxR s0 rfl rfl hu27 sl32 ty69.sz) rfl (.dgq_on rfl (.dq (.fieldAddr_rp p30 rfl Xhp ty9.sz) rfl (.dgq_on rfl (.dq (.load_rp (p30.add _) mcs rfl ty9 rfl) rfl (.dgq_on rfl (.dq (.leq_d rfl rfl) rfl (.dgq_on rfl (.go 1 ?_))))))))
      exact (hb24 _ rfl).ax ⟨sval r28, rfl, rfl, rfl, rfl, rfl, rfl, rfl, trivial⟩
     ·have r33 := ifF h22 c25
      refine .dgq_off rfl rfl rfl (.dgq_off rfl rfl rfl (.dgq_off rfl rfl rfl (.dgq_off rfl rfl rfl (.dgq_off rfl rfl rfl (.dgq_off rfl rfl rfl (.dgq_off rfl rfl rfl (.dgq_off rfl rfl rfl (.dgq_off rfl rfl rfl (.dgq_on rfl (.go 1 ?_))))))))))
      exact (hb24 _ rfl).ax ⟨sval r33, rfl, rfl, rfl, rfl, rfl, rfl, rfl, trivial⟩
theorem Xbt {x0 : Int} {x1 : List (ByteArray × Int)} {r : (ByteArray × Int)} (hG : G ∈ Fs) (s1 : SlR (Rep.pair Rep.str ri) G a1 k1 x1) (h : X2l x0 x1 = some r) : RetS Tryz.prog 55 #[.int .i64 x0, .slice a1 x1.length k1] Fs [] [] (rv (.tuple #[.string r.1, .int .i64 r.2])) := by
 unfold X2l at h
 try dsimp only at h
 refine RetS.st [(0, _), (1, _)] Tryz.func55 Tryz.ntmps55 hG fun w0 S0 hS0 B0 => ?_
 refine .go 11 ?_
 refine .kR (fun y => y = ⟨[(14, .bool (decide ((x0 < 1) ∨ (8 < x0))))], G :: Fs, [], []⟩) [(0, _), (1, _)] [] [] [] [] 3 ?_ ?_
 ·rintro _ rfl
  refine .gn 1 ?_
  refine .cH h (fun c5 r6 => ?_) (fun c5 r7 => ?_)
  ·refine .go 5 ?_
   cases r6
   refine .rS [.tmp 4, .tmp 5] [_, _] Tryz.func55 Tryz.results55 ⟨rfl, rfl, rfl⟩
  ·refine .go 9 ?_
   refine .cH r7 (fun c8 r9 => ?_) (fun c8 r10 => ?_)
   ·refine .go 5 ?_
    cases r9
    refine .rS [.tmp 4, .tmp 5] [_, _] Tryz.func55 Tryz.results55 ⟨rfl, rfl, rfl⟩
   ·refine .go 5 ?_
    obtain ⟨u11, hu11, r12⟩ := X0 r10
    refine .cV [_] Tryz.call97 (Xea mcs s1 hu11) ?_
    refine .go 2 ?_
    refine .cB r12 (fun c15 r16 => ?_) (fun c15 r17 => ?_)
    ·refine .go 5 ?_
     cases r16
     refine .rS [.tmp 4, .tmp 5] [_, _] Tryz.func55 Tryz.results55 ⟨rfl, rfl, rfl⟩
    ·refine .go 12 ?_
     refine .kB (fun y => ∃ (Z0 : List Int) (Z1 : _) (Z2 : Nat) (Z3 : _), y = ⟨[(6, .slice Z1 Z0.length Z2)], G :: Fs, [], [.s (.slice Z1 Z0.length Z2) 5 1 Z0.length Z3]⟩ ∧ OL (Rep.int .u8) G Z3 Z0 ∧ (X21 x0 x1) Z0 = some r) [(0, _), (1, _)] [] [] [] [] ?_ ?_
     ·rintro _ ⟨v13, a14, k18, cs19, rfl, o21, r23⟩
      refine .gn 0 ?_
      unfold X21 at r23
      try dsimp only at r23
      refine .go 8 ?_
      obtain ⟨u24, hu24, r25⟩ := X0 r23
      obtain ⟨u26, hu26, r27⟩ := X0 r25
      refine .appNul 0 .ro sl22 Tryz.underlying3 ty5 rfl rfl o21 rfl rfl hu24 hu26 rfl (fun a28 k29 cs30 o31 => ?_)
      refine .freezeR 0 rfl rfl o31 [] rfl B0 (fun G33 e34 B35 s36 => ?_)
      refine .q .ro (.b2s s36 mcs rfl Tryz.underlying22 Tryz.underlying5 Tryz.underlying9) rfl (.go 3 ?_)
      cases r27
      refine .rS [.tmp 4, .tmp 5] [_, _] Tryz.func55 Tryz.results55 ⟨rfl, rfl, rfl⟩
     ·intro hb37
      refine .block (.own_nil 5 1 ?_)
      refine .lp (fun y m => ∃ (Z0 : Nat) (Z1 : List (ByteArray × Int)) (Z2 : List Int) (Z3 : _) (Z4 : Nat) (Z5 : _), y = ⟨[(6, .slice Z3 Z2.length Z4), (24, .int .i64 (Z0 : Int))], [], [], [.s (.slice Z3 Z2.length Z4) 5 1 Z2.length Z5]⟩ ∧ Z1.length = m ∧ OL (Rep.int .u8) G Z5 Z2 ∧ List.drop Z0 x1 = Z1 ∧ X1i (X21 x0 x1) Z1 Z2 = some r) [(0, _), (1, _), (22, _), (23, _)] [] [] ⟨0, x1, ([] : List Int), none, 0, [], rfl, rfl, (OL.nil (Rp' := (Rep.int .u8))), rfl, r17⟩ (fun y m hI hb38 => ?_)
      obtain ⟨i39, w40, v41, a42, k43, cs44, rfl, rfl, o45, g46, r47⟩ := hI
      refine .gn 0 ?_
      cases w40 with
      | nil =>
       rw [X1i] at r47; try dsimp only at r47
       refine .go 5 ?_
       refine .cond_dec rfl (fun c => absurd c (X8 g46)) (fun _ => ?_)
       refine .exit rfl ?_
       exact (hb37 _ ⟨v41, a42, k43, cs44, rfl, o45, r47⟩).ar
      | cons x48 xs49 =>
       have r50 : X6k (X21 x0 x1) (X1i (X21 x0 x1) xs49) x48 v41 = some r := r47; clear r47; unfold X6k at r50; try dsimp only at r50
       refine .go 5 ?_
       refine .cond_dec rfl (fun _ => ?_) (fun c => absurd (Xf g46) c)
       refine .go 2 ?_
       refine .block (.go 2 ?_)
       obtain ⟨c51, p52, h53⟩ := SlR.get s1 (X2 g46)
       obtain ⟨_, _, rfl, rfl, rfl⟩ := h53
       refine .q .ro (.idxR s1 rfl rfl (X2 g46) sl32 ty69.sz) rfl (.q .ro (.load_rp_a [_, _] p52 mcs rfl ty69 rfl) rfl ?_)
       refine .alloc .ro ty69 rfl (fun b54 hb54 => ?_)
       refine .store 0 [_, _] [_] .ro rfl rfl rfl ty69 rfl rfl rfl rfl (.go 6 ?_)
       refine .q .ro (.len_s rfl Tryz.underlying9) rfl (.q .ro (.convw Tryz.underlying3 Tryz.underlying5 rfl) rfl ?_)
       refine .lit [_] [(0, _)] .ro sl22 ty5 rfl rfl rfl rfl rfl rfl (fun b56 hb56 => ?_)
       have o57 : OL (Rep.int .u8) G [.int .u8 (wu8 (x48.1.size : Int))] ([(wu8 (x48.1.size : Int))] : List Int) := ((OL.cons rfl (Rep.intI .u8 (wu8 (x48.1.size : Int))) (OL.nil (Rp' := (Rep.int .u8)))) :)
       refine .reval 33 (n' := ([(wu8 (x48.1.size : Int))] : List Int).length) rfl rfl ?_
       obtain ⟨u58, hu58, r59⟩ := X0 r50
       refine .appO (Q := (Rep.int .u8)) 0 .ro sl22 ty5 rfl rfl rfl rfl rfl rfl o45 o57 rfl rfl rfl B0 hu58 rfl (fun a60 k61 cs62 o63 => ?_)
       refine .go 7 ?_
       obtain ⟨u65, hu65, r66⟩ := X0 r59
       obtain ⟨u67, hu67, r68⟩ := X0 r66
       refine .appStr 0 .ro sl22 Tryz.underlying9 ty5 rfl rfl rfl o63 rfl rfl hu65 hu67 rfl (fun a70 k71 cs72 o73 => ?_)
       refine .go 7 ?_
       refine .q .ro (.len_s rfl Tryz.underlying9) rfl (.go 1 ?_)
       obtain ⟨u74, hu74, r75⟩ := X0 r68
       obtain ⟨u76, hu76, r77⟩ := X0 r75
       refine .appNul 0 .ro sl22 Tryz.underlying3 ty5 rfl rfl o73 rfl rfl hu74 hu76 rfl (fun a78 k79 cs80 o81 => ?_)
       refine .go 6 ?_
       refine .q .ro (.convw Tryz.underlying3 Tryz.underlying5 rfl) rfl (.go 2 ?_)
       refine .q .ro (.shrw rfl rfl (by decide)) rfl (.q .ro (.convw Tryz.underlying3 Tryz.underlying5 rfl) rfl (.go 2 ?_))
       refine .q .ro (.shrw rfl rfl (by decide)) rfl (.q .ro (.convw Tryz.underlying3 Tryz.underlying5 rfl) rfl (.go 2 ?_))
       refine .q .ro (.shrw rfl rfl (by decide)) rfl (.q .ro (.convw Tryz.underlying3 Tryz.underlying5 rfl) rfl ?_)
       refine .lit [_, _, _, _] [(0, _), (1, _), (2, _), (3, _)] .ro sl22 ty5 rfl rfl rfl rfl rfl rfl (fun b82 hb82 => ?_)
       have o83 : OL (Rep.int .u8) G [.int .u8 (wu8 x48.2), .int .u8 (wu8 (shrI .i64 x48.2 8)), .int .u8 (wu8 (shrI .i64 x48.2 16)), .int .u8 (wu8 (shrI .i64 x48.2 24))] ([(wu8 x48.2), (wu8 (shrI .i64 x48.2 8)), (wu8 (shrI .i64 x48.2 16)), (wu8 (shrI .i64 x48.2 24))] : List Int) := ((OL.cons rfl (Rep.intI .u8 (wu8 x48.2)) (OL.cons rfl (Rep.intI .u8 (wu8 (shrI .i64 x48.2 8))) (OL.cons rfl (Rep.intI .u8 (wu8 (shrI .i64 x48.2 16))) (OL.cons rfl (Rep.intI .u8 (wu8 (shrI .i64 x48.2 24))) (OL.nil (Rp' := (Rep.int .u8))))))) :)
       refine .reval 61 (n' := ([(wu8 x48.2), (wu8 (shrI .i64 x48.2 8)), (wu8 (shrI .i64 x48.2 16)), (wu8 (shrI .i64 x48.2 24))] : List Int).length) rfl rfl ?_
       obtain ⟨u84, hu84, r85⟩ := X0 r77
       refine .appO (Q := (Rep.int .u8)) 0 .ro sl22 ty5 rfl rfl rfl rfl rfl rfl o81 o83 rfl rfl rfl B0 hu84 rfl (fun a86 k87 cs88 o89 => ?_)
       refine .go 7 ?_
       refine .drop 1 0 [] _ rfl rfl ?_
       exact (hb38 _ _ ⟨(i39 + 1), xs49, u84, a86, k87, cs88, rfl, rfl, o89, (X3 g46), r85⟩ (Nat.lt_succ_self _)).ax ⟨rfl, (congrArg (fun z => some (Value.int .i64 z)) (X7 (SlR.len s1) g46)), rfl, rfl, rfl, rfl, trivial⟩
 ·intro hb2
  refine .split 11 rfl (fun c1 => ?_) (fun c1 => ?_)
  ·refine .go 3 ?_
   exact (hb2 _ rfl).ax ⟨X3s c1, rfl, rfl, trivial⟩
  ·refine .go 5 ?_
   exact (hb2 _ rfl).ax ⟨X44 c1, rfl, rfl, trivial⟩
theorem Xip {x0_0 : Int} {x1 : List Int} {r : Bool} (hG : G ∈ Fs) (s1 : SlR ri G a1 k1 x1) (h : Xd1 x0_0 x1 = some r) : RetS Tryz.prog 119 #[.agg #[.int .i64 x0_0], .slice a1 x1.length k1] Fs [] [] (rv (.bool r)) := by
 unfold Xd1 at h
 try dsimp only at h
 refine RetS.st [(0, _), (1, _)] Tryz.func119 Tryz.ntmps119 hG fun w0 S0 hS0 B0 => ?_
 refine .go 2 ?_
 refine .box [_] .ro rfl rfl rfl (fun b1 hb1 => ?_)
 refine .go 5 ?_
 refine .q .ro (.load_own_a 0 [_] rfl rfl ty36 rfl) rfl ?_
 obtain ⟨u2, hu2, r3⟩ := X0 h
 refine .cV [_] Tryz.call54 (Xay mcs  hu2) ?_
 refine .go 2 ?_
 refine .cH r3 (fun c6 r7 => ?_) (fun c6 r8 => ?_)
 ·refine .go 4 ?_
  cases r7
  refine .drop 1 0 [] _ rfl rfl ?_
  refine .rS [.tmp 4] [_] Tryz.func119 Tryz.results119 ⟨rfl, rfl, rfl⟩
 ·refine .go 8 ?_
  refine .block ?_
  refine .lp (fun y m => ∃ (Z0 : Nat) (Z1 : List Int), y = ⟨[(12, .int .i64 (Z0 : Int))], [], [], []⟩ ∧ Z1.length = m ∧ List.drop Z0 x1 = Z1 ∧ X7j x0_0 Z1  = some r) [(2, _), (10, _), (11, _)] [_] [] ⟨0, x1, rfl, rfl, rfl, r8⟩ (fun y m hI hb32 => ?_)
  obtain ⟨i28, w29, rfl, rfl, g30, r31⟩ := hI
  refine .gn 0 ?_
  cases w29 with
  | nil =>
   rw [X7j] at r31; try dsimp only at r31
   refine .go 5 ?_
   refine .cond_dec rfl (fun c => absurd c (X8 g30)) (fun _ => ?_)
   refine .exit rfl (.go 4 ?_)
   cases r31
   refine .drop 1 0 [] _ rfl rfl ?_
   refine .rS [.tmp 4] [_] Tryz.func119 Tryz.results119 ⟨rfl, rfl, rfl⟩
  | cons x37 xs38 =>
   have r36 : X9r x0_0 (X7j x0_0 xs38) x37  = some r := r31; clear r31; unfold X9r at r36; try dsimp only at r36
   refine .go 5 ?_
   refine .cond_dec rfl (fun _ => ?_) (fun c => absurd (Xf g30) c)
   refine .go 2 ?_
   refine .block (.go 2 ?_)
   obtain ⟨c39, p40, h41⟩ := SlR.get s1 (X2 g30)
   obtain rfl := h41
   refine .q .ro (.idxR s1 rfl rfl (X2 g30) sl48 ty3.sz) rfl (.q .ro (.load_rp p40 mcs rfl ty3 rfl) rfl (.go 7 ?_))
   refine .kR (fun y => y = ⟨[(23, .bool (decide ((x37 < 0) ∨ (x0_0 ≤ x37))))], G :: Fs, [], []⟩) [(12, _), (2, _), (10, _), (11, _)] [_] [0] [] [] 5 ?_ ?_
   ·rintro _ rfl
    refine .gn 1 ?_
    refine .cH r36 (fun c46 r47 => ?_) (fun c46 r48 => ?_)
    ·refine .go 4 ?_
     cases r47
     refine .drop 1 0 [] _ rfl rfl ?_
     refine .rS [.tmp 4] [_] Tryz.func119 Tryz.results119 ⟨rfl, rfl, rfl⟩
    ·refine .go 6 ?_
     exact (hb32 _ _ ⟨(i28 + 1), xs38, rfl, rfl, (X3 g30), r48⟩ (Nat.lt_succ_self _)).ax ⟨(congrArg (fun z => some (Value.int .i64 z)) (X7 (SlR.len s1) g30)), rfl, rfl, rfl, trivial⟩
   ·intro hb43
    refine .split 18 rfl (fun c42 => ?_) (fun c42 => ?_)
    ·refine .go 5 ?_
     exact (hb43 _ rfl).ax ⟨X3s c42, rfl, rfl, rfl, rfl, trivial⟩
    ·refine .go 9 ?_
     exact (hb43 _ rfl).ax ⟨X44 c42, rfl, rfl, rfl, rfl, trivial⟩
theorem Xfi {x0_0 : Int} {x0_1 : Int} {x0_2 : Int} {x0_3 : List (List Int)} {r : Int} (hG : G ∈ Fs) (s0_3 : SlR (Rep.sl ri) G a0_3 k0_3 x0_3) (h : Xaq (x0_0, x0_1, x0_2, x0_3) = some r) : RetS Tryz.prog 84 #[.agg #[.int .i64 x0_0, .int .i64 x0_1, .int .i64 x0_2, .slice a0_3 x0_3.length k0_3]] Fs [] [] (rv (.int .i64 r)) := by
 unfold Xaq at h
 try dsimp only at h
 refine RetS.st [(0, _)] Tryz.func84 Tryz.ntmps84 hG fun w0 S0 hS0 B0 => ?_
 refine .go 2 ?_
 refine .box [_, _, _, _] .ro rfl rfl rfl (fun b1 hb1 => ?_)
 refine .go 9 ?_
 refine .kR (fun y => y = ⟨[(13, .bool (decide ((x0_0 < 1) ∨ (2147483647 ≤ x0_0))))], G :: Fs, [], []⟩) [(1, _)] [_] [0] [] [] 4 ?_ ?_
 ·rintro _ rfl
  refine .gn 1 ?_
  refine .cH h (fun c6 r7 => ?_) (fun c6 r8 => ?_)
  ·refine .go 4 ?_
   cases r7
   refine .drop 1 0 [] _ rfl rfl ?_
   refine .rS [.tmp 2] [_] Tryz.func84 Tryz.results84 ⟨rfl, rfl, rfl⟩
  ·refine .go 5 ?_
   refine .q .ro (.load_own_a 0 [_] rfl rfl ty36 rfl) rfl ?_
   obtain ⟨u9, hu9, r10⟩ := X0 r8
   refine .cV [_] Tryz.call54 (Xay mcs  hu9) ?_
   refine .go 7 ?_
   refine .cH r10 (fun c13 r14 => ?_) (fun c13 r15 => ?_)
   ·refine .go 5 ?_
    cases r14
    refine .drop 1 0 [] _ rfl rfl ?_
    refine .rS [.tmp 2] [_] Tryz.func84 Tryz.results84 ⟨rfl, rfl, rfl⟩
   ·refine .go 8 ?_
    refine .kR (fun y => y = ⟨[(27, .bool (decide ((x0_2 < 1) ∨ (64 < x0_2))))], G :: Fs, [], []⟩) [(1, _)] [_] [0] [] [] 4 ?_ ?_
    ·rintro _ rfl
     refine .gn 1 ?_
     refine .cH r15 (fun c20 r21 => ?_) (fun c20 r22 => ?_)
     ·refine .go 4 ?_
      cases r21
      refine .drop 1 0 [] _ rfl rfl ?_
      refine .rS [.tmp 2] [_] Tryz.func84 Tryz.results84 ⟨rfl, rfl, rfl⟩
     ·refine .go 9 ?_
      refine .cH r22 (fun c23 r24 => ?_) (fun c23 r25 => ?_)
      ·refine .go 4 ?_
       cases r24
       refine .drop 1 0 [] _ rfl rfl ?_
       refine .rS [.tmp 2] [_] Tryz.func84 Tryz.results84 ⟨rfl, rfl, rfl⟩
      ·refine .go 9 ?_
       refine .block ?_
       refine .lp (fun y m => ∃ (Z0 : Nat) (Z1 : List (List Int)), y = ⟨[(35, .int .i64 (Z0 : Int))], [], [], []⟩ ∧ Z1.length = m ∧ List.drop Z0 x0_3 = Z1 ∧ X4m x0_1 x0_2 Z1  = some r) [(1, _), (33, _), (34, _)] [_] [] ⟨0, x0_3, rfl, rfl, rfl, r25⟩ (fun y m hI hb57 => ?_)
       obtain ⟨i53, w54, rfl, rfl, g55, r56⟩ := hI
       refine .gn 0 ?_
       cases w54 with
       | nil =>
        rw [X4m] at r56; try dsimp only at r56
        refine .go 5 ?_
        refine .cond_dec rfl (fun c => absurd c (X8 g55)) (fun _ => ?_)
        refine .exit rfl (.go 4 ?_)
        cases r56
        refine .drop 1 0 [] _ rfl rfl ?_
        refine .rS [.tmp 2] [_] Tryz.func84 Tryz.results84 ⟨rfl, rfl, rfl⟩
       | cons x64 xs65 =>
        have r63 : X7a x0_1 x0_2 (X4m x0_1 x0_2 xs65) x64  = some r := r56; clear r56; unfold X7a at r63; try dsimp only at r63
        refine .go 5 ?_
        refine .cond_dec rfl (fun _ => ?_) (fun c => absurd (Xf g55) c)
        refine .go 2 ?_
        refine .block (.go 2 ?_)
        obtain ⟨c66, p67, h68⟩ := SlR.get s0_3 (X2 g55)
        obtain ⟨a69, k70, rfl, s71⟩ := h68
        refine .q .ro (.idxR s0_3 rfl rfl (X2 g55) sl37 ty48.sz) rfl (.q .ro (.load_rp p67 mcs rfl ty48 rfl) rfl (.go 11 ?_))
        refine .cH r63 (fun c72 r73 => ?_) (fun c72 r74 => ?_)
        ·refine .go 4 ?_
         cases r73
         refine .drop 1 0 [] _ rfl rfl ?_
         refine .rS [.tmp 2] [_] Tryz.func84 Tryz.results84 ⟨rfl, rfl, rfl⟩
        ·refine .go 4 ?_
         refine .q .ro (.load_own_a 0 [_] rfl rfl ty36 rfl) rfl (.go 1 ?_)
         obtain ⟨u75, hu75, r76⟩ := X0 r74
         refine .cV [_, _] Tryz.call119 (Xip mcs s71 hu75) ?_
         refine .go 2 ?_
         refine .cB r76 (fun c79 r80 => ?_) (fun c79 r81 => ?_)
         ·refine .go 4 ?_
          cases r80
          refine .drop 1 0 [] _ rfl rfl ?_
          refine .rS [.tmp 2] [_] Tryz.func84 Tryz.results84 ⟨rfl, rfl, rfl⟩
         ·refine .go 6 ?_
          exact (hb57 _ _ ⟨(i53 + 1), xs65, rfl, rfl, (X3 g55), r81⟩ (Nat.lt_succ_self _)).ax ⟨(congrArg (fun z => some (Value.int .i64 z)) (X7 (SlR.len s0_3) g55)), rfl, rfl, rfl, trivial⟩
    ·intro hb17
     refine .split 23 rfl (fun c16 => ?_) (fun c16 => ?_)
     ·refine .go 4 ?_
      exact (hb17 _ rfl).ax ⟨X3s c16, rfl, trivial⟩
     ·refine .go 7 ?_
      exact (hb17 _ rfl).ax ⟨X44 c16, rfl, trivial⟩
 ·intro hb3
  refine .split 9 rfl (fun c2 => ?_) (fun c2 => ?_)
  ·refine .go 4 ?_
   exact (hb3 _ rfl).ax ⟨X3s c2, rfl, trivial⟩
  ·refine .go 7 ?_
   exact (hb3 _ rfl).ax ⟨X44 c2, rfl, trivial⟩
theorem Xgm {x0 : List (List Int)} {r : (List (List Int))} (hG : G ∈ Fs) (s0 : SlR (Rep.sl ri) G a0 k0 x0) (h : Xbn x0 = some r) : RetW Tryz.prog 98 #[.slice a0 x0.length k0] Fs [] [] (fun v bo so G => ∃ (oa0 : Option Addr) (ok0 : Nat) (oc0 : List Value), v = .slice oa0 r.length ok0 ∧ bo = [] ∧ so = [.s (.slice oa0 r.length ok0) 48 1 r.length oc0] ∧ OL (Rep.sl ri) G oc0 r) := by
 unfold Xbn at h
 try dsimp only at h
 refine RetW.st [(0, _)] Tryz.func98 Tryz.ntmps98 hG fun w0 S0 hS0 B0 => ?_
 refine .go 15 ?_
 refine .block (.own_nil 48 1 ?_)
 refine .lp (fun y m => ∃ (Z0 : Nat) (Z1 : List (List Int)) (Z2 : _) (Z3 : List (List Int)) (Z4 : _) (Z5 : Nat) (Z6 : _), y = ⟨[(3, .slice Z4 Z3.length Z5), (8, .int .i64 (Z0 : Int))], [Z2], [], [.s (.slice Z4 Z3.length Z5) 48 1 Z3.length Z6]⟩ ∧ Z1.length = m ∧ HpLe G Z2 ∧ Bd w0 S0 Fs Z2 ∧ OL (Rep.sl ri) Z2 Z6 Z3 ∧ List.drop Z0 x0 = Z1 ∧ X48 Z1 Z3 = some r) [(6, _), (7, _)] [] [] ⟨0, x0, G, ([] : List (List Int)), none, 0, [], rfl, rfl, (HpLe.refl _), B0, (OL.nil (Rp' := (Rep.sl ri))), rfl, h⟩ (fun y m hI hb93 => ?_)
 obtain ⟨i79, w80, G82, v86, a87, k88, cs89, rfl, rfl, e83, B84, o90, g81, r92⟩ := hI
 refine .gn 0 ?_
 cases w80 with
 | nil =>
  rw [X48] at r92; try dsimp only at r92
  refine .go 5 ?_
  refine .cond_dec rfl (fun c => absurd c (X8 g81)) (fun _ => ?_)
  refine .exit rfl (.go 5 ?_)
  cases r92
  refine .rW 0 [.tmp 2] [_] Tryz.func98 Tryz.results98 ⟨RV.tmp rfl, trivial⟩ B84 hS0 (fun G' hg => ⟨a87, k88, cs89, rfl, rfl, rfl, (OL.mono hg o90)⟩)
 | cons x97 xs98 =>
  have r96 : X7y (X48 xs98) x97 v86 = some r := r92; clear r92; unfold X7y at r96; try dsimp only at r96
  refine .go 5 ?_
  refine .cond_dec rfl (fun _ => ?_) (fun c => absurd (Xf g81) c)
  refine .go 2 ?_
  refine .block (.go 2 ?_)
  obtain ⟨c99, p10, h11⟩ := SlR.get (SlR.mono e83 s0) (X2 g81)
  obtain ⟨a12, k13, rfl, s15⟩ := h11
  refine .q .ro (.idxR (SlR.mono e83 s0) rfl rfl (X2 g81) sl37 ty48.sz) rfl (.q .ro (.load_rp p10 mcs rfl ty48 rfl) rfl (.go 5 ?_))
  refine .own_nil 3 1 ?_
  obtain ⟨u16, hu16, r17⟩ := X0 r96
  refine .appR (Q := ri) 0 .ro sl48 ty3 rfl rfl rfl rfl rfl (OL.nil (Rp' := ri)) rfl rfl s15 rfl mcs hu16 rfl (fun a18 k19 cs20 o21 => ?_)
  refine .freezeR 0 rfl rfl o21 [_] rfl B84 (fun G22 e23 B24 s25 => ?_)
  refine .lit [_] [(0, _)] .ro sl37 ty48 rfl rfl rfl rfl rfl rfl (fun b26 hb26 => ?_)
  have o27 : OL (Rep.sl ri) G22 [.slice a18 u16.length k19] ([u16] : List (List Int)) := ((OL.cons rfl (Rep.slI s25) (OL.nil (Rp' := (Rep.sl ri)))) :)
  refine .reval 15 (n' := ([u16] : List (List Int)).length) rfl rfl ?_
  obtain ⟨u28, hu28, r29⟩ := X0 r17
  refine .appO (Q := (Rep.sl ri)) 0 .ro sl37 ty48 rfl rfl rfl rfl rfl rfl (OL.mono e23 o90) o27 rfl rfl rfl B24 hu28 rfl (fun a30 k31 cs32 o33 => ?_)
  refine .go 7 ?_
  exact (hb93 _ _ ⟨(i79 + 1), xs98, G22, u28, a30, k31, cs32, rfl, rfl, (HpLe.trans e83 e23), B24, o33, (X3 g81), r29⟩ (Nat.lt_succ_self _)).ax ⟨rfl, (congrArg (fun z => some (Value.int .i64 z)) (X7 (SlR.len s0) g81)), rfl, rfl, trivial⟩
theorem Xhd {x0 : Int} {x1_0 : Int} {x2 : Int} {x3 : List (List Int)} {r : ((Int × Int × Int × (List (List Int))) × Int)} (hG : G ∈ Fs) (s3 : SlR (Rep.sl ri) G a3 k3 x3) (h : Xbf x0 x1_0 x2 x3 = some r) : RetW Tryz.prog 56 #[.int .i64 x0, .agg #[.int .i64 x1_0], .int .i64 x2, .slice a3 x3.length k3] Fs [] [] (fun v bo so G => ∃ a0 : Option Addr, ∃ k0 : Nat, v = .tuple #[.agg #[.int .i64 r.1.1, .int .i64 r.1.2.1, .int .i64 r.1.2.2.1, .slice a0 r.1.2.2.2.length k0], .int .i64 r.2] ∧ bo = [] ∧ so = [] ∧ SlR (Rep.sl ri) G a0 k0 r.1.2.2.2) := by
 unfold Xbf at h
 try dsimp only at h
 refine RetW.st [(0, _), (1, _), (2, _), (3, _)] Tryz.func56 Tryz.ntmps56 hG fun w0 S0 hS0 B0 => ?_
 refine .go 2 ?_
 refine .box [_] .ro rfl rfl rfl (fun b1 hb1 => ?_)
 refine .alloc .ro ty39 rfl (fun b2 hb2 => ?_)
 refine .go 5 ?_
 refine .q .ro (.load_own_a 1 [_] rfl rfl ty36 rfl) rfl (.go 2 ?_)
 refine .q .ro (.build [_, _, _, _] [(0, _), (1, _), (2, _), (3, _)] ty39 pl39 rfl rfl) rfl ?_
 refine .alloc .ro ty39 rfl (fun b3 hb3 => ?_)
 refine .store 0 [_, _, _, _] [_, _, _] .ro rfl rfl rfl ty39 rfl rfl rfl rfl (.go 4 ?_)
 refine .q .ro (.load_own_a 0 [_, _, _, _] rfl rfl ty39 rfl) rfl ?_
 obtain ⟨u4, hu4, r5⟩ := X0 h
 refine .cV [_] Tryz.call84 (Xfi mcs s3 hu4) ?_
 refine .go 7 ?_
 refine .cH r5 (fun c8 r9 => ?_) (fun c8 r10 => ?_)
 ·refine .go 2 ?_
  refine .q .ro (.build [_, _, _, _] [] ty39 pl39 rfl rfl) rfl (.go 1 ?_)
  refine .store 1 [_, _, _, _] [_, _, _] .ro rfl rfl rfl ty39 rfl rfl rfl rfl (.go 2 ?_)
  cases r9
  refine .rW 3 [.cell 8 39, .tmp 9] [_, _] Tryz.func56 Tryz.results56 ⟨RV.cell_a 1 [_, _, _, _] rfl rfl ty39 rfl, RV.tmp rfl, trivial⟩ B0 hS0 (fun G' hg => ⟨none, 0, rfl, rfl, rfl, (SlR.mono hg (SlR.nil (Rp' := (Rep.sl ri))))⟩)
 ·refine .go 4 ?_
  obtain ⟨u11, hu11, r12⟩ := X0 r10
  refine .cW [_] Tryz.call98 (Xgm mcs s3 hu11) B0 (fun v14 bo so G15 e16 B17 h13 => ?_)
  obtain ⟨a20, k21, cs22, rfl, rfl, rfl, o23⟩ := h13
  refine .gn 1 ?_
  refine .store 0 [_, _, _, _] [_, _, _] .ro rfl rfl rfl ty37 rfl rfl rfl rfl (.go 3 ?_)
  refine .q .ro (.load_own_a 0 [_, _, _, _] rfl rfl ty39 rfl) rfl (.store 1 [_, _, _, _] [_, _, _] .ro rfl rfl rfl ty39 rfl rfl rfl rfl (.go 2 ?_))
  refine .freezeR 0 rfl rfl o23 [] rfl B17 (fun G24 e25 B26 s27 => ?_)
  cases r12
  refine .rW 3 [.cell 8 39, .tmp 9] [_, _] Tryz.func56 Tryz.results56 ⟨RV.cell_a 1 [_, _, _, _] rfl rfl ty39 rfl, RV.tmp rfl, trivial⟩ B26 hS0 (fun G' hg => ⟨a20, k21, rfl, rfl, rfl, (SlR.mono hg s27)⟩)
theorem Xaz {x0 : Int} {x1_0 : Int} {x2_0 : Int} {x2_1 : List (Int × Int)} {x2_2 : Int} {x2_3 : List (List (ByteArray × Int))} {r : ((Int × Int × Int × (List (List Int))) × Int)} (hG : G ∈ Fs) (s2_1 : SlR (Rep.pair ri ri) G a2_1 k2_1 x2_1) (s2_3 : SlR (Rep.sl (Rep.pair Rep.str ri)) G a2_3 k2_3 x2_3) (h : X5c x0 x1_0 ((x2_0, x2_1), x2_2, x2_3) = some r) : RetW Tryz.prog 20 #[.int .i64 x0, .agg #[.int .i64 x1_0], .agg #[.int .i64 x2_0, .slice a2_1 x2_1.length k2_1, .int .i64 x2_2, .slice a2_3 x2_3.length k2_3]] Fs [] [] (fun v bo so G => ∃ a0 : Option Addr, ∃ k0 : Nat, v = .tuple #[.agg #[.int .i64 r.1.1, .int .i64 r.1.2.1, .int .i64 r.1.2.2.1, .slice a0 r.1.2.2.2.length k0], .int .i64 r.2] ∧ bo = [] ∧ so = [] ∧ SlR (Rep.sl ri) G a0 k0 r.1.2.2.2) := by
 unfold X5c at h
 try dsimp only at h
 refine RetW.st [(0, _), (1, _), (2, _)] Tryz.func20 Tryz.ntmps20 hG fun w0 S0 hS0 B0 => ?_
 refine .go 2 ?_
 refine .box [_] .ro rfl rfl rfl (fun b1 hb1 => ?_)
 refine .box [_, _, _, _] .ro rfl rfl rfl (fun b2 hb2 => ?_)
 refine .alloc .ro ty39 rfl (fun b3 hb3 => ?_)
 refine .go 5 ?_
 refine .q .ro (.load_own_a 1 [_, _, _, _] rfl rfl ty31 rfl) rfl ?_
 obtain ⟨u4, hu4, r5⟩ := X0 h
 refine .cV [_] Tryz.call53 (Xfh mcs s2_1 s2_3 hu4) ?_
 refine .go 7 ?_
 refine .cH r5 (fun c8 r9 => ?_) (fun c8 r10 => ?_)
 ·refine .go 2 ?_
  refine .q .ro (.build [_, _, _, _] [] ty39 pl39 rfl rfl) rfl (.go 1 ?_)
  refine .store 0 [_, _, _, _] [_, _, _] .ro rfl rfl rfl ty39 rfl rfl rfl rfl (.go 2 ?_)
  cases r9
  refine .rW 3 [.cell 6 39, .tmp 7] [_, _] Tryz.func20 Tryz.results20 ⟨RV.cell_a 0 [_, _, _, _] rfl rfl ty39 rfl, RV.tmp rfl, trivial⟩ B0 hS0 (fun G' hg => ⟨none, 0, rfl, rfl, rfl, (SlR.mono hg (SlR.nil (Rp' := (Rep.sl ri))))⟩)
 ·refine .go 4 ?_
  refine .q .ro (.load_own_a 2 [_] rfl rfl ty36 rfl) rfl ?_
  obtain ⟨u11, hu11, r12⟩ := X0 r10
  refine .cV [_] Tryz.call54 (Xay mcs  hu11) ?_
  refine .go 2 ?_
  refine .kR (fun y => y = ⟨[(28, .bool (decide ((u11 ≠ 0) ∨ (x1_0 < 257))))], G :: Fs, [], []⟩) [(0, _), (4, _), (5, _), (6, _)] [_, _, _] [0, 1, 2] [] [] 4 ?_ ?_
  ·rintro _ rfl
   refine .gn 1 ?_
   refine .cH r12 (fun c19 r20 => ?_) (fun c19 r21 => ?_)
   ·refine .go 2 ?_
    refine .q .ro (.build [_, _, _, _] [] ty39 pl39 rfl rfl) rfl (.store 0 [_, _, _, _] [_, _, _] .ro rfl rfl rfl ty39 rfl rfl rfl rfl (.go 2 ?_))
    cases r20
    refine .rW 3 [.cell 6 39, .tmp 7] [_, _] Tryz.func20 Tryz.results20 ⟨RV.cell_a 0 [_, _, _, _] rfl rfl ty39 rfl, RV.tmp rfl, trivial⟩ B0 hS0 (fun G' hg => ⟨none, 0, rfl, rfl, rfl, (SlR.mono hg (SlR.nil (Rp' := (Rep.sl ri))))⟩)
   ·refine .go 6 ?_
    obtain ⟨u22, hu22, r23⟩ := X0 r21
    refine .cV [_] Tryz.call31 (Xax mcs  hu22) ?_
    refine .go 2 ?_
    refine .cH r23 (fun c26 r27 => ?_) (fun c26 r28 => ?_)
    ·refine .go 2 ?_
     refine .q .ro (.build [_, _, _, _] [] ty39 pl39 rfl rfl) rfl (.store 0 [_, _, _, _] [_, _, _] .ro rfl rfl rfl ty39 rfl rfl rfl rfl (.go 2 ?_))
     cases r27
     refine .rW 3 [.cell 6 39, .tmp 7] [_, _] Tryz.func20 Tryz.results20 ⟨RV.cell_a 0 [_, _, _, _] rfl rfl ty39 rfl, RV.tmp rfl, trivial⟩ B0 hS0 (fun G' hg => ⟨none, 0, rfl, rfl, rfl, (SlR.mono hg (SlR.nil (Rp' := (Rep.sl ri))))⟩)
    ·refine .go 10 ?_
     refine .kB (fun y => ∃ (Z0 : _) (Z1 : List (List Int)) (Z2 : _) (Z3 : Nat) (Z4 Z5 Z6 Z7 Z8 Z9 Z10 : _), y = ⟨[(9, .slice Z2 Z1.length Z3)], Z0 :: Fs, [(b3, .cells #[.int .i64 Z5, .int .i64 Z6, .int .i64 Z7, .slice none 0 0] 39 (0, 0)), (b2, .cells #[.int .i64 Z8, .slice a2_1 x2_1.length k2_1, .int .i64 Z9, .slice a2_3 x2_3.length k2_3] 31 (0, 0)), (b1, .cells #[.int .i64 Z10] 36 (0, 0))], [.s (.slice Z2 Z1.length Z3) 48 1 Z1.length Z4]⟩ ∧ HpLe G Z0 ∧ Bd w0 S0 Fs Z0 ∧ OL (Rep.sl ri) Z0 Z4 Z1 ∧ (X15 x0) Z1 Z5 Z6 Z7 Z8 Z9 Z10 = some r) [(0, _), (4, _), (5, _), (6, _)] [] [] [] [] ?_ ?_
     ·rintro _ ⟨G13, v17, a18, k24, cs25, v30, v33, v34, v38, v40, v41, rfl, e42, B43, o44, r45⟩
      refine .gn 0 ?_
      unfold X15 at r45
      try dsimp only at r45
      refine .go 1 ?_
      refine .freezeR 0 rfl rfl o44 [] rfl B43 (fun G46 e47 B49 s50 => ?_)
      refine .drawL (.q 0 (.q 1 (.q 2 (.q 3 (.q 5 (.e 4 1 (.e 6 1 (.q 7 (.q 8 (.e 9 1 (.q 10 .nil))))))))))) [_, _] (by kernel_rfl) (by kernel_rfl) (X1 [1, 2] rfl) (.go 1 ?_)
      refine .dq (.load_own_a 1 [_] rfl rfl ty36 rfl) rfl (.go 3 ?_)
      obtain ⟨u51, hu51, r52⟩ := X0 r45
      refine .cVd [_] Tryz.call31 (Xax mcs  hu51) ?_
      refine .clsL (HpLe.refl _) (X1 [1, 2] rfl) ?_
      obtain ⟨u57, hu57, r58⟩ := X0 r52
      refine .callW (b1 := []) (b2 := [_, _, _]) (s1 := []) [_, _, _, _] [] .d1 rfl rfl Tryz.call56 rfl rfl (Xhd mcs s50 hu57) rfl B49 (fun v59 bo so G60 e61 B62 h63 => ?_)
      obtain ⟨a65, k66, rfl, rfl, rfl, s67⟩ := h63
      refine .gn 0 ?_
      refine .clsL e61 (X1 [1, 2] rfl) (.go 2 ?_)
      refine .store 0 [_, _, _, _] [_, _, _] .d1 rfl rfl rfl ty39 rfl rfl rfl rfl (.clsL e61 (X1 [1, 2] rfl) (.go 2 ?_))
      cases r58
      refine .rW 3 [.cell 6 39, .tmp 7] [_, _] Tryz.func20 Tryz.results20 ⟨RV.cell_a 0 [_, _, _, _] rfl rfl ty39 rfl, RV.tmp rfl, trivial⟩ B62 hS0 (fun G' hg => ⟨a65, k66, rfl, rfl, rfl, (SlR.mono hg s67)⟩)
     ·intro hb68
      refine .block (.own_nil 48 1 (.pull 2 rfl [_, _, _] rfl (.pull 2 rfl [_, _, _] rfl (.pull 2 rfl [_, _, _] rfl ?_))))
      refine .lp (fun y m => ∃ (Z0 : Nat) (Z1 : _) (Z2 : List (List Int)) (Z3 : _) (Z4 : Nat) (Z5 Z6 Z7 Z8 Z9 Z10 Z11 Z12 : _), y = ⟨[(9, .slice Z3 Z2.length Z4), (10, .int .i64 Z6)], [Z1], [(b3, .cells #[.int .i64 Z7, .int .i64 Z8, .int .i64 Z9, .slice none 0 0] 39 (0, 0)), (b2, .cells #[.int .i64 Z10, .slice a2_1 x2_1.length k2_1, .int .i64 Z11, .slice a2_3 x2_3.length k2_3] 31 (0, 0)), (b1, .cells #[.int .i64 Z12] 36 (0, 0))], [.s (.slice Z3 Z2.length Z4) 48 1 Z2.length Z5]⟩ ∧ Z0 = m ∧ HpLe G Z1 ∧ Bd w0 S0 Fs Z1 ∧ OL (Rep.sl ri) Z1 Z5 Z2 ∧ X1o (X15 x0) x2_3 Z0 Z2 Z6 Z7 Z8 Z9 Z10 Z11 Z12 = some r) [(0, _), (4, _), (5, _), (6, _)] [] [] ⟨big, G, ([] : List (List Int)), none, 0, [], 0, 0, 0, 0, x2_0, x2_2, x1_0, rfl, rfl, (HpLe.refl _), B0, (OL.nil (Rp' := (Rep.sl ri))), r28⟩ (fun y m hI hb69 => ?_)
      obtain ⟨n70, G71, v72, a73, k74, cs75, v76, v77, v78, v79, v80, v81, v82, rfl, rfl, e83, B84, o85, r86⟩ := hI
      refine .gn 0 ?_
      obtain ⟨m87, rfl⟩ : ∃ m, n70 = m + 1 := by cases n70 with | zero => exact absurd (show (none : Option _) = some _ from r86) (by simp) | succ m => exact ⟨m, rfl⟩
      have r88 : X7c (X15 x0) x2_3 (X1o (X15 x0) x2_3 m87) v72 v76 v77 v78 v79 v80 v81 v82 = some r := r86; clear r86; unfold X7c at r88; try dsimp only at r88
      refine .go 9 ?_
      refine .cH r88 (fun c89 r90 => ?_) (fun c89 r91 => ?_)
      ·refine .go 2 ?_
       refine .block (.go 1 ?_)
       refine .drawL (.q 0 (.q 1 (.q 2 (.q 3 (.q 4 (.q 5 (.q 6 (.e 7 1 (.q 8 (.q 9 (.q 10 (.q 11 (.q 12 .nil))))))))))))) [_, _, _] (by kernel_rfl) (by kernel_rfl) (X1 [0, 1, 2] rfl) (.go 5 ?_)
       obtain ⟨u92, hu92, r93⟩ := X0 r90
       obtain ⟨c94, p95, h96⟩ := SlR.get (SlR.mono e83 s2_3) hu92
       obtain ⟨a97, k98, rfl, s99⟩ := h96
       refine .dq (.idxR (SlR.mono e83 s2_3) rfl rfl hu92 sl29 ty32.sz) rfl (.dq (.load_rp p95 mcs rfl ty32 rfl) rfl ?_)
       obtain ⟨u100, hu100, r101⟩ := X0 r93
       refine .cVd [_, _] Tryz.call55 (Xbt mcs s99 hu100) ?_
       refine .clsL (HpLe.refl _) (X1 [0, 1, 2] rfl) (.go 15 ?_)
       refine .kB (fun y => ∃ (Z0 : List Int) (Z1 : _) (Z2 : Nat) (Z3 Z4 Z5 Z6 Z7 Z8 Z9 : _), y = ⟨[(13, .slice Z1 Z0.length Z2)], G71 :: Fs, [(b3, .cells #[.int .i64 Z4, .int .i64 Z5, .int .i64 Z6, .slice none 0 0] 39 (0, 0)), (b2, .cells #[.int .i64 Z7, .slice a2_1 x2_1.length k2_1, .int .i64 Z8, .slice a2_3 x2_3.length k2_3] 31 (0, 0)), (b1, .cells #[.int .i64 Z9] 36 (0, 0))], [.s (.slice Z1 Z0.length Z2) 3 1 Z0.length Z3]⟩ ∧ OL ri G71 Z3 Z0 ∧ (X3o (X1o (X15 x0) x2_3 m87) v76 v72) Z0 Z4 Z5 Z6 Z7 Z8 Z9 = some r) [(9, _), (10, _), (0, _), (4, _), (5, _), (6, _)] [] [] [_] [0] ?_ ?_
       ·rintro _ ⟨v102, a103, k104, cs105, v106, v107, v108, v109, v110, v111, rfl, o112, r113⟩
        refine .gn 0 ?_
        unfold X3o at r113
        try dsimp only at r113
        refine .go 3 ?_
        refine .freezeR 0 rfl rfl o112 [_] rfl B84 (fun G114 e115 B116 s117 => ?_)
        refine .lit [_] [(0, _)] .ro sl37 ty48 rfl rfl rfl rfl rfl rfl (fun b118 hb118 => ?_)
        have o119 : OL (Rep.sl ri) G114 [.slice a103 v102.length k104] ([v102] : List (List Int)) := ((OL.cons rfl (Rep.slI s117) (OL.nil (Rp' := (Rep.sl ri)))) :)
        refine .reval 68 (n' := ([v102] : List (List Int)).length) rfl rfl ?_
        obtain ⟨u120, hu120, r121⟩ := X0 r113
        refine .appO (Q := (Rep.sl ri)) 0 .ro sl37 ty48 rfl rfl rfl rfl rfl rfl (OL.mono e115 o85) o119 rfl rfl rfl B116 hu120 rfl (fun a122 k123 cs124 o125 => ?_)
        refine .go 8 ?_
        exact (hb69 _ _ ⟨m87, G114, u120, a122, k123, cs124, (w64 (v76 + 1)), v106, v107, v108, v109, v110, v111, rfl, rfl, (HpLe.trans e83 e115), B116, o125, r121⟩ (Nat.lt_succ_self _)).ar
       ·intro hb126
        refine .block (.own_nil 3 1 ?_)
        refine .lp (fun y m => ∃ (Z0 : Nat) (Z1 : List Int) (Z2 : _) (Z3 : Nat) (Z4 Z5 : _), y = ⟨[(13, .slice Z2 Z1.length Z3), (14, .int .i64 Z5)], [], [], [.s (.slice Z2 Z1.length Z3) 3 1 Z1.length Z4]⟩ ∧ Z0 = m ∧ OL ri G71 Z4 Z1 ∧ X4n (X3o (X1o (X15 x0) x2_3 m87) v76 v72) u100.1 v77 v78 v79 v80 v81 v82 Z0 Z1 Z5 = some r) [(9, _), (10, _), (0, _), (4, _), (5, _), (6, _), (11, _)] [_, _, _] [_] ⟨big, ([] : List Int), none, 0, [], 0, rfl, rfl, (OL.nil (Rp' := ri)), r101⟩ (fun y m hI hb127 => ?_)
        obtain ⟨n128, v129, a130, k131, cs132, v133, rfl, rfl, o134, r135⟩ := hI
        refine .gn 0 ?_
        obtain ⟨m136, rfl⟩ : ∃ m, n128 = m + 1 := by cases n128 with | zero => exact absurd (show (none : Option _) = some _ from r135) (by simp) | succ m => exact ⟨m, rfl⟩
        have r137 : X7b (X3o (X1o (X15 x0) x2_3 m87) v76 v72) u100.1 v77 v78 v79 v80 v81 v82 (X4n (X3o (X1o (X15 x0) x2_3 m87) v76 v72) u100.1 v77 v78 v79 v80 v81 v82 m136) v129 v133 = some r := r135; clear r135; unfold X7b at r137; try dsimp only at r137
        refine .go 5 ?_
        refine .q .ro (.len_s rfl Tryz.underlying9) rfl (.go 2 ?_)
        refine .cH r137 (fun c138 r139 => ?_) (fun c138 r140 => ?_)
        ·refine .go 2 ?_
         refine .block (.go 4 ?_)
         obtain ⟨u141, hu141, r142⟩ := X0 r139
         refine .q .ro (.sidx rfl rfl Tryz.underlying9 hu141) rfl (.q .ro (.convw Tryz.underlying5 Tryz.underlying3 rfl) rfl ?_)
         refine .lit [_] [(0, _)] .ro sl48 ty3 rfl rfl rfl rfl rfl rfl (fun b143 hb143 => ?_)
         have o144 : OL ri G71 [.int .i64 (w64 u141)] ([(w64 u141)] : List Int) := ((OL.cons rfl (Rep.intI .i64 (w64 u141)) (OL.nil (Rp' := ri))) :)
         refine .reval 64 (n' := ([(w64 u141)] : List Int).length) rfl rfl ?_
         obtain ⟨u145, hu145, r146⟩ := X0 r142
         refine .appO (Q := ri) 0 .ro sl48 ty3 rfl rfl rfl rfl rfl rfl o134 o144 rfl rfl rfl B84 hu145 rfl (fun a147 k148 cs149 o150 => ?_)
         refine .go 8 ?_
         exact (hb127 _ _ ⟨m136, u145, a147, k148, cs149, (w64 (v133 + 1)), rfl, rfl, o150, r146⟩ (Nat.lt_succ_self _)).ar
        ·refine .exit rfl ?_
         exact (hb126 _ ⟨v129, a130, k131, cs132, v77, v78, v79, v80, v81, v82, rfl, o134, r140⟩).ar
      ·refine .exit rfl ?_
       exact (hb68 _ ⟨G71, v72, a73, k74, cs75, v77, v78, v79, v80, v81, v82, rfl, e83, B84, o85, r91⟩).ar
  ·intro hb16
   refine .split 24 rfl (fun c15 => ?_) (fun c15 => ?_)
   ·refine .go 4 ?_
    exact (hb16 _ rfl).ax ⟨X3s c15, rfl, rfl, rfl, rfl, trivial⟩
   ·refine .go 7 ?_
    exact (hb16 _ rfl).ax ⟨X44 c15, rfl, rfl, rfl, rfl, trivial⟩
theorem Xgn {x0 : List Int} {x1 : List Int} {r : Bool} (hG : G ∈ Fs) (s0 : SlR ri G a0 k0 x0) (s1 : SlR ri G a1 k1 x1) (h : Xae x0 x1 = some r) : RetS Tryz.prog 99 #[.slice a0 x0.length k0, .slice a1 x1.length k1] Fs [] [] (rv (.bool r)) := by
 unfold Xae at h
 try dsimp only at h
 refine RetS.st [(0, _), (1, _)] Tryz.func99 Tryz.ntmps99 hG fun w0 S0 hS0 B0 => ?_
 refine .go 13 ?_
 refine .cH h (fun c1 r2 => ?_) (fun c1 r3 => ?_)
 ·refine .go 4 ?_
  cases r2
  refine .rS [.tmp 4] [_] Tryz.func99 Tryz.results99 ⟨rfl, rfl, rfl⟩
 ·refine .go 8 ?_
  refine .block ?_
  refine .lp (fun y m => ∃ (Z0 : Nat) (Z1 : List Int), y = ⟨[(13, .int .i64 (Z0 : Int))], [], [], []⟩ ∧ Z1.length = m ∧ List.drop Z0 x0 = Z1 ∧ X5d x1 Z1 Z0  = some r) [(0, _), (1, _), (12, _)] [] [] ⟨0, x0, rfl, rfl, rfl, r3⟩ (fun y m hI hb27 => ?_)
  obtain ⟨i23, w24, rfl, rfl, g25, r26⟩ := hI
  refine .gn 0 ?_
  cases w24 with
  | nil =>
   rw [X5d] at r26; try dsimp only at r26
   refine .go 5 ?_
   refine .cond_dec rfl (fun c => absurd c (X8 g25)) (fun _ => ?_)
   refine .exit rfl (.go 4 ?_)
   cases r26
   refine .rS [.tmp 4] [_] Tryz.func99 Tryz.results99 ⟨rfl, rfl, rfl⟩
  | cons x32 xs33 =>
   have r31 : X7z x1 (X5d x1 xs33 (i23 + 1)) x32 i23  = some r := r26; clear r26; unfold X7z at r31; try dsimp only at r31
   refine .go 5 ?_
   refine .cond_dec rfl (fun _ => ?_) (fun c => absurd (Xf g25) c)
   refine .go 2 ?_
   refine .block (.go 6 ?_)
   refine .drawL (.q 0 (.q 1 (.q 2 (.q 3 (.q 4 (.q 5 (.q 6 (.q 7 (.q 8 .nil))))))))) [] (by kernel_rfl) (by kernel_rfl) (X1 [] rfl) (.go 2 ?_)
   obtain ⟨c34, p35, h36⟩ := SlR.get s0 (X2 g25)
   obtain rfl := h36
   refine .dq (.idxR s0 rfl rfl (X2 g25) sl48 ty3.sz) rfl (.dq (.load_rp p35 mcs rfl ty3 rfl) rfl (.go 2 ?_))
   obtain ⟨u37, hu37, r38⟩ := X0 r31
   obtain ⟨c39, p40, h41⟩ := SlR.get s1 hu37
   obtain rfl := h41
   refine .dq (.idxR s1 rfl rfl hu37 sl48 ty3.sz) rfl (.dq (.load_rp p40 mcs rfl ty3 rfl) rfl (.go 2 ?_))
   refine .cH r38 (fun c42 r43 => ?_) (fun c42 r44 => ?_)
   ·refine .go 4 ?_
    cases r43
    refine .rS [.tmp 4] [_] Tryz.func99 Tryz.results99 ⟨rfl, rfl, rfl⟩
   ·refine .go 6 ?_
    exact (hb27 _ _ ⟨(i23 + 1), xs33, rfl, rfl, (X3 g25), r44⟩ (Nat.lt_succ_self _)).ax ⟨(congrArg (fun z => some (Value.int .i64 z)) (X7 (SlR.len s0) g25)), rfl, rfl, rfl, trivial⟩
theorem Xcy {x0 : List (List Int)} {x1 : List (List Int)} {r : Bool} (hG : G ∈ Fs) (s0 : SlR (Rep.sl ri) G a0 k0 x0) (s1 : SlR (Rep.sl ri) G a1 k1 x1) (h : X8p x0 x1 = some r) : RetS Tryz.prog 57 #[.slice a0 x0.length k0, .slice a1 x1.length k1] Fs [] [] (rv (.bool r)) := by
 unfold X8p at h
 try dsimp only at h
 refine RetS.st [(0, _), (1, _)] Tryz.func57 Tryz.ntmps57 hG fun w0 S0 hS0 B0 => ?_
 refine .go 13 ?_
 refine .cH h (fun c1 r2 => ?_) (fun c1 r3 => ?_)
 ·refine .go 4 ?_
  cases r2
  refine .rS [.tmp 4] [_] Tryz.func57 Tryz.results57 ⟨rfl, rfl, rfl⟩
 ·refine .go 8 ?_
  refine .block ?_
  refine .lp (fun y m => ∃ (Z0 : Nat) (Z1 : List (List Int)), y = ⟨[(13, .int .i64 (Z0 : Int))], [], [], []⟩ ∧ Z1.length = m ∧ List.drop Z0 x0 = Z1 ∧ X2o x1 Z1 Z0  = some r) [(0, _), (1, _), (12, _)] [] [] ⟨0, x0, rfl, rfl, rfl, r3⟩ (fun y m hI hb37 => ?_)
  obtain ⟨i33, w34, rfl, rfl, g35, r36⟩ := hI
  refine .gn 0 ?_
  cases w34 with
  | nil =>
   rw [X2o] at r36; try dsimp only at r36
   refine .go 5 ?_
   refine .cond_dec rfl (fun c => absurd c (X8 g35)) (fun _ => ?_)
   refine .exit rfl (.go 4 ?_)
   cases r36
   refine .rS [.tmp 4] [_] Tryz.func57 Tryz.results57 ⟨rfl, rfl, rfl⟩
  | cons x42 xs43 =>
   have r41 : X51 x1 (X2o x1 xs43 (i33 + 1)) x42 i33  = some r := r36; clear r36; unfold X51 at r41; try dsimp only at r41
   refine .go 5 ?_
   refine .cond_dec rfl (fun _ => ?_) (fun c => absurd (Xf g35) c)
   refine .go 2 ?_
   refine .block (.go 6 ?_)
   refine .drawL (.q 0 (.q 1 (.q 2 (.q 3 (.q 4 (.q 5 (.q 6 (.q 7 (.e 8 1 (.q 9 .nil)))))))))) [] (by kernel_rfl) (by kernel_rfl) (X1 [] rfl) (.go 2 ?_)
   obtain ⟨c44, p45, h46⟩ := SlR.get s0 (X2 g35)
   obtain ⟨a47, k48, rfl, s49⟩ := h46
   refine .dq (.idxR s0 rfl rfl (X2 g35) sl37 ty48.sz) rfl (.dq (.load_rp p45 mcs rfl ty48 rfl) rfl (.go 2 ?_))
   obtain ⟨u50, hu50, r51⟩ := X0 r41
   obtain ⟨c52, p53, h54⟩ := SlR.get s1 hu50
   obtain ⟨a55, k56, rfl, s57⟩ := h54
   refine .dq (.idxR s1 rfl rfl hu50 sl37 ty48.sz) rfl (.dq (.load_rp p53 mcs rfl ty48 rfl) rfl ?_)
   obtain ⟨u58, hu58, r59⟩ := X0 r51
   refine .cVd [_, _] Tryz.call99 (Xgn mcs s49 s57 hu58) ?_
   refine .clsL (HpLe.refl _) (X1 [] rfl) (.go 2 ?_)
   refine .cB r59 (fun c62 r63 => ?_) (fun c62 r64 => ?_)
   ·refine .go 4 ?_
    cases r63
    refine .rS [.tmp 4] [_] Tryz.func57 Tryz.results57 ⟨rfl, rfl, rfl⟩
   ·refine .go 6 ?_
    exact (hb37 _ _ ⟨(i33 + 1), xs43, rfl, rfl, (X3 g35), r64⟩ (Nat.lt_succ_self _)).ax ⟨(congrArg (fun z => some (Value.int .i64 z)) (X7 (SlR.len s0) g35)), rfl, rfl, rfl, trivial⟩
theorem Xcs {x0_0 : Int} {x0_1 : Int} {x0_2 : Int} {x0_3 : List (List Int)} {x1_0 : Int} {x1_1 : Int} {x1_2 : Int} {x1_3 : List (List Int)} {r : Bool} (hG : G ∈ Fs) (s0_3 : SlR (Rep.sl ri) G a0_3 k0_3 x0_3) (s1_3 : SlR (Rep.sl ri) G a1_3 k1_3 x1_3) (h : X9c (x0_0, x0_1, x0_2, x0_3) (x1_0, x1_1, x1_2, x1_3) = some r) : RetS Tryz.prog 21 #[.agg #[.int .i64 x0_0, .int .i64 x0_1, .int .i64 x0_2, .slice a0_3 x0_3.length k0_3], .agg #[.int .i64 x1_0, .int .i64 x1_1, .int .i64 x1_2, .slice a1_3 x1_3.length k1_3]] Fs [] [] (rv (.bool r)) := by
 unfold X9c at h
 try dsimp only at h
 refine RetS.st [(0, _), (1, _)] Tryz.func21 Tryz.ntmps21 hG fun w0 S0 hS0 B0 => ?_
 refine .go 2 ?_
 refine .box [_, _, _, _] .ro rfl rfl rfl (fun b1 hb1 => ?_)
 refine .box [_, _, _, _] .ro rfl rfl rfl (fun b2 hb2 => ?_)
 refine .go 10 ?_
 refine .kR (fun y => y = ⟨[(16, .bool (decide ((x0_0 = x1_0) ∧ (x0_1 = x1_1))))], G :: Fs, [], []⟩) [(2, _), (3, _), (4, _)] [_, _] [0, 1] [] [] 6 ?_ ?_
 ·rintro _ rfl
  refine .gn 1 ?_
  refine .kR (fun y => y = ⟨[(23, .bool (decide (((x0_0 = x1_0) ∧ (x0_1 = x1_1)) ∧ (x0_2 = x1_2))))], G :: Fs, [], []⟩) [(2, _), (3, _), (4, _)] [_, _] [0, 1] [] [] 6 ?_ ?_
  ·rintro _ rfl
   refine .gn 1 ?_
   obtain ⟨u17, h18, r19⟩ := X0 h
   refine .kR (fun y => y = ⟨[(30, .bool u17)], G :: Fs, [], []⟩) [(4, _)] [_, _] [0, 1] [] [] 6 ?_ ?_
   ·rintro _ rfl
    refine .gn 2 ?_
    cases r19
    refine .drop 2 0 [] _ rfl rfl ?_
    refine .rS [.tmp 4] [_] Tryz.func21 Tryz.results21 ⟨rfl, rfl, rfl⟩
   ·intro hb16
    refine .split 24 rfl (fun c15 => ?_) (fun c15 => ?_)
    ·have r22 := ifT h18 c15
     refine .go 9 ?_
     obtain ⟨u23, hu23, r24⟩ := X0 r22
     refine .cV [_, _] Tryz.call57 (Xcy mcs s0_3 s1_3 hu23) ?_
     refine .go 1 ?_
     exact (hb16 _ rfl).ax ⟨sval r24, rfl, trivial⟩
    ·have r27 := ifF h18 c15
     refine .go 6 ?_
     exact (hb16 _ rfl).ax ⟨sval r27, rfl, trivial⟩
  ·intro hb8
   refine .split 17 rfl (fun c7 => ?_) (fun c7 => ?_)
   ·refine .go 11 ?_
    exact (hb8 _ rfl).ax ⟨X6w c7, rfl, rfl, rfl, trivial⟩
   ·refine .go 6 ?_
    exact (hb8 _ rfl).ax ⟨X6x c7, rfl, rfl, rfl, trivial⟩
 ·intro hb4
  refine .split 10 rfl (fun c3 => ?_) (fun c3 => ?_)
  ·refine .go 3 ?_
   refine .q .ro (.load_own_a 1 [_] rfl rfl ty36 rfl) rfl (.go 3 ?_)
   refine .q .ro (.load_own_a 0 [_] rfl rfl ty36 rfl) rfl (.go 1 ?_)
   refine .q .ro (.cast (show Value.bool (decide (([x0_1] : List Int) = ([x1_1] : List Int))) = Value.bool (decide (x0_1 = x1_1)) from congrArg Value.bool (decide_eq_decide.2 (by simp))) (.eql_i [x0_1] [x1_1] Tryz.underlying36 (by kernel_rfl) Tryz.stoodInHeld36 Tryz.eqGuardType36 rfl rfl rfl rfl)) rfl (.go 1 ?_)
   exact (hb4 _ rfl).ax ⟨X6w c3, rfl, rfl, rfl, trivial⟩
  ·refine .go 6 ?_
   exact (hb4 _ rfl).ax ⟨X6x c3, rfl, rfl, rfl, trivial⟩
theorem Xct {x0_0 : Int} {x0_1 : List (Int × Int)} {x1 : ByteArray} {r : ((List Int) × Int)} (hG : G ∈ Fs) (s0_1 : SlR (Rep.pair ri ri) G a0_1 k0_1 x0_1) (h : X5w (x0_0, x0_1) x1 = some r) : RetS Tryz.prog 22 #[.agg #[.int .i64 x0_0, .slice a0_1 x0_1.length k0_1], .string x1] Fs [] [] (fun v bo so => ∃ (oa0 : Option Addr) (ok0 : Nat) (oc0 : List Value), v = .tuple #[.slice oa0 r.1.length ok0, .int .i64 r.2] ∧ bo = [] ∧ so = [.s (.slice oa0 r.1.length ok0) 3 1 r.1.length oc0] ∧ OL ri G oc0 r.1) := by
 unfold X5w at h
 try dsimp only at h
 refine RetS.st [(0, _), (1, _)] Tryz.func22 Tryz.ntmps22 hG fun w0 S0 hS0 B0 => ?_
 refine .go 2 ?_
 refine .box [_, _] .ro rfl rfl rfl (fun b1 hb1 => ?_)
 refine .go 5 ?_
 refine .q .ro (.load_own_a 0 [_, _] rfl rfl ty28 rfl) rfl (.go 1 ?_)
 obtain ⟨u2, hu2, r3⟩ := X0 h
 refine .cS [_, _] Tryz.call51 (Xav mcs s0_1 hu2) (fun v5 bo so h4 => ?_)
 obtain ⟨a7, k8, cs9, rfl, rfl, rfl, o10⟩ := h4
 refine .gn 5 ?_
 cases r3
 refine .drop 1 0 [] _ rfl rfl ?_
 refine .rS [.tmp 4, .tmp 5] [_, _] Tryz.func22 Tryz.results22 ⟨a7, k8, cs9, rfl, rfl, rfl, o10⟩
theorem Xbh {x0 : List Int} {x1 : List Int} {r : Bool} (hG : G ∈ Fs) (s0 : SlR ri G a0 k0 x0) (s1 : SlR ri G a1 k1 x1) (h : X8d x0 x1 = some r) : RetS Tryz.prog 23 #[.slice a0 x0.length k0, .slice a1 x1.length k1] Fs [] [] (rv (.bool r)) := by
 unfold X8d at h
 try dsimp only at h
 refine RetS.st [(0, _), (1, _)] Tryz.func23 Tryz.ntmps23 hG fun w0 S0 hS0 B0 => ?_
 refine .go 13 ?_
 refine .cH h (fun c1 r2 => ?_) (fun c1 r3 => ?_)
 ·refine .go 4 ?_
  cases r2
  refine .rS [.tmp 4] [_] Tryz.func23 Tryz.results23 ⟨rfl, rfl, rfl⟩
 ·refine .go 6 ?_
  refine .block ?_
  refine .lp (fun y m => ∃ (Z0 : Nat) (Z1 : _), y = ⟨[(5, .int .i64 Z1)], [], [], []⟩ ∧ Z0 = m ∧ X5e x0 x1 Z0 Z1 = some r) [(0, _), (1, _)] [] [] ⟨big, 0, rfl, rfl, r3⟩ (fun y m hI hb26 => ?_)
  obtain ⟨n22, v24, rfl, rfl, r25⟩ := hI
  refine .gn 0 ?_
  obtain ⟨m30, rfl⟩ : ∃ m, n22 = m + 1 := by cases n22 with | zero => exact absurd (show (none : Option _) = some _ from r25) (by simp) | succ m => exact ⟨m, rfl⟩
  have r29 : X80 x0 x1 (X5e x0 x1 m30) v24 = some r := r25; clear r25; unfold X80 at r29; try dsimp only at r29
  refine .go 8 ?_
  refine .cH r29 (fun c31 r32 => ?_) (fun c31 r46 => ?_)
  ·refine .go 2 ?_
   refine .block (.go 1 ?_)
   refine .drawL (.q 0 (.q 1 (.q 2 (.q 3 (.q 4 (.q 5 (.q 6 (.q 7 (.q 8 .nil))))))))) [] (by kernel_rfl) (by kernel_rfl) (X1 [] rfl) (.go 2 ?_)
   obtain ⟨u33, hu33, r34⟩ := X0 r32
   obtain ⟨c35, p36, h37⟩ := SlR.get s0 hu33
   obtain rfl := h37
   refine .dq (.idxR s0 rfl rfl hu33 sl48 ty3.sz) rfl (.dq (.load_rp p36 mcs rfl ty3 rfl) rfl (.go 2 ?_))
   obtain ⟨u38, hu38, r39⟩ := X0 r34
   obtain ⟨c40, p41, h42⟩ := SlR.get s1 hu38
   obtain rfl := h42
   refine .dq (.idxR s1 rfl rfl hu38 sl48 ty3.sz) rfl (.dq (.load_rp p41 mcs rfl ty3 rfl) rfl (.go 2 ?_))
   refine .cH r39 (fun c43 r44 => ?_) (fun c43 r45 => ?_)
   ·refine .go 4 ?_
    cases r44
    refine .rS [.tmp 4] [_] Tryz.func23 Tryz.results23 ⟨rfl, rfl, rfl⟩
   ·refine .go 7 ?_
    exact (hb26 _ _ ⟨m30, (w64 (v24 + 1)), rfl, rfl, r45⟩ (Nat.lt_succ_self _)).ar
  ·refine .exit rfl ?_
   refine .go 4 ?_
   cases r46
   refine .rS [.tmp 4] [_] Tryz.func23 Tryz.results23 ⟨rfl, rfl, rfl⟩
theorem Xeb {x0 : Int} {x1 : ByteArray} {r : ((List (ByteArray × Int)) × Int)} (hG : G ∈ Fs)  (h : X90 x0 x1 = some r) : RetW Tryz.prog 58 #[.int .i64 x0, .string x1] Fs [] [] (fun v bo so G => ∃ a0 : Option Addr, ∃ k0 : Nat, v = .tuple #[.slice a0 r.1.length k0, .int .i64 r.2] ∧ bo = [] ∧ so = [] ∧ SlR (Rep.pair Rep.str ri) G a0 k0 r.1) := by
 unfold X90 at h
 try dsimp only at h
 refine RetW.st [(0, _), (1, _)] Tryz.func58 Tryz.ntmps58 hG fun w0 S0 hS0 B0 => ?_
 refine .go 11 ?_
 refine .kR (fun y => y = ⟨[(19, .bool (decide ((x0 < 1) ∨ (8 < x0))))], G :: Fs, [], []⟩) [(0, _), (1, _)] [] [] [] [] 3 ?_ ?_
 ·rintro _ rfl
  refine .gn 1 ?_
  refine .cH h (fun c5 r6 => ?_) (fun c5 r7 => ?_)
  ·refine .go 5 ?_
   cases r6
   refine .rW 0 [.tmp 4, .tmp 5] [_, _] Tryz.func58 Tryz.results58 ⟨RV.tmp rfl, RV.tmp rfl, trivial⟩ B0 hS0 (fun G' hg => ⟨none, 0, rfl, rfl, rfl, (SlR.mono hg (SlR.nil (Rp' := (Rep.pair Rep.str ri))))⟩)
  ·refine .go 9 ?_
   refine .q .ro (.len_s rfl Tryz.underlying9) rfl (.go 5 ?_)
   refine .cH r7 (fun c8 r9 => ?_) (fun c8 r10 => ?_)
   ·refine .go 5 ?_
    cases r9
    refine .rW 0 [.tmp 4, .tmp 5] [_, _] Tryz.func58 Tryz.results58 ⟨RV.tmp rfl, RV.tmp rfl, trivial⟩ B0 hS0 (fun G' hg => ⟨none, 0, rfl, rfl, rfl, (SlR.mono hg (SlR.nil (Rp' := (Rep.pair Rep.str ri))))⟩)
   ·refine .go 10 ?_
    refine .kB (fun y => ∃ (Z0 : List (ByteArray × Int)) (Z1 : _) (Z2 : Nat) (Z3 : _), y = ⟨[(7, .slice Z1 Z0.length Z2)], G :: Fs, [], [.s (.slice Z1 Z0.length Z2) 69 2 Z0.length Z3]⟩ ∧ OL (Rep.pair Rep.str ri) G Z3 Z0 ∧ (X2h x0 x1) Z0 = some r) [(0, _), (1, _)] [] [] [] [] ?_ ?_
    ·rintro _ ⟨v11, a12, k13, cs14, rfl, o15, r16⟩
     refine .gn 0 ?_
     unfold X2h at r16
     try dsimp only at r16
     refine .go 5 ?_
     refine .freezeR 0 rfl rfl o15 [] rfl B0 (fun G17 e18 B19 s21 => ?_)
     obtain ⟨u22, hu22, r23⟩ := X0 r16
     refine .cV [_, _] Tryz.call55 (Xbt mcs s21 hu22) ?_
     refine .go 11 ?_
     refine .kR (fun y => y = ⟨[(96, .bool (decide ((u22.2 ≠ 0) ∨ (u22.1 ≠ x1))))], G17 :: Fs, [], []⟩) [(7, _)] [] [] [] [] 4 ?_ ?_
     ·rintro _ rfl
      refine .gn 1 ?_
      refine .cH r23 (fun c24 r25 => ?_) (fun c24 r26 => ?_)
      ·refine .go 5 ?_
       cases r25
       refine .rW 0 [.tmp 4, .tmp 5] [_, _] Tryz.func58 Tryz.results58 ⟨RV.tmp rfl, RV.tmp rfl, trivial⟩ B19 hS0 (fun G' hg => ⟨none, 0, rfl, rfl, rfl, (SlR.mono hg (SlR.nil (Rp' := (Rep.pair Rep.str ri))))⟩)
      ·refine .go 7 ?_
       cases r26
       refine .rW 0 [.tmp 4, .tmp 5] [_, _] Tryz.func58 Tryz.results58 ⟨RV.tmp rfl, RV.tmp rfl, trivial⟩ B19 hS0 (fun G' hg => ⟨a12, k13, rfl, rfl, rfl, (SlR.mono hg s21)⟩)
     ·intro hb27
      refine .split 92 rfl (fun c28 => ?_) (fun c28 => ?_)
      ·refine .go 4 ?_
       exact (hb27 _ rfl).ax ⟨X3s c28, rfl, trivial⟩
      ·refine .go 5 ?_
       refine .q .ro (.neq_s rfl rfl) rfl (.go 1 ?_)
       exact (hb27 _ rfl).ax ⟨X44 c28, rfl, trivial⟩
    ·intro hb29
     refine .block (.own_nil 69 2 ?_)
     refine .lp (fun y m => ∃ (Z0 : Nat) (Z1 : List (ByteArray × Int)) (Z2 : _) (Z3 : Nat) (Z4 Z5 : _), y = ⟨[(7, .slice Z2 Z1.length Z3), (8, .int .i64 Z5)], [], [], [.s (.slice Z2 Z1.length Z3) 69 2 Z1.length Z4]⟩ ∧ Z0 = m ∧ OL (Rep.pair Rep.str ri) G Z4 Z1 ∧ X41 (X2h x0 x1) x0 x1 Z0 Z1 Z5 = some r) [(0, _), (1, _), (6, _)] [] [] ⟨big, ([] : List (ByteArray × Int)), none, 0, [], 0, rfl, rfl, (OL.nil (Rp' := (Rep.pair Rep.str ri))), r10⟩ (fun y m hI hb30 => ?_)
     obtain ⟨n31, v33, a34, k35, cs36, v37, rfl, rfl, o38, r39⟩ := hI
     refine .gn 0 ?_
     obtain ⟨m40, rfl⟩ : ∃ m, n31 = m + 1 := by cases n31 with | zero => exact absurd (show (none : Option _) = some _ from r39) (by simp) | succ m => exact ⟨m, rfl⟩
     have r41 : X6l (X2h x0 x1) x0 x1 (X41 (X2h x0 x1) x0 x1 m40) v33 v37 = some r := r39; clear r39; unfold X6l at r41; try dsimp only at r41
     refine .go 7 ?_
     refine .cH r41 (fun c42 r43 => ?_) (fun c42 r44 => ?_)
     ·refine .go 2 ?_
      refine .block (.go 10 ?_)
      obtain ⟨u45, hu45, r46⟩ := X0 r43
      refine .q .ro (.ssub rfl Tryz.underlying9 hu45 (fun h => .yes' rfl h) (fun h => .yes' rfl h)) rfl (.go 5 ?_)
      obtain ⟨u47, hu47, r48⟩ := X0 r46
      refine .q .ro (.sidx rfl rfl Tryz.underlying9 hu47) rfl (.q .ro (.convw Tryz.underlying5 Tryz.underlying3 rfl) rfl (.go 7 ?_))
      refine .kR (fun y => y = ⟨[(48, .bool (decide ((0 < (w64 u47)) ∧ ((w64 u47) ≤ 32))))], G :: Fs, [], []⟩) [(7, _), (8, _), (0, _), (1, _), (6, _), (9, _), (10, _)] [] [] [_] [0] 3 ?_ ?_
      ·rintro _ rfl
       refine .gn 1 ?_
       refine .cH r48 (fun c49 r50 => ?_) (fun c49 r51 => ?_)
       ·refine .go 1 ?_
        refine .drawL (.q 0 (.q 1 (.q 2 (.q 3 (.q 4 (.q 5 (.q 6 (.q 7 (.q 8 (.q 9 (.q 10 (.q 11 (.q 12 (.q 13 (.q 14 (.q 15 (.q 16 (.q 17 (.q 18 (.q 19 (.q 20 (.q 21 (.q 22 (.q 23 (.q 24 (.q 25 (.q 26 .nil))))))))))))))))))))))))))) [] (by kernel_rfl) (by kernel_rfl) (X1 [] rfl) (.go 3 ?_)
        obtain ⟨u52, hu52, r53⟩ := X0 r50
        refine .dq (.sidx rfl rfl Tryz.underlying9 hu52) rfl (.dq (.convw Tryz.underlying5 Tryz.underlying3 rfl) rfl (.go 3 ?_))
        obtain ⟨u54, hu54, r56⟩ := X0 r53
        refine .dq (.sidx rfl rfl Tryz.underlying9 hu54) rfl (.dq (.convw Tryz.underlying5 Tryz.underlying3 rfl) rfl (.dq (.shlw rfl rfl (by decide)) rfl (.dq (.orw rfl rfl) rfl (.go 3 ?_))))
        obtain ⟨u57, hu57, r59⟩ := X0 r56
        refine .dq (.sidx rfl rfl Tryz.underlying9 hu57) rfl (.dq (.convw Tryz.underlying5 Tryz.underlying3 rfl) rfl (.dq (.shlw rfl rfl (by decide)) rfl (.dq (.orw rfl rfl) rfl (.go 3 ?_))))
        obtain ⟨u60, hu60, r61⟩ := X0 r59
        refine .dq (.sidx rfl rfl Tryz.underlying9 hu60) rfl (.dq (.convw Tryz.underlying5 Tryz.underlying3 rfl) rfl (.dq (.shlw rfl rfl (by decide)) rfl (.dq (.orw rfl rfl) rfl (.go 7 ?_))))
        obtain ⟨u62, hu62, r63⟩ := X0 r61
        refine .q .ro (.ssub rfl Tryz.underlying9 hu62 (fun h => .yes' rfl h) (fun h => .yes' rfl h)) rfl (.go 1 ?_)
        refine .q .ro (.build [_, _] [(0, _), (1, _)] ty69 pl69 rfl rfl) rfl ?_
        refine .lit [_, _] [(0, _)] .ro sl32 ty69 rfl rfl rfl rfl rfl rfl (fun b65 hb65 => ?_)
        have o66 : OL (Rep.pair Rep.str ri) G [.string u62, .int .i64 (orI .i64 (orI .i64 (orI .i64 (w64 u52) (shlI .i64 (w64 u54) 8)) (shlI .i64 (w64 u57) 16)) (shlI .i64 (w64 u60) 24))] ([(u62, (orI .i64 (orI .i64 (orI .i64 (w64 u52) (shlI .i64 (w64 u54) 8)) (shlI .i64 (w64 u57) 16)) (shlI .i64 (w64 u60) 24)))] : List (ByteArray × Int)) := ((OL.cons rfl (Rep.pairI (Rep.strI u62) (Rep.intI .i64 (orI .i64 (orI .i64 (orI .i64 (w64 u52) (shlI .i64 (w64 u54) 8)) (shlI .i64 (w64 u57) 16)) (shlI .i64 (w64 u60) 24)))) (OL.nil (Rp' := (Rep.pair Rep.str ri)))) :)
        refine .reval 82 (n' := ([(u62, (orI .i64 (orI .i64 (orI .i64 (w64 u52) (shlI .i64 (w64 u54) 8)) (shlI .i64 (w64 u57) 16)) (shlI .i64 (w64 u60) 24)))] : List (ByteArray × Int)).length) rfl rfl ?_
        obtain ⟨u67, hu67, r68⟩ := X0 r63
        refine .appO (Q := (Rep.pair Rep.str ri)) 0 .ro sl32 ty69 rfl rfl rfl rfl rfl rfl o38 o66 rfl rfl rfl B0 hu67 rfl (fun a70 k71 cs72 o73 => ?_)
        refine .go 8 ?_
        exact (hb30 _ _ ⟨m40, u67, a70, k71, cs72, (w64 (v37 + 1)), rfl, rfl, o73, r68⟩ (Nat.lt_succ_self _)).ar
       ·refine .go 7 ?_
        exact (hb30 _ _ ⟨m40, v33, a34, k35, cs36, (w64 (v37 + 1)), rfl, rfl, o38, r51⟩ (Nat.lt_succ_self _)).ar
      ·intro hb74
       refine .split 45 rfl (fun c75 => ?_) (fun c75 => ?_)
       ·refine .go 5 ?_
        exact (hb74 _ rfl).ax ⟨X6w c75, rfl, rfl, rfl, rfl, rfl, rfl, rfl, trivial⟩
       ·refine .go 3 ?_
        exact (hb74 _ rfl).ax ⟨X6x c75, rfl, rfl, rfl, rfl, rfl, rfl, rfl, trivial⟩
     ·refine .exit rfl ?_
      exact (hb29 _ ⟨v33, a34, k35, cs36, rfl, o38, r44⟩).ar
 ·intro hb2
  refine .split 16 rfl (fun c1 => ?_) (fun c1 => ?_)
  ·refine .go 3 ?_
   exact (hb2 _ rfl).ax ⟨X3s c1, rfl, rfl, trivial⟩
  ·refine .go 5 ?_
   exact (hb2 _ rfl).ax ⟨X44 c1, rfl, rfl, trivial⟩
theorem Xgo {x0 : ByteArray} {x1 : List (List (ByteArray × Int))} {r : (Int × Bool × Int)} (hG : G ∈ Fs) (s1 : SlR (Rep.sl (Rep.pair Rep.str ri)) G a1 k1 x1) (h : Xaf x0 x1 = some r) : RetS Tryz.prog 59 #[.string x0, .slice a1 x1.length k1] Fs [] [] (rv (.tuple #[.int .i64 r.1, .bool r.2.1, .int .i64 r.2.2])) := by
 unfold Xaf at h
 try dsimp only at h
 refine RetS.st [(0, _), (1, _)] Tryz.func59 Tryz.ntmps59 hG fun w0 S0 hS0 B0 => ?_
 refine .go 10 ?_
 obtain ⟨u1, hu1, r2⟩ := X0 h
 refine .cV [_] Tryz.call92 (X9x mcs  hu1) ?_
 refine .go 2 ?_
 refine .cB r2 (fun c5 r6 => ?_) (fun c5 r7 => ?_)
 ·refine .go 6 ?_
  cases r6
  refine .rS [.tmp 4, .tmp 5, .tmp 6] [_, _, _] Tryz.func59 Tryz.results59 ⟨rfl, rfl, rfl⟩
 ·refine .go 8 ?_
  refine .block ?_
  refine .lp (fun y m => ∃ (Z0 : Nat) (Z1 : List (List (ByteArray × Int))), y = ⟨[(16, .int .i64 (Z0 : Int))], [], [], []⟩ ∧ Z1.length = m ∧ List.drop Z0 x1 = Z1 ∧ X49 x0 Z1  = some r) [(0, _), (14, _), (15, _)] [] [] ⟨0, x1, rfl, rfl, rfl, r7⟩ (fun y m hI hb61 => ?_)
  obtain ⟨i57, w58, rfl, rfl, g59, r60⟩ := hI
  refine .gn 0 ?_
  cases w58 with
  | nil =>
   rw [X49] at r60; try dsimp only at r60
   refine .go 5 ?_
   refine .cond_dec rfl (fun c => absurd c (X8 g59)) (fun _ => ?_)
   refine .exit rfl (.go 6 ?_)
   cases r60
   refine .rS [.tmp 4, .tmp 5, .tmp 6] [_, _, _] Tryz.func59 Tryz.results59 ⟨rfl, rfl, rfl⟩
  | cons x66 xs67 =>
   have r65 : Xar x0 (X49 x0 xs67) x66  = some r := r60; clear r60; unfold Xar at r65; try dsimp only at r65
   refine .go 5 ?_
   refine .cond_dec rfl (fun _ => ?_) (fun c => absurd (Xf g59) c)
   refine .go 2 ?_
   refine .block (.go 2 ?_)
   obtain ⟨c68, p69, h70⟩ := SlR.get s1 (X2 g59)
   obtain ⟨a71, k72, rfl, s73⟩ := h70
   refine .q .ro (.idxR s1 rfl rfl (X2 g59) sl29 ty32.sz) rfl (.q .ro (.load_rp p69 mcs rfl ty32 rfl) rfl (.go 8 ?_))
   refine .block ?_
   refine .lp (fun y m => ∃ (Z0 : Nat) (Z1 : List (ByteArray × Int)), y = ⟨[(22, .int .i64 (Z0 : Int))], [], [], []⟩ ∧ Z1.length = m ∧ List.drop Z0 x66 = Z1 ∧ X5f (X49 x0 xs67) x0 Z1  = some r) [(16, _), (0, _), (14, _), (15, _), (20, _), (21, _)] [] [] ⟨0, x66, rfl, rfl, rfl, r65⟩ (fun y m hI hb93 => ?_)
   obtain ⟨i89, w90, rfl, rfl, g91, r92⟩ := hI
   refine .gn 0 ?_
   cases w90 with
   | nil =>
    rw [X5f] at r92; try dsimp only at r92
    refine .go 5 ?_
    refine .cond_dec rfl (fun c => absurd c (X8 g91)) (fun _ => ?_)
    refine .exit rfl (.go 5 ?_)
    exact (hb61 _ _ ⟨(i57 + 1), xs67, rfl, rfl, (X3 g59), r92⟩ (Nat.lt_succ_self _)).ax ⟨(congrArg (fun z => some (Value.int .i64 z)) (X7 (SlR.len s1) g59)), rfl, rfl, rfl, trivial⟩
   | cons x10 xs11 =>
    have r12 : X81 (X49 x0 xs67) x0 (X5f (X49 x0 xs67) x0 xs11) x10  = some r := r92; clear r92; unfold X81 at r12; try dsimp only at r12
    refine .go 5 ?_
    refine .cond_dec rfl (fun _ => ?_) (fun c => absurd (Xf g91) c)
    refine .go 2 ?_
    refine .block (.go 2 ?_)
    obtain ⟨c13, p14, h15⟩ := SlR.get s73 (X2 g91)
    obtain ⟨_, _, rfl, rfl, rfl⟩ := h15
    refine .q .ro (.idxR s73 rfl rfl (X2 g91) sl32 ty69.sz) rfl (.q .ro (.load_rp_a [_, _] p14 mcs rfl ty69 rfl) rfl ?_)
    refine .alloc .ro ty69 rfl (fun b16 hb16 => ?_)
    refine .store 0 [_, _] [_] .ro rfl rfl rfl ty69 rfl rfl rfl rfl (.go 6 ?_)
    refine .q .ro (.eql_s rfl rfl) rfl (.go 1 ?_)
    refine .cH r12 (fun c17 r18 => ?_) (fun c17 r19 => ?_)
    ·refine .go 8 ?_
     cases r18
     refine .drop 1 0 [] _ rfl rfl ?_
     refine .rS [.tmp 4, .tmp 5, .tmp 6] [_, _, _] Tryz.func59 Tryz.results59 ⟨rfl, rfl, rfl⟩
    ·refine .go 6 ?_
     refine .drop 1 0 [] _ rfl rfl ?_
     exact (hb93 _ _ ⟨(i89 + 1), xs11, rfl, rfl, (X3 g91), r19⟩ (Nat.lt_succ_self _)).ax ⟨(congrArg (fun z => some (Value.int .i64 z)) (X7 (SlR.len s73) g91)), rfl, rfl, rfl, rfl, rfl, rfl, trivial⟩
end Go.Proofs.YtmfppphlhgneeaaGreat
end

section
set_option maxHeartbeats 4000000
set_option maxRecDepth 100000
namespace Go.Proofs.YtmfppphlhgneeaaGreat
open Go.RowKit
set_option linter.unusedSimpArgs false
set_option linter.unusedVariables false
set_option synthInstance.maxSize 2000
set_option synthInstance.maxHeartbeats 400000
variable {Fs : List Hp} {G : Hp} {a2 a0_0 a0 a0_1 a1 : Option Addr} {k2 p0 k0_0 k0 k0_1 k1 : Nat} {p1 p2 : Value}
theorem Xgp {x0 : Int} {x1 : ByteArray} {x2 : List (Int × (List Int) × (List Int))} {r : (Int × Bool × Int)} (hG : G ∈ Fs) (s2 : SlR (Rep.pair ri (Rep.pair (Rep.sl ri) (Rep.sl ri))) G a2 k2 x2) (h : Xag x0 x1 x2 = some r) : RetS Tryz.prog 24 #[.int .i64 x0, .string x1, .slice a2 x2.length k2] Fs [] [] (rv (.tuple #[.int .i64 r.1, .bool r.2.1, .int .i64 r.2.2])) := by
 unfold Xag at h
 try dsimp only at h
 refine RetS.st [(0, _), (1, _), (2, _)] Tryz.func24 Tryz.ntmps24 hG fun w0 S0 hS0 B0 => ?_
 refine .go 11 ?_
 refine .cutB (β := Unit) (fun y => []) [(0, _), (1, _), (2, _)] (fun y => G :: Fs) (fun y => []) [] (fun y => []) [] (fun y => (X4c x0 x1 x2)  = some r) ⟨rfl, rfl, rfl, trivial⟩ [] rfl [] rfl ?_ ?_
 ·intro _ hI
  have r70 := hI; clear hI
  refine .gn 0 ?_
  unfold X4c at r70
  try dsimp only at r70
  refine .go 9 ?_
  refine .kB (fun y => ∃ (Z0 : _) (Z1 : List ByteArray) (Z2 : _) (Z3 : Nat) (Z4 : _), y = ⟨[(10, .slice Z2 Z1.length Z3)], Z0 :: Fs, [], [.s (.slice Z2 Z1.length Z3) 9 1 Z1.length Z4]⟩ ∧ HpLe G Z0 ∧ Bd w0 S0 Fs Z0 ∧ OL Rep.str Z0 Z4 Z1 ∧ (X24 x0 x1) Z1 = some r) [(0, _), (1, _)] [] [] [] [] ?_ ?_
  ·rintro _ ⟨G10, v11, a12, k13, cs14, rfl, e15, B16, o17, r18⟩
   refine .gn 0 ?_
   unfold X24 at r18
   try dsimp only at r18
   refine .go 9 ?_
   refine .kB (fun y => ∃ (Z0 : _) (Z1 : List (List (ByteArray × Int))) (Z2 : _) (Z3 : Nat) (Z4 : _), y = ⟨[(14, .slice Z2 Z1.length Z3)], Z0 :: Fs, [], [.s (.slice Z2 Z1.length Z3) 32 1 Z1.length Z4]⟩ ∧ HpLe G10 Z0 ∧ Bd w0 S0 Fs Z0 ∧ OL (Rep.sl (Rep.pair Rep.str ri)) Z0 Z4 Z1 ∧ (X4a x1) Z1 = some r) [(1, _)] [] [] [_] [0] ?_ ?_
   ·rintro _ ⟨G19, v21, a23, k25, cs26, rfl, e27, B28, o30, r31⟩
    refine .gn 0 ?_
    unfold X4a at r31
    try dsimp only at r31
    refine .go 4 ?_
    refine .freezeR 0 rfl rfl o30 [_] rfl B28 (fun G33 e34 B36 s37 => ?_)
    obtain ⟨u38, hu38, r39⟩ := X0 r31
    refine .cV [_, _] Tryz.call59 (Xgo mcs s37 hu38) ?_
    refine .go 7 ?_
    cases r39
    refine .drop 0 1 _ [] rfl rfl ?_
    refine .rS [.tmp 6, .tmp 7, .tmp 8] [_, _, _] Tryz.func24 Tryz.results24 ⟨rfl, rfl, rfl⟩
   ·intro hb41
    refine .block (.own_nil 32 1 ?_)
    refine .lp (fun y m => ∃ (Z0 : Nat) (Z1 : _) (Z2 : List (List (ByteArray × Int))) (Z3 : _) (Z4 : Nat) (Z5 Z6 : _), y = ⟨[(14, .slice Z3 Z2.length Z4), (15, .int .i64 Z6)], [Z1], [], [.s (.slice Z3 Z2.length Z4) 32 1 Z2.length Z5]⟩ ∧ Z0 = m ∧ HpLe G10 Z1 ∧ Bd w0 S0 Fs Z1 ∧ OL (Rep.sl (Rep.pair Rep.str ri)) Z1 Z5 Z2 ∧ X5g (X4a x1) x0 v11 Z0 Z2 Z6 = some r) [(10, _), (0, _), (1, _)] [] [_] ⟨big, G10, ([] : List (List (ByteArray × Int))), none, 0, [], 0, rfl, rfl, (HpLe.refl _), B16, (OL.nil (Rp' := (Rep.sl (Rep.pair Rep.str ri)))), r18⟩ (fun y m hI hb42 => ?_)
    obtain ⟨n43, G44, v45, a47, k49, cs50, v51, rfl, rfl, e52, B53, o54, r55⟩ := hI
    refine .gn 0 ?_
    obtain ⟨m56, rfl⟩ : ∃ m, n43 = m + 1 := by cases n43 with | zero => exact absurd (show (none : Option _) = some _ from r55) (by simp) | succ m => exact ⟨m, rfl⟩
    have r57 : X82 (X4a x1) x0 v11 (X5g (X4a x1) x0 v11 m56) v45 v51 = some r := r55; clear r55; unfold X82 at r57; try dsimp only at r57
    refine .go 8 ?_
    refine .cH r57 (fun c60 r61 => ?_) (fun c60 r62 => ?_)
    ·refine .go 2 ?_
     refine .block (.go 5 ?_)
     obtain ⟨u65, hu65, r66⟩ := X0 r61
     obtain ⟨c67, p68, h69⟩ := OL.get (OL.mono e52 o17) hu65
     obtain rfl := h69
     refine .q .ro (.idxO 1 rfl rfl rfl hu65 sl46 ty9.sz) rfl (.q .ro (.loadO 1 0 rfl hu65 p68 rfl (.inl ⟨rfl, rfl⟩) ty9 rfl) rfl ?_)
     obtain ⟨u71, hu71, r72⟩ := X0 r66
     refine .cW [_, _] Tryz.call58 (Xeb mcs  hu71) B53 (fun v73 bo so G74 e75 B76 h77 => ?_)
     obtain ⟨a78, k79, rfl, rfl, rfl, s81⟩ := h77
     refine .gn 12 ?_
     refine .cH r72 (fun c82 r83 => ?_) (fun c82 r84 => ?_)
     ·refine .go 7 ?_
      cases r83
      refine .drop 0 2 _ [] rfl rfl ?_
      refine .rS [.tmp 6, .tmp 7, .tmp 8] [_, _, _] Tryz.func24 Tryz.results24 ⟨rfl, rfl, rfl⟩
     ·refine .go 4 ?_
      refine .lit [_] [(0, _)] .ro sl29 ty32 rfl rfl rfl rfl rfl rfl (fun b85 hb85 => ?_)
      have o86 : OL (Rep.sl (Rep.pair Rep.str ri)) G74 [.slice a78 u71.1.length k79] ([u71.1] : List (List (ByteArray × Int))) := ((OL.cons rfl (Rep.slI s81) (OL.nil (Rp' := (Rep.sl (Rep.pair Rep.str ri))))) :)
      refine .reval 108 (n' := ([u71.1] : List (List (ByteArray × Int))).length) rfl rfl ?_
      obtain ⟨u87, hu87, r88⟩ := X0 r84
      refine .appO (Q := (Rep.sl (Rep.pair Rep.str ri))) 0 .ro sl29 ty32 rfl rfl rfl rfl rfl rfl (OL.mono e75 o54) o86 rfl rfl rfl B76 hu87 rfl (fun a89 k90 cs91 o92 => ?_)
      refine .go 8 ?_
      exact (hb42 _ _ ⟨m56, G74, u87, a89, k90, cs91, (w64 (v51 + 1)), rfl, rfl, (HpLe.trans e52 e75), B76, o92, r88⟩ (Nat.lt_succ_self _)).ar
    ·refine .exit rfl ?_
     exact (hb41 _ ⟨G44, v45, a47, k49, cs50, rfl, e52, B53, o54, r62⟩).ar
  ·intro hb93
   refine .block (.own_nil 9 1 ?_)
   refine .lp (fun y m => ∃ (Z0 : Nat) (Z1 : _) (Z2 : List ByteArray) (Z3 : _) (Z4 : Nat) (Z5 Z6 : _), y = ⟨[(10, .slice Z3 Z2.length Z4), (11, .int .i64 Z6)], [Z1], [], [.s (.slice Z3 Z2.length Z4) 9 1 Z2.length Z5]⟩ ∧ Z0 = m ∧ HpLe G Z1 ∧ Bd w0 S0 Fs Z1 ∧ OL Rep.str Z1 Z5 Z2 ∧ X25 (X24 x0 x1) x2 Z0 Z2 Z6 = some r) [(0, _), (1, _), (2, _)] [] [] ⟨big, G, ([] : List ByteArray), none, 0, [], 0, rfl, rfl, (HpLe.refl _), B0, (OL.nil (Rp' := Rep.str)), r70⟩ (fun y m hI hb94 => ?_)
   obtain ⟨n95, G96, v97, a98, k99, cs100, v101, rfl, rfl, e102, B103, o104, r105⟩ := hI
   refine .gn 0 ?_
   obtain ⟨m106, rfl⟩ : ∃ m, n95 = m + 1 := by cases n95 with | zero => exact absurd (show (none : Option _) = some _ from r105) (by simp) | succ m => exact ⟨m, rfl⟩
   have r107 : X84 (X24 x0 x1) x2 (X25 (X24 x0 x1) x2 m106) v97 v101 = some r := r105; clear r105; unfold X84 at r107; try dsimp only at r107
   refine .go 8 ?_
   refine .cH r107 (fun c108 r109 => ?_) (fun c108 r110 => ?_)
   ·refine .go 2 ?_
    refine .block (.go 9 ?_)
    refine .kB (fun y => ∃ (Z0 : List Int) (Z1 : _) (Z2 : Nat) (Z3 : _), y = ⟨[(12, .slice Z1 Z0.length Z2)], G96 :: Fs, [], [.s (.slice Z1 Z0.length Z2) 5 1 Z0.length Z3]⟩ ∧ OL (Rep.int .u8) G96 Z3 Z0 ∧ (X4b (X25 (X24 x0 x1) x2 m106) v101 v97) Z0 = some r) [(10, _), (11, _), (0, _), (1, _), (2, _)] [] [] [_] [0] ?_ ?_
    ·rintro _ ⟨v111, a112, k113, cs114, rfl, o115, r116⟩
     refine .gn 0 ?_
     unfold X4b at r116
     try dsimp only at r116
     refine .go 3 ?_
     refine .freezeR 0 rfl rfl o115 [_] rfl B103 (fun G117 e118 B119 s120 => ?_)
     refine .q .ro (.b2s s120 mcs rfl Tryz.underlying22 Tryz.underlying5 Tryz.underlying9) rfl ?_
     refine .lit [_] [(0, _)] .ro sl46 ty9 rfl rfl rfl rfl rfl rfl (fun b121 hb121 => ?_)
     have o122 : OL Rep.str G117 [.string (ofB v111)] ([(ofB v111)] : List ByteArray) := ((OL.cons rfl (Rep.strI (ofB v111)) (OL.nil (Rp' := Rep.str))) :)
     refine .reval 86 (n' := ([(ofB v111)] : List ByteArray).length) rfl rfl ?_
     obtain ⟨u123, hu123, r124⟩ := X0 r116
     refine .appO (Q := Rep.str) 0 .ro sl46 ty9 rfl rfl rfl rfl rfl rfl (OL.mono e118 o104) o122 rfl rfl rfl B119 hu123 rfl (fun a125 k126 cs127 o128 => ?_)
     refine .go 8 ?_
     exact (hb94 _ _ ⟨m106, G117, u123, a125, k126, cs127, (w64 (v101 + 1)), rfl, rfl, (HpLe.trans e102 e118), B119, o128, r124⟩ (Nat.lt_succ_self _)).ar
    ·intro hb129
     refine .block (.own_nil 5 1 ?_)
     refine .lp (fun y m => ∃ (Z0 : Nat) (Z1 : List Int) (Z2 : _) (Z3 : Nat) (Z4 Z5 : _), y = ⟨[(12, .slice Z2 Z1.length Z3), (13, .int .i64 Z5)], [], [], [.s (.slice Z2 Z1.length Z3) 5 1 Z1.length Z4]⟩ ∧ Z0 = m ∧ OL (Rep.int .u8) G96 Z4 Z1 ∧ X5h (X4b (X25 (X24 x0 x1) x2 m106) v101 v97) v101 x2 Z0 Z1 Z5 = some r) [(10, _), (11, _), (0, _), (1, _), (2, _)] [] [_] ⟨big, ([] : List Int), none, 0, [], 0, rfl, rfl, (OL.nil (Rp' := (Rep.int .u8))), r109⟩ (fun y m hI hb130 => ?_)
     obtain ⟨n131, v132, a133, k134, cs135, v136, rfl, rfl, o137, r138⟩ := hI
     refine .gn 0 ?_
     obtain ⟨m139, rfl⟩ : ∃ m, n131 = m + 1 := by cases n131 with | zero => exact absurd (show (none : Option _) = some _ from r138) (by simp) | succ m => exact ⟨m, rfl⟩
     have r140 : X83 (X4b (X25 (X24 x0 x1) x2 m106) v101 v97) v101 x2 (X5h (X4b (X25 (X24 x0 x1) x2 m106) v101 v97) v101 x2 m139) v132 v136 = some r := r138; clear r138; unfold X83 at r140; try dsimp only at r140
     refine .go 6 ?_
     obtain ⟨u141, hu141, r142⟩ := X0 r140
     obtain ⟨c143, p144, h145⟩ := SlR.get (SlR.mono e102 s2) hu141
     obtain ⟨_, _, rfl, rfl, _, _, rfl, ⟨a146, k147, rfl, s148⟩, a149, k150, rfl, s151⟩ := h145
     refine .q .ro (.idxR (SlR.mono e102 s2) rfl rfl hu141 sl63 ty80.sz) rfl (.q .ro (.fieldAddr_rp p144 rfl Xb2 ty48.sz) rfl (.q .ro (.load_rp (p144.add _) mcs rfl ty48 rfl) rfl (.go 3 ?_)))
     refine .cH r142 (fun c152 r153 => ?_) (fun c152 r154 => ?_)
     ·refine .go 2 ?_
      refine .block (.go 5 ?_)
      obtain ⟨u155, hu155, r156⟩ := X0 r153
      obtain ⟨c157, p158, h159⟩ := SlR.get (SlR.mono e102 s2) hu155
      obtain ⟨_, _, rfl, rfl, _, _, rfl, ⟨a160, k161, rfl, s162⟩, a163, k164, rfl, s165⟩ := h159
      refine .q .ro (.idxR (SlR.mono e102 s2) rfl rfl hu155 sl63 ty80.sz) rfl (.q .ro (.fieldAddr_rp p158 rfl Xb2 ty48.sz) rfl (.q .ro (.load_rp (p158.add _) mcs rfl ty48 rfl) rfl (.go 1 ?_)))
      obtain ⟨u166, hu166, r167⟩ := X0 r156
      obtain ⟨c168, p169, h170⟩ := SlR.get s162 hu166
      obtain rfl := h170
      refine .q .ro (.idxR s162 rfl rfl hu166 sl48 ty3.sz) rfl (.q .ro (.load_rp p169 mcs rfl ty3 rfl) rfl (.go 2 ?_))
      obtain ⟨u171, h172, r173⟩ := X0 r167
      refine .kR (fun y => y = ⟨[(70, .bool u171)], G96 :: Fs, [], []⟩) [(12, _), (13, _), (10, _), (11, _), (0, _), (1, _), (2, _)] [] [] [_, _] [0, 1] 10 ?_ ?_
      ·rintro _ rfl
       refine .gn 1 ?_
       refine .cB r173 (fun c174 r175 => ?_) (fun c174 r176 => ?_)
       ·refine .go 6 ?_
        cases r175
        refine .drop 0 2 _ [] rfl rfl ?_
        refine .rS [.tmp 6, .tmp 7, .tmp 8] [_, _, _] Tryz.func24 Tryz.results24 ⟨rfl, rfl, rfl⟩
       ·refine .go 5 ?_
        obtain ⟨u177, hu177, r178⟩ := X0 r176
        obtain ⟨c179, p180, h181⟩ := SlR.get (SlR.mono e102 s2) hu177
        obtain ⟨_, _, rfl, rfl, _, _, rfl, ⟨a182, k183, rfl, s184⟩, a185, k186, rfl, s187⟩ := h181
        refine .q .ro (.idxR (SlR.mono e102 s2) rfl rfl hu177 sl63 ty80.sz) rfl (.q .ro (.fieldAddr_rp p180 rfl Xb2 ty48.sz) rfl (.q .ro (.load_rp (p180.add _) mcs rfl ty48 rfl) rfl (.go 1 ?_)))
        obtain ⟨u188, hu188, r189⟩ := X0 r178
        obtain ⟨c190, p191, h192⟩ := SlR.get s184 hu188
        obtain rfl := h192
        refine .q .ro (.idxR s184 rfl rfl hu188 sl48 ty3.sz) rfl (.q .ro (.load_rp p191 mcs rfl ty3 rfl) rfl (.q .ro (.convw Tryz.underlying3 Tryz.underlying5 rfl) rfl ?_))
        refine .lit [_] [(0, _)] .ro sl22 ty5 rfl rfl rfl rfl rfl rfl (fun b193 hb193 => ?_)
        have o194 : OL (Rep.int .u8) G96 [.int .u8 (wu8 u188)] ([(wu8 u188)] : List Int) := ((OL.cons rfl (Rep.intI .u8 (wu8 u188)) (OL.nil (Rp' := (Rep.int .u8)))) :)
        refine .reval 81 (n' := ([(wu8 u188)] : List Int).length) rfl rfl ?_
        obtain ⟨u195, hu195, r196⟩ := X0 r189
        refine .appO (Q := (Rep.int .u8)) 0 .ro sl22 ty5 rfl rfl rfl rfl rfl rfl o137 o194 rfl rfl rfl B103 hu195 rfl (fun a197 k198 cs199 o200 => ?_)
        refine .go 8 ?_
        exact (hb130 _ _ ⟨m139, u195, a197, k198, cs199, (w64 (v136 + 1)), rfl, rfl, o200, r196⟩ (Nat.lt_succ_self _)).ar
      ·intro hb201
       refine .split 60 rfl (fun c202 => ?_) (fun c202 => ?_)
       ·have r203 := ifT h172 c202
        refine .go 10 ?_
        exact (hb201 _ rfl).ax ⟨sval r203, rfl, rfl, rfl, rfl, rfl, rfl, rfl, trivial⟩
       ·have r204 := ifF h172 c202
        refine .go 5 ?_
        obtain ⟨u205, hu205, r206⟩ := X0 r204
        obtain ⟨c207, p208, h209⟩ := SlR.get (SlR.mono e102 s2) hu205
        obtain ⟨_, _, rfl, rfl, _, _, rfl, ⟨a210, k211, rfl, s212⟩, a213, k214, rfl, s215⟩ := h209
        refine .q .ro (.idxR (SlR.mono e102 s2) rfl rfl hu205 sl63 ty80.sz) rfl (.go 1 ?_)
        refine .q .ro (.fieldAddr_rp p208 rfl Xb2 ty48.sz) rfl (.go 1 ?_)
        refine .q .ro (.load_rp (p208.add _) mcs rfl ty48 rfl) rfl (.go 3 ?_)
        obtain ⟨u216, hu216, r217⟩ := X0 r206
        obtain ⟨c218, p219, h220⟩ := SlR.get s212 hu216
        obtain rfl := h220
        refine .q .ro (.idxR s212 rfl rfl hu216 sl48 ty3.sz) rfl (.go 1 ?_)
        refine .q .ro (.load_rp p219 mcs rfl ty3 rfl) rfl (.go 3 ?_)
        exact (hb201 _ rfl).ax ⟨sval r217, rfl, rfl, rfl, rfl, rfl, rfl, rfl, trivial⟩
     ·refine .exit rfl ?_
      exact (hb129 _ ⟨v132, a133, k134, cs135, rfl, o137, r154⟩).ar
   ·refine .exit rfl ?_
    exact (hb93 _ ⟨G96, v97, a98, k99, cs100, rfl, e102, B103, o104, r110⟩).ar
 ·intro hb221
  refine .block ?_
  refine .lp (fun y m => ∃ (Z0 : Nat) (Z1 : _), y = ⟨[(9, .int .i64 Z1)], [], [], []⟩ ∧ Z0 = m ∧ X5i (X4c x0 x1 x2) x2 Z0 Z1 = some r) [(0, _), (1, _), (2, _)] [] [] ⟨big, 0, rfl, rfl, h⟩ (fun y m hI hb222 => ?_)
  obtain ⟨n223, v224, rfl, rfl, r225⟩ := hI
  refine .gn 0 ?_
  obtain ⟨m226, rfl⟩ : ∃ m, n223 = m + 1 := by cases n223 with | zero => exact absurd (show (none : Option _) = some _ from r225) (by simp) | succ m => exact ⟨m, rfl⟩
  have r227 : X85 (X4c x0 x1 x2) x2 (X5i (X4c x0 x1 x2) x2 m226) v224 = some r := r225; clear r225; unfold X85 at r227; try dsimp only at r227
  refine .go 8 ?_
  refine .cH r227 (fun c228 r229 => ?_) (fun c228 r230 => ?_)
  ·refine .go 2 ?_
   refine .block (.go 4 ?_)
   obtain ⟨u231, hu231, r232⟩ := X0 r229
   obtain ⟨c233, p234, h235⟩ := SlR.get s2 hu231
   obtain ⟨_, _, rfl, rfl, _, _, rfl, ⟨a236, k237, rfl, s238⟩, a239, k240, rfl, s241⟩ := h235
   refine .q .ro (.idxR s2 rfl rfl hu231 sl63 ty80.sz) rfl (.q .ro (.fieldAddr_rp p234 rfl Xhq ty40.sz) rfl (.q .ro (.load_rp (p234.add _) mcs rfl ty40 rfl) rfl (.go 2 ?_)))
   refine .cH r232 (fun c242 r243 => ?_) (fun c242 r244 => ?_)
   ·refine .go 1 ?_
    refine .drawL (.q 0 (.q 1 (.q 2 (.q 3 (.q 4 (.q 5 (.q 6 (.q 7 .nil)))))))) [] (by kernel_rfl) (by kernel_rfl) (X1 [] rfl) (.go 2 ?_)
    obtain ⟨u245, hu245, r246⟩ := X0 r243
    obtain ⟨c247, p248, h249⟩ := SlR.get s2 hu245
    obtain ⟨_, _, rfl, rfl, _, _, rfl, ⟨a250, k251, rfl, s252⟩, a253, k254, rfl, s255⟩ := h249
    refine .dq (.idxR s2 rfl rfl hu245 sl63 ty80.sz) rfl (.dq (.fieldAddr_rp p248 rfl Xhq ty40.sz) rfl (.dq (.load_rp (p248.add _) mcs rfl ty40 rfl) rfl (.go 4 ?_)))
    cases r246
    refine .rS [.tmp 6, .tmp 7, .tmp 8] [_, _, _] Tryz.func24 Tryz.results24 ⟨rfl, rfl, rfl⟩
   ·refine .go 7 ?_
    exact (hb222 _ _ ⟨m226, (w64 (v224 + 1)), rfl, rfl, r244⟩ (Nat.lt_succ_self _)).ar
  ·refine .exit rfl ?_
   exact .arr (hb221 () r230) ⟨rfl, rfl, rfl, trivial⟩
theorem Xfj {x0_0 : List Int} {x0_1 : Int} {r : ((Int × (List ByteArray)) × ((List Int) × Int))} (hG : G ∈ Fs) (s0_0 : SlR (Rep.int .u8) G a0_0 k0_0 x0_0) (h : X9s (x0_0, x0_1) = some r) : RetW Tryz.prog 25 #[.pointer (some ⟨p0, 0, none⟩)] Fs [(p0, .cells #[.slice a0_0 x0_0.length k0_0, .int .i64 x0_1] 91 (0, 0))] [] (fun v bo so G => ∃ a0 : Option Addr, ∃ k0 : Nat, ∃ a1 : Option Addr, ∃ k1 : Nat, v = .agg #[.int .i64 r.1.1, .slice a0 r.1.2.length k0] ∧ bo = [(p0, .cells #[.slice a1 r.2.1.length k1, .int .i64 r.2.2] 91 (0, 0))] ∧ so = [] ∧ SlR Rep.str G a0 k0 r.1.2 ∧ SlR (Rep.int .u8) G a1 k1 r.2.1) := by
 unfold X9s at h
 try dsimp only at h
 refine RetW.st [(0, _)] Tryz.func25 Tryz.ntmps25 hG fun w0 S0 hS0 B0 => ?_
 refine .go 2 ?_
 refine .alloc .ro ty72 rfl (fun b1 hb1 => ?_)
 refine .go 4 ?_
 obtain ⟨u2, hu2, r3⟩ := X0 h
 refine .pull 1 rfl [_, _] rfl ?_
 refine .callS (b1 := [_]) (b2 := [_]) (s1 := []) [_, _] [] .ro rfl rfl Tryz.call10 rfl rfl (X6 mcs s0_0 hu2) rfl (fun v5 bo so h4 => ?_)
 obtain ⟨a6, k7, rfl, rfl, rfl, s8⟩ := h4
 refine .gn 1 ?_
 refine .q .ro (.build [_, _] [(0, _)] ty72 pl72 rfl rfl) rfl ?_
 refine .alloc .ro ty72 rfl (fun b9 hb9 => ?_)
 refine .store 0 [_, _] [_, _, _] .ro rfl rfl rfl ty72 rfl rfl rfl rfl (.go 6 ?_)
 refine .kB (fun y => ∃ (Z0 Z1 : _) (Z2 : List ByteArray) (Z3 : _) (Z4 : Nat) (Z5 : _) (Z6 : List Int) (Z7 : _) (Z8 : Nat) (Z9 Z10 : _), y = ⟨[], Z0 :: Fs, [(b9, .cells #[.int .i64 Z1, .slice Z3 Z2.length Z4] 72 (0, 0)), (p0, .cells #[.slice Z7 Z6.length Z8, .int .i64 Z9] 91 (0, 0)), (b1, .cells #[.int .i64 Z10, .slice none 0 0] 72 (0, 0))], [.s (.slice Z3 Z2.length Z4) 9 1 Z2.length Z5]⟩ ∧ HpLe G Z0 ∧ Bd w0 S0 Fs Z0 ∧ OL Rep.str Z0 Z5 Z2 ∧ SlR (Rep.int .u8) Z0 Z7 Z8 Z6 ∧ X4o Z1 Z2 Z6 Z9 Z10 = some r) [(2, _), (3, _)] [] [] [] [] ?_ ?_
 ·rintro _ ⟨G11, v12, v13, a14, k15, cs16, v17, a18, k19, v20, v21, rfl, e23, B24, o26, s27, r28⟩
  refine .gn 0 ?_
  unfold X4o at r28
  try dsimp only at r28
  refine .go 2 ?_
  refine .q .ro (.load_own_a 0 [_, _] rfl rfl ty72 rfl) rfl (.store 2 [_, _] [_, _, _] .ro rfl rfl rfl ty72 rfl rfl rfl rfl (.go 1 ?_))
  refine .freezeR 0 rfl rfl o26 [] rfl B24 (fun G29 e30 B31 s32 => ?_)
  cases r28
  refine .pull 1 rfl [_, _, _] rfl (.pull 2 rfl [_, _, _] rfl (.pull 2 rfl [_, _, _] rfl ?_))
  refine .rW 2 [.cell 2 72] [_] Tryz.func25 Tryz.results25 ⟨RV.cell_a 1 [_, _] rfl rfl ty72 rfl, trivial⟩ B31 hS0 (fun G' hg => ⟨a14, k15, a18, k19, rfl, rfl, rfl, (SlR.mono hg s32), (SlR.mono hg (SlR.mono e30 s27))⟩)
 ·intro hb33
  refine .block (.own_nil 9 1 (.pull 1 rfl [_, _, _] rfl (.pull 1 rfl [_, _, _] rfl ?_)))
  refine .lp (fun y m => ∃ (Z0 : Nat) (Z1 Z2 : _) (Z3 : List ByteArray) (Z4 : _) (Z5 : Nat) (Z6 : _) (Z7 : List Int) (Z8 : _) (Z9 : Nat) (Z10 : _), y = ⟨[(4, .int .i64 Z2)], [Z1], [(b9, .cells #[.int .i64 (w64 (2 + u2.1)), .slice Z4 Z3.length Z5] 72 (0, 0)), (p0, .cells #[.slice Z8 Z7.length Z9, .int .i64 Z10] 91 (0, 0))], [.s (.slice Z4 Z3.length Z5) 9 1 Z3.length Z6]⟩ ∧ Z0 = m ∧ HpLe G Z1 ∧ Bd w0 S0 Fs Z1 ∧ OL Rep.str Z1 Z6 Z3 ∧ SlR (Rep.int .u8) Z1 Z8 Z9 Z7 ∧ X5x X4o (w64 (2 + u2.1)) Z0 Z2 Z3 Z7 Z10 = some r) [(0, _), (2, _), (3, _)] [_] [] ⟨big, G, 0, ([] : List ByteArray), none, 0, [], u2.2.1, a6, k7, u2.2.2, rfl, rfl, (HpLe.refl _), B0, (OL.nil (Rp' := Rep.str)), s8, r3⟩ (fun y m hI hb34 => ?_)
  obtain ⟨n36, G37, v38, v39, a40, k41, cs42, v43, a44, k45, v47, rfl, rfl, e48, B49, o50, s51, r52⟩ := hI
  refine .gn 0 ?_
  obtain ⟨m53, rfl⟩ : ∃ m, n36 = m + 1 := by cases n36 with | zero => exact absurd (show (none : Option _) = some _ from r52) (by simp) | succ m => exact ⟨m, rfl⟩
  have r54 : X8q X4o (w64 (2 + u2.1)) (X5x X4o (w64 (2 + u2.1)) m53) v38 v39 v43 v47 = some r := r52; clear r52; unfold X8q at r54; try dsimp only at r54
  refine .go 5 ?_
  obtain ⟨u55, hu55, r56⟩ := X0 r54
  refine .pull 1 rfl [_, _, _] rfl ?_
  refine .callS (b1 := [_]) (b2 := [_, _]) (s1 := []) [_, _] [] .ro rfl rfl Tryz.call10 rfl rfl (X6 mcs s51 hu55) rfl (fun v57 bo so h58 => ?_)
  obtain ⟨a59, k60, rfl, rfl, rfl, s61⟩ := h58
  refine .gn 3 ?_
  refine .cH r56 (fun c62 r63 => ?_) (fun c62 r65 => ?_)
  ·refine .go 2 ?_
   refine .block (.go 5 ?_)
   refine .q .ro (.convw Tryz.underlying3 Tryz.underlying5 rfl) rfl (.go 1 ?_)
   refine .lit [_] [(0, _)] .ro sl22 ty5 rfl rfl rfl rfl rfl rfl (fun b66 hb66 => ?_)
   have o67 : OL (Rep.int .u8) G37 [.int .u8 (wu8 (97 + (wu8 (w64 (2 * v38)))))] ([(wu8 (97 + (wu8 (w64 (2 * v38)))))] : List Int) := ((OL.cons rfl (Rep.intI .u8 (wu8 (97 + (wu8 (w64 (2 * v38)))))) (OL.nil (Rp' := (Rep.int .u8)))) :)
   refine .reval 22 (n' := ([(wu8 (97 + (wu8 (w64 (2 * v38)))))] : List Int).length) rfl rfl ?_
   refine .freezeR 0 rfl rfl o67 [_] rfl B49 (fun G68 e69 B70 s71 => ?_)
   refine .q .ro (.b2s s71 mcs rfl Tryz.underlying22 Tryz.underlying5 Tryz.underlying9) rfl ?_
   refine .lit [_] [(0, _)] .ro sl46 ty9 rfl rfl rfl rfl rfl rfl (fun b73 hb73 => ?_)
   have o74 : OL Rep.str G68 [.string (ofB ([(wu8 (97 + (wu8 (w64 (2 * v38)))))] : List Int))] ([(ofB ([(wu8 (97 + (wu8 (w64 (2 * v38)))))] : List Int))] : List ByteArray) := ((OL.cons rfl (Rep.strI (ofB ([(wu8 (97 + (wu8 (w64 (2 * v38)))))] : List Int))) (OL.nil (Rp' := Rep.str))) :)
   refine .reval 24 (n' := ([(ofB ([(wu8 (97 + (wu8 (w64 (2 * v38)))))] : List Int))] : List ByteArray).length) rfl rfl ?_
   obtain ⟨u75, hu75, r76⟩ := X0 r63
   refine .appO (Q := Rep.str) 0 .ro sl46 ty9 rfl rfl rfl rfl rfl rfl (OL.mono e69 o50) o74 rfl rfl rfl B70 hu75 rfl (fun a77 k78 cs79 o80 => ?_)
   refine .go 1 ?_
   refine .store 1 [_, _] [_, _, _] .ro rfl rfl rfl ty46 rfl rfl rfl rfl (.go 7 ?_)
   refine .pull 2 rfl [_, _, _] rfl (.pull 1 rfl [_, _, _] rfl (.pull 2 rfl [_, _, _] rfl ?_))
   exact (hb34 _ _ ⟨m53, G68, (w64 (v38 + 1)), u75, a77, k78, cs79, u55.2.1, a59, k60, u55.2.2, rfl, rfl, (HpLe.trans e48 e69), B70, o80, (SlR.mono e69 s61), r76⟩ (Nat.lt_succ_self _)).ar
  ·refine .exit rfl ?_
   refine .pull 2 rfl [_, _, _] rfl (.pull 1 rfl [_, _, _] rfl (.pull 2 rfl [_, _, _] rfl ?_))
   exact (hb33 _ ⟨G37, (w64 (2 + u2.1)), v39, a40, k41, cs42, u55.2.1, a59, k60, u55.2.2, 0, rfl, e48, B49, o50, s61, r65⟩).ar
theorem Xec {x0 : List ByteArray} {r : Bool} (hG : G ∈ Fs) (s0 : SlR Rep.str G a0 k0 x0) (h : Xa0 x0 = some r) : RetS Tryz.prog 130 #[.slice a0 x0.length k0] Fs [] [] (rv (.bool r)) := by
 unfold Xa0 at h
 try dsimp only at h
 refine RetS.st [(0, _)] Tryz.func130 Tryz.ntmps130 hG fun w0 S0 hS0 B0 => ?_
 refine .go 11 ?_
 refine .block ?_
 refine .lp (fun y m => ∃ (Z0 : Nat) (Z1 : List ByteArray), y = ⟨[(7, .int .i64 (Z0 : Int))], [], [], []⟩ ∧ Z1.length = m ∧ List.drop Z0 x0 = Z1 ∧ X42 x0 Z1 Z0  = some r) [(0, _), (5, _), (6, _)] [] [] ⟨0, x0, rfl, rfl, rfl, h⟩ (fun y m hI hb70 => ?_)
 obtain ⟨i66, w67, rfl, rfl, g68, r69⟩ := hI
 refine .gn 0 ?_
 cases w67 with
 | nil =>
  rw [X42] at r69; try dsimp only at r69
  refine .go 5 ?_
  refine .cond_dec rfl (fun c => absurd c (X8 g68)) (fun _ => ?_)
  refine .exit rfl (.go 4 ?_)
  cases r69
  refine .rS [.tmp 2] [_] Tryz.func130 Tryz.results130 ⟨rfl, rfl, rfl⟩
 | cons x74 xs75 =>
  have r73 : X86 x0 (X42 x0 xs75 (i66 + 1)) x74 i66  = some r := r69; clear r69; unfold X86 at r73; try dsimp only at r73
  refine .go 5 ?_
  refine .cond_dec rfl (fun _ => ?_) (fun c => absurd (Xf g68) c)
  refine .go 2 ?_
  refine .block (.go 3 ?_)
  obtain ⟨c76, p77, h78⟩ := SlR.get s0 (X2 g68)
  obtain rfl := h78
  refine .q .ro (.idxR s0 rfl rfl (X2 g68) sl46 ty9.sz) rfl (.q .ro (.load_rp p77 mcs rfl ty9 rfl) rfl (.go 6 ?_))
  obtain ⟨u79, hu79, r80⟩ := X0 r73
  refine .cV [_] Tryz.call92 (X9x mcs  hu79) ?_
  refine .go 2 ?_
  obtain ⟨u10, h11, r12⟩ := X0 r80
  refine .kR (fun y => y = ⟨[(27, .bool u10)], G :: Fs, [], []⟩) [(7, _), (0, _), (5, _), (6, _)] [] [] [] [] 12 ?_ ?_
  ·rintro _ rfl
   refine .gn 1 ?_
   refine .cB r12 (fun c13 r14 => ?_) (fun c13 r15 => ?_)
   ·refine .go 4 ?_
    cases r14
    refine .rS [.tmp 2] [_] Tryz.func130 Tryz.results130 ⟨rfl, rfl, rfl⟩
   ·refine .go 6 ?_
    exact (hb70 _ _ ⟨(i66 + 1), xs75, rfl, rfl, (X3 g68), r15⟩ (Nat.lt_succ_self _)).ax ⟨(congrArg (fun z => some (Value.int .i64 z)) (X7 (SlR.len s0) g68)), rfl, rfl, rfl, trivial⟩
  ·intro hb16
   refine .split_b 15 rfl (fun c17 => ?_) (fun c17 => ?_)
   ·have r18 := ifT h11 c17
    refine .go 3 ?_
    refine .gu_off rfl rfl (.gu_off rfl rfl (.gu_off rfl rfl (.gu_off rfl rfl (.gu_off rfl rfl (.gu_off rfl rfl (.gu_off rfl rfl (.go 2 ?_)))))))
    exact (hb16 _ rfl).ax ⟨sval r18, rfl, rfl, rfl, rfl, trivial⟩
   ·have r19 := ifBF h11 c17
    refine .go 6 ?_
    obtain ⟨u22, h23, r24⟩ := X0 r19
    refine .kR (fun y => y = ⟨[(26, .bool u22)], G :: Fs, [], []⟩) [(7, _), (0, _), (5, _), (6, _), (15, _), (16, _), (17, _)] [] [] [] [] 8 ?_ ?_
    ·rintro _ rfl
     refine .gn 1 ?_
     exact (hb16 _ rfl).ax ⟨sval r24, rfl, rfl, rfl, rfl, trivial⟩
    ·intro hb25
     refine .split 18 rfl (fun c26 => ?_) (fun c26 => ?_)
     ·have r27 := ifT h23 c26
      refine .go 9 ?_
      obtain ⟨u28, hu28, r29⟩ := X0 r27
      obtain ⟨c30, p31, h32⟩ := SlR.get s0 hu28
      obtain rfl := h32
      refine .q .ro (.idxR s0 rfl rfl hu28 sl46 ty9.sz) rfl (.go 1 ?_)
      refine .q .ro (.load_rp p31 mcs rfl ty9 rfl) rfl (.go 1 ?_)
      refine .q .ro (.leq_d rfl rfl) rfl (.go 2 ?_)
      exact (hb25 _ rfl).ax ⟨sval r29, rfl, rfl, rfl, rfl, rfl, rfl, rfl, trivial⟩
     ·have r33 := ifF h23 c26
      refine .go 9 ?_
      exact (hb25 _ rfl).ax ⟨sval r33, rfl, rfl, rfl, rfl, rfl, rfl, rfl, trivial⟩
theorem Xfk {x0_0 : Int} {x0_1 : List ByteArray} {r : Int} (hG : G ∈ Fs) (s0_1 : SlR Rep.str G a0_1 k0_1 x0_1) (h : X9t (x0_0, x0_1) = some r) : RetS Tryz.prog 102 #[.agg #[.int .i64 x0_0, .slice a0_1 x0_1.length k0_1]] Fs [] [] (rv (.int .i64 r)) := by
 unfold X9t at h
 try dsimp only at h
 refine RetS.st [(0, _)] Tryz.func102 Tryz.ntmps102 hG fun w0 S0 hS0 B0 => ?_
 refine .go 2 ?_
 refine .box [_, _] .ro rfl rfl rfl (fun b1 hb1 => ?_)
 refine .go 9 ?_
 refine .kR (fun y => y = ⟨[(10, .bool (decide ((x0_0 < 2) ∨ (8 < x0_0))))], G :: Fs, [], []⟩) [(1, _)] [_] [0] [] [] 4 ?_ ?_
 ·rintro _ rfl
  refine .gn 1 ?_
  refine .kR (fun y => y = ⟨[(16, .bool (decide (((x0_0 < 2) ∨ (8 < x0_0)) ∨ ((x0_1.length : Int) < 1))))], G :: Fs, [], []⟩) [(1, _)] [_] [0] [] [] 5 ?_ ?_
  ·rintro _ rfl
   refine .gn 1 ?_
   refine .kR (fun y => y = ⟨[(22, .bool (decide ((((x0_0 < 2) ∨ (8 < x0_0)) ∨ ((x0_1.length : Int) < 1)) ∨ (256 < (x0_1.length : Int)))))], G :: Fs, [], []⟩) [(1, _)] [_] [0] [] [] 5 ?_ ?_
   ·rintro _ rfl
    refine .gn 1 ?_
    obtain ⟨u20, h21, r22⟩ := X0 h
    refine .kR (fun y => y = ⟨[(28, .bool u20)], G :: Fs, [], []⟩) [] [_] [0] [] [] 5 ?_ ?_
    ·rintro _ rfl
     refine .gn 1 ?_
     refine .cB r22 (fun c25 r26 => ?_) (fun c25 r27 => ?_)
     ·refine .go 4 ?_
      cases r26
      refine .drop 1 0 [] _ rfl rfl ?_
      refine .rS [.tmp 2] [_] Tryz.func102 Tryz.results102 ⟨rfl, rfl, rfl⟩
     ·refine .go 5 ?_
      cases r27
      refine .drop 1 0 [] _ rfl rfl ?_
      refine .rS [.tmp 2] [_] Tryz.func102 Tryz.results102 ⟨rfl, rfl, rfl⟩
    ·intro hb19
     refine .split 23 rfl (fun c18 => ?_) (fun c18 => ?_)
     ·have r28 := ifT h21 c18
      refine .go 5 ?_
      exact (hb19 _ rfl).ax ⟨sval r28, trivial⟩
     ·have r29 := ifF h21 c18
      refine .go 5 ?_
      obtain ⟨u30, hu30, r31⟩ := X0 r29
      refine .cV [_] Tryz.call130 (Xec mcs s0_1 hu30) ?_
      refine .go 3 ?_
      exact (hb19 _ rfl).ax ⟨sval r31, trivial⟩
   ·intro hb11
    refine .split 17 rfl (fun c10 => ?_) (fun c10 => ?_)
    ·refine .go 5 ?_
     exact (hb11 _ rfl).ax ⟨X3s c10, rfl, trivial⟩
    ·refine .go 9 ?_
     exact (hb11 _ rfl).ax ⟨X44 c10, rfl, trivial⟩
  ·intro hb7
   refine .split 11 rfl (fun c6 => ?_) (fun c6 => ?_)
   ·refine .go 5 ?_
    exact (hb7 _ rfl).ax ⟨X3s c6, rfl, trivial⟩
   ·refine .go 9 ?_
    exact (hb7 _ rfl).ax ⟨X44 c6, rfl, trivial⟩
 ·intro hb3
  refine .split 6 rfl (fun c2 => ?_) (fun c2 => ?_)
  ·refine .go 4 ?_
   exact (hb3 _ rfl).ax ⟨X3s c2, rfl, trivial⟩
  ·refine .go 7 ?_
   exact (hb3 _ rfl).ax ⟨X44 c2, rfl, trivial⟩
theorem Xbu {x0_0 : Int} {x0_1 : List ByteArray} {r : ((List (List ByteArray)) × Int)} (hG : G ∈ Fs) (s0_1 : SlR Rep.str G a0_1 k0_1 x0_1) (h : X7m (x0_0, x0_1) = some r) : RetW Tryz.prog 63 #[.agg #[.int .i64 x0_0, .slice a0_1 x0_1.length k0_1]] Fs [] [] (fun v bo so G => ∃ (oa0 : Option Addr) (ok0 : Nat) (oc0 : List Value), v = .tuple #[.slice oa0 r.1.length ok0, .int .i64 r.2] ∧ bo = [] ∧ so = [.s (.slice oa0 r.1.length ok0) 46 1 r.1.length oc0] ∧ OL (Rep.sl Rep.str) G oc0 r.1) := by
 unfold X7m at h
 try dsimp only at h
 refine RetW.st [(0, _)] Tryz.func63 Tryz.ntmps63 hG fun w0 S0 hS0 B0 => ?_
 refine .go 2 ?_
 refine .box [_, _] .ro rfl rfl rfl (fun b1 hb1 => ?_)
 refine .go 6 ?_
 refine .q .ro (.load_own_a 0 [_, _] rfl rfl ty72 rfl) rfl ?_
 obtain ⟨u2, hu2, r3⟩ := X0 h
 refine .cV [_] Tryz.call102 (Xfk mcs s0_1 hu2) ?_
 refine .go 7 ?_
 refine .cH r3 (fun c6 r7 => ?_) (fun c6 r9 => ?_)
 ·refine .go 6 ?_
  refine .own_nil 46 1 ?_
  cases r7
  refine .drop 1 0 [] _ rfl rfl ?_
  refine .rW 0 [.tmp 2, .tmp 3] [_, _] Tryz.func63 Tryz.results63 ⟨RV.tmp rfl, RV.tmp rfl, trivial⟩ B0 hS0 (fun G' hg => ⟨none, 0, [], rfl, rfl, rfl, (OL.mono hg (OL.nil (Rp' := (Rep.sl Rep.str))))⟩)
 ·refine .go 5 ?_
  refine .own_nil 9 1 ?_
  obtain ⟨u15, hu15, r16⟩ := X0 r9
  refine .appR (Q := Rep.str) 0 .ro sl46 ty9 rfl rfl rfl rfl rfl (OL.nil (Rp' := Rep.str)) rfl rfl s0_1 rfl mcs hu15 rfl (fun a11 k12 cs13 o14 => ?_)
  refine .go 5 ?_
  refine .freezeR 0 rfl rfl o14 [] rfl B0 (fun G18 e19 B20 s21 => ?_)
  refine .lit [_] [(0, _)] .ro sl123 ty46 rfl rfl rfl rfl rfl rfl (fun b23 hb23 => ?_)
  have o24 : OL (Rep.sl Rep.str) G18 [.slice a11 u15.length k12] ([u15] : List (List ByteArray)) := ((OL.cons rfl (Rep.slI s21) (OL.nil (Rp' := (Rep.sl Rep.str)))) :)
  refine .reval 18 (n' := ([u15] : List (List ByteArray)).length) rfl rfl (.go 3 ?_)
  refine .block ?_
  refine .lp (fun y m => ∃ (Z0 : Nat) (Z1 : _) (Z2 : List ByteArray) (Z3 : _) (Z4 : Nat) (Z5 : List (List ByteArray)) (Z6 : _) (Z7 : Nat) (Z8 Z9 : _), y = ⟨[(5, .slice Z3 Z2.length Z4), (6, .slice Z6 Z5.length Z7)], [Z1], [(b1, .cells #[.int .i64 Z9, .slice a0_1 x0_1.length k0_1] 72 (0, 0))], [.s (.slice Z6 Z5.length Z7) 46 1 Z5.length Z8]⟩ ∧ Z0 = m ∧ HpLe G18 Z1 ∧ Bd w0 S0 Fs Z1 ∧ SlR Rep.str Z1 Z3 Z4 Z2 ∧ OL (Rep.sl Rep.str) Z1 Z8 Z5 ∧ X1j Z0 Z2 Z5 Z9 = some r) [(1, _)] [] [] ⟨big, G18, u15, a11, k12, ([u15] : List (List ByteArray)), (some ⟨b23, 0, none⟩), 1, [.slice a11 u15.length k12], x0_0, rfl, rfl, (HpLe.refl _), B20, s21, o24, r16⟩ (fun y m hI hb10 => ?_)
  obtain ⟨n17, G22, v25, a26, k27, v28, a29, k30, cs31, v32, rfl, rfl, e33, B34, s35, o36, r37⟩ := hI
  refine .gn 0 ?_
  obtain ⟨m38, rfl⟩ : ∃ m, n17 = m + 1 := by cases n17 with | zero => exact absurd (show (none : Option _) = some _ from r37) (by simp) | succ m => exact ⟨m, rfl⟩
  have r39 : X6n (X1j m38) v25 v28 v32 = some r := r37; clear r37; unfold X6n at r39; try dsimp only at r39
  refine .go 9 ?_
  refine .cH r39 (fun c40 r41 => ?_) (fun c40 r42 => ?_)
  ·refine .go 1 ?_
   refine .block (.go 9 ?_)
   refine .kB (fun y => ∃ (Z0 : List ByteArray) (Z1 : _) (Z2 : Nat) (Z3 Z4 : _), y = ⟨[(7, .slice Z1 Z0.length Z2)], G22 :: Fs, [(b1, .cells #[.int .i64 Z4, .slice a0_1 x0_1.length k0_1] 72 (0, 0))], [.s (.slice Z1 Z0.length Z2) 9 1 Z0.length Z3]⟩ ∧ OL Rep.str G22 Z3 Z0 ∧ (X2z (X1j m38) v28) Z0 Z4 = some r) [(6, _), (1, _)] [] [] [_] [0] ?_ ?_
   ·rintro _ ⟨v43, a44, k45, cs47, v48, rfl, o49, r50⟩
    refine .gn 0 ?_
    unfold X2z at r50
    try dsimp only at r50
    refine .go 4 ?_
    refine .freezeR 0 rfl rfl o49 [_] rfl B34 (fun G51 e52 B53 s54 => ?_)
    refine .lit [_] [(0, _)] .ro sl123 ty46 rfl rfl rfl rfl rfl rfl (fun b55 hb55 => ?_)
    have o56 : OL (Rep.sl Rep.str) G51 [.slice a44 v43.length k45] ([v43] : List (List ByteArray)) := ((OL.cons rfl (Rep.slI s54) (OL.nil (Rp' := (Rep.sl Rep.str)))) :)
    refine .reval 41 (n' := ([v43] : List (List ByteArray)).length) rfl rfl ?_
    obtain ⟨u57, hu57, r58⟩ := X0 r50
    refine .appO (Q := (Rep.sl Rep.str)) 0 .ro sl123 ty46 rfl rfl rfl rfl rfl rfl (OL.mono e52 o36) o56 rfl rfl rfl B53 hu57 rfl (fun a59 k60 cs61 o62 => ?_)
    refine .go 7 ?_
    exact (hb10 _ _ ⟨m38, G51, v43, a44, k45, u57, a59, k60, cs61, v48, rfl, rfl, (HpLe.trans e33 e52), B53, s54, o62, r58⟩ (Nat.lt_succ_self _)).ar
   ·intro hb65
    refine .block (.own_nil 9 1 ?_)
    refine .lp (fun y m => ∃ (Z0 : Nat) (Z1 : List ByteArray) (Z2 : _) (Z3 : Nat) (Z4 Z5 : _), y = ⟨[(7, .slice Z2 Z1.length Z3), (8, .int .i64 Z5)], [], [], [.s (.slice Z2 Z1.length Z3) 9 1 Z1.length Z4]⟩ ∧ Z0 = m ∧ OL Rep.str G22 Z4 Z1 ∧ X52 (X2z (X1j m38) v28) v25 v32 Z0 Z1 Z5 = some r) [(5, _), (6, _), (1, _)] [_] [_] ⟨big, ([] : List ByteArray), none, 0, [], 0, rfl, rfl, (OL.nil (Rp' := Rep.str)), r41⟩ (fun y m hI hb66 => ?_)
    obtain ⟨n67, v68, a69, k70, cs71, v73, rfl, rfl, o74, r75⟩ := hI
    refine .gn 0 ?_
    obtain ⟨m76, rfl⟩ : ∃ m, n67 = m + 1 := by cases n67 with | zero => exact absurd (show (none : Option _) = some _ from r75) (by simp) | succ m => exact ⟨m, rfl⟩
    have r77 : X6m (X2z (X1j m38) v28) v25 v32 (X52 (X2z (X1j m38) v28) v25 v32 m76) v68 v73 = some r := r75; clear r75; unfold X6m at r77; try dsimp only at r77
    refine .go 8 ?_
    refine .cH r77 (fun c78 r79 => ?_) (fun c78 r80 => ?_)
    ·refine .go 2 ?_
     refine .block (.go 4 ?_)
     obtain ⟨u81, hu81, r82⟩ := X0 r79
     obtain ⟨c83, p84, h85⟩ := SlR.get s35 hu81
     obtain rfl := h85
     refine .q .ro (.idxR s35 rfl rfl hu81 sl46 ty9.sz) rfl (.q .ro (.load_rp p84 mcs rfl ty9 rfl) rfl ?_)
     refine .lit [_] [(0, _)] .ro sl46 ty9 rfl rfl rfl rfl rfl rfl (fun b86 hb86 => ?_)
     have o87 : OL Rep.str G22 [.string u81] ([u81] : List ByteArray) := ((OL.cons rfl (Rep.strI u81) (OL.nil (Rp' := Rep.str))) :)
     refine .reval 37 (n' := ([u81] : List ByteArray).length) rfl rfl ?_
     obtain ⟨u88, hu88, r89⟩ := X0 r82
     refine .appO (Q := Rep.str) 0 .ro sl46 ty9 rfl rfl rfl rfl rfl rfl o74 o87 rfl rfl rfl B34 hu88 rfl (fun a90 k91 cs92 o93 => ?_)
     refine .go 10 ?_
     exact (hb66 _ _ ⟨m76, u88, a90, k91, cs92, (w64 (v73 + v32)), rfl, rfl, o93, r89⟩ (Nat.lt_succ_self _)).ar
    ·refine .exit rfl ?_
     exact (hb65 _ ⟨v68, a69, k70, cs71, v32, rfl, o74, r80⟩).ar
  ·refine .exit rfl ?_
   refine .go 6 ?_
   cases r42
   refine .drop 1 0 [] _ rfl rfl ?_
   refine .rW 0 [.tmp 2, .tmp 3] [_, _] Tryz.func63 Tryz.results63 ⟨RV.tmp rfl, RV.tmp rfl, trivial⟩ B34 hS0 (fun G' hg => ⟨a29, k30, cs31, rfl, rfl, rfl, (OL.mono hg o36)⟩)
theorem Xcu {x0_0 : Int} {x0_1 : List ByteArray} {r : ((List Int) × Int)} (hG : G ∈ Fs) (s0_1 : SlR Rep.str G a0_1 k0_1 x0_1) (h : X7n (x0_0, x0_1) = some r) : RetS Tryz.prog 27 #[.agg #[.int .i64 x0_0, .slice a0_1 x0_1.length k0_1]] Fs [] [] (fun v bo so => ∃ (oa0 : Option Addr) (ok0 : Nat) (oc0 : List Value), v = .tuple #[.slice oa0 r.1.length ok0, .int .i64 r.2] ∧ bo = [] ∧ so = [.s (.slice oa0 r.1.length ok0) 3 1 r.1.length oc0] ∧ OL ri G oc0 r.1) := by
 unfold X7n at h
 try dsimp only at h
 refine RetS.st [(0, _)] Tryz.func27 Tryz.ntmps27 hG fun w0 S0 hS0 B0 => ?_
 refine .go 2 ?_
 refine .box [_, _] .ro rfl rfl rfl (fun b1 hb1 => ?_)
 refine .go 5 ?_
 refine .q .ro (.load_own_a 0 [_, _] rfl rfl ty72 rfl) rfl ?_
 obtain ⟨u2, hu2, r3⟩ := X0 h
 refine .cW [_] Tryz.call63 (Xbu mcs s0_1 hu2) B0 (fun v5 bo so G6 e7 B8 h4 => ?_)
 obtain ⟨a11, k12, cs13, rfl, rfl, rfl, o14⟩ := h4
 refine .gn 12 ?_
 refine .cH r3 (fun c15 r16 => ?_) (fun c15 r18 => ?_)
 ·refine .go 6 ?_
  refine .own_nil 3 1 ?_
  cases r16
  refine .drop 1 0 [] _ rfl rfl (.pullS 1 rfl [_, _] rfl (.drop 0 1 _ [_] rfl rfl ?_))
  refine .rS [.tmp 2, .tmp 3] [_, _] Tryz.func27 Tryz.results27 ⟨none, 0, [], rfl, rfl, rfl, (OL.nil (Rp' := ri))⟩
 ·refine .go 17 ?_
  refine .block (.own_nil 3 1 ?_)
  refine .freezeR 1 rfl rfl o14 [_] rfl B8 (fun G54 e55 B56 s57 => ?_)
  refine .lp (fun y m => ∃ (Z0 : Nat) (Z1 : List Int) (Z2 : _) (Z3 : Nat) (Z4 Z5 Z6 : _), y = ⟨[(6, .slice Z2 Z1.length Z3), (7, .int .i64 Z5), (8, .int .i64 Z6)], [], [], [.s (.slice Z2 Z1.length Z3) 3 1 Z1.length Z4]⟩ ∧ Z0 = m ∧ OL ri G54 Z4 Z1 ∧ X5j u2.1 x0_0 Z0 Z1 Z5 Z6 = some r) [(1, _), (4, _)] [_] [] ⟨big, ([] : List Int), none, 0, [], 0, (w64 ((u2.1.length : Int) - 1)), rfl, rfl, (OL.mono e55 (OL.nil (Rp' := ri))), r18⟩ (fun y m hI hb10 => ?_)
  obtain ⟨n89, v91, a92, k93, cs94, v97, v98, rfl, rfl, o95, r99⟩ := hI
  refine .gn 0 ?_
  obtain ⟨m17, rfl⟩ : ∃ m, n89 = m + 1 := by cases n89 with | zero => exact absurd (show (none : Option _) = some _ from r99) (by simp) | succ m => exact ⟨m, rfl⟩
  have r19 : X87 u2.1 x0_0 (X5j u2.1 x0_0 m17) v91 v97 v98 = some r := r99; clear r99; unfold X87 at r19; try dsimp only at r19
  refine .go 6 ?_
  refine .cH r19 (fun c20 r22 => ?_) (fun c20 r23 => ?_)
  ·refine .go 2 ?_
   refine .block (.go 4 ?_)
   refine .lit [_] [(0, _)] .ro sl48 ty3 rfl rfl rfl rfl rfl rfl (fun b24 hb24 => ?_)
   have o25 : OL ri G54 [.int .i64 v97] ([v97] : List Int) := ((OL.cons rfl (Rep.intI .i64 v97) (OL.nil (Rp' := ri))) :)
   refine .reval 26 (n' := ([v97] : List Int).length) rfl rfl ?_
   obtain ⟨u26, hu26, r28⟩ := X0 r22
   refine .appO (Q := ri) 0 .ro sl48 ty3 rfl rfl rfl rfl rfl rfl o95 o25 rfl rfl rfl B56 hu26 rfl (fun a29 k30 cs31 o32 => ?_)
   refine .go 2 ?_
   refine .drawL (.q 0 (.q 1 (.q 2 (.q 3 (.q 4 (.q 5 (.q 6 (.q 7 (.q 8 (.q 9 (.q 10 (.q 11 (.q 12 (.q 13 (.q 14 .nil))))))))))))))) [_] (by kernel_rfl) (by kernel_rfl) (X1 [0] rfl) (.go 3 ?_)
   obtain ⟨u33, hu33, r34⟩ := X0 r28
   obtain ⟨c36, p37, h38⟩ := SlR.get s57 hu33
   obtain ⟨a39, k40, rfl, s41⟩ := h38
   refine .dq (.idxR s57 rfl rfl hu33 sl123 ty46.sz) rfl (.dq (.load_rp p37 mcs rfl ty46 rfl) rfl (.go 7 ?_))
   obtain ⟨u42, hu42, r43⟩ := X0 r34
   refine .dq (.quow rfl rfl (Xbz hu42)) rfl (.go 9 ?_)
   exact (hb10 _ _ ⟨m17, u26, a29, k30, cs31, (w64 (v97 + (w64 (Int.tdiv (w64 ((w64 ((u33.length : Int) + x0_0)) - 1)) x0_0)))), (w64 (v98 - 1)), rfl, rfl, o32, r43⟩ (Nat.lt_succ_self _)).ar
  ·refine .exit rfl ?_
   refine .go 6 ?_
   cases r23
   refine .drop 1 0 [] _ rfl rfl ?_
   refine .rS [.tmp 2, .tmp 3] [_, _] Tryz.func27 Tryz.results27 ⟨a92, k93, cs94, rfl, rfl, rfl, (OL.flat (Rep.flat_int _) o95)⟩
theorem X7h {Fs : List Hp} {G : Hp} {p1 : Value} {a1 : Option Addr} {k1 : Nat} {x1 : List (List ByteArray)} {l : (List (Int × (List ByteArray)))} (hG : G ∈ Fs) (hp1 : Rp G p1 [.slice a1 x1.length k1]) (s1 : SlR (Rep.sl Rep.str) G a1 k1 x1) (h : X1b x1 = some l) : IterX Tryz.prog 131 [p1] Fs l.length (fun i v => ∃ x, l[i]? = some x ∧ (Yr.pair (Yr.v ri) (Yr.v (Rep.sl Rep.str))).r G v x) := by
 unfold X1b at h
 try dsimp only at h
 intro y 𝒢 ℰ R0 hy hR0
 refine RetG.of (vs := [_, _]) Tryz.func131 rfl Tryz.ntmps131 [(0, _), (1, _)] ⟨rfl, rfl, trivial⟩ rfl fun w0 => Cov.dup hG ?_
 have B0 : Bd w0 (blks [] [.g R0]) Fs G := Bd.fin hG
 generalize hS0 : blks [] [.g R0] = S0 at B0 ⊢
 replace h : _ = some (List.drop 0 l) := h
 refine .go 2 ?_
 refine .q .ro (.load_rp hp1 mcs rfl ty123 rfl) rfl (.go 4 ?_)
 refine .block ?_
 refine .lp (fun y m => ∃ (Z0 : Nat) (Z1 : Guest) (Z2 : Nat) (Z3 : _), y = ⟨[(3, .int .i64 Z3)], [], [], [.g Z1]⟩ ∧ Z0 = m ∧ 𝒢 Z2 Z1 ∧ Z2 ≤ l.length ∧ Xe x1 Z0 Z3 = some (List.drop Z2 l)) [(0, _), (1, _)] [] [] ⟨big, R0, 0, (w64 ((x1.length : Int) - 1)), rfl, rfl, hR0, (Nat.zero_le _), h⟩ (fun y m hI hb28 => ?_)
 obtain ⟨n20, R22, i23, v26, rfl, rfl, hR24, le25, r27⟩ := hI
 refine .gn 0 ?_
 obtain ⟨m31, rfl⟩ : ∃ m, n20 = m + 1 := by cases n20 with | zero => exact absurd (show (none : Option _) = some _ from r27) (by simp) | succ m => exact ⟨m, rfl⟩
 have r30 : Xk x1 (Xe x1 m31) v26 = some (List.drop i23 l) := r27; clear r27; unfold Xk at r30; try dsimp only at r30
 refine .go 6 ?_
 refine .cH r30 (fun c32 r33 => ?_) (fun c32 r48 => ?_)
 ·refine .go 2 ?_
  refine .block (.go 4 ?_)
  refine .q .ro (.load_rp hp1 mcs rfl ty123 rfl) rfl (.go 1 ?_)
  obtain ⟨u34, hu34, r35⟩ := X0 r33
  obtain ⟨c36, p37, h38⟩ := SlR.get s1 hu34
  obtain ⟨a39, k40, rfl, s41⟩ := h38
  refine .q .ro (.idxR s1 rfl rfl hu34 sl123 ty46.sz) rfl (.q .ro (.load_rp p37 mcs rfl ty46 rfl) rfl ?_)
  obtain ⟨h42, r43⟩ := Xj6 r35; clear r35
  refine .yieldX hy ⟨_, h42, ⟨[_], _, rfl, ⟨_, rfl, ((Rep.intI .i64 v26) :)⟩, ⟨_, rfl, ((Rep.slI s41) :)⟩⟩⟩ hR24 mcm rfl rfl rfl (fun R44 hR45 => ?_) (fun R46 hE47 => ?_)
  ·refine .q .ro (.not_t rfl) rfl ?_
   refine .go 1 ?_
   refine .cond_false rfl (.go 7 ?_)
   exact (hb28 _ _ ⟨m31, R44, (i23 + 1), (w64 (v26 - 1)), rfl, rfl, hR45, (Xnh h42), r43⟩ (Nat.lt_succ_self _)).ar
  ·refine .q .ro (.not_f rfl) rfl ?_
   refine .go 1 ?_
   refine .cond_true rfl ?_
   refine .leave (.inr ⟨_, rfl⟩) [] [] rfl Tryz.func131 Tryz.results131 trivial mcm (.inl rfl) (X9g _) ⟨rfl, R46, .inr hE47, rfl⟩
 ·refine .exit rfl ?_
  have hi := Xlv r48 le25
  refine .leave (.inl rfl) [] [] rfl Tryz.func131 Tryz.results131 trivial mcm (.inl rfl) (X9g _) ⟨rfl, R22, .inl (hi ▸ hR24), rfl⟩
theorem X8a {x0 : List (List ByteArray)} {r : (List (Int × (List ByteArray)))} (hG : G ∈ Fs) (s0 : SlR (Rep.sl Rep.str) G a0 k0 x0) (h : X13 x0 = some r) : RetW Tryz.prog 104 #[.slice a0 x0.length k0] Fs [] [] (fun v bo so G => ∃ (Fi0 : FuncId) (ci0 : List Value), v = .func (.func Fi0) #[] ci0.toArray ∧ bo = [] ∧ so = [] ∧ (∀ args w, (callFunc Fi0 args).run Tryz.prog w = .ok (.enter Fi0 args) w) ∧ IterRX Tryz.prog (Yr.pair (Yr.v ri) (Yr.v (Rep.sl Rep.str))) Fi0 ci0 G r) := by
 unfold X13 at h
 try dsimp only at h
 refine RetW.st [(0, _)] Tryz.func104 Tryz.ntmps104 hG fun w0 S0 hS0 B0 => ?_
 refine .go 2 ?_
 refine .box [_] .ro rfl rfl rfl (fun b1 hb1 => ?_)
 refine .go 4 ?_
 refine .q .ro (.makeFunc (vf := []) (vc := [_]) rfl rfl) rfl (.go 2 ?_)
 refine .freezeBR 0 rfl [] rfl B0 (fun G2 e3 B4 p5 => ?_)
 obtain ⟨u7, hu7, r8⟩ := X0 h
 cases r8
 refine .rW 0 [.tmp 2] [_] Tryz.func104 Tryz.results104 ⟨RV.tmp rfl, trivial⟩ B4 hS0 (fun G' hg => ⟨_, _, rfl, rfl, rfl, Tryz.call131, (fun Fs' G1 hle hm => X7h (G := G1) hm (Rp.mono (HpLe.trans hg hle) p5) (SlR.mono (HpLe.trans hg hle) (SlR.mono e3 s0)) hu7)⟩)
theorem Xfl {x0 : Int} {F1 : FuncId} {c1 : List Value} {x1 : Int → Option Bool} {r : Int} (hG : G ∈ Fs) (hc1 : ∀ args w, (callFunc F1 args).run Tryz.prog w = .ok (.enter F1 args) w) (hf1 : ∀ (Fs' : List Hp) (G1 : Hp), HpLe G G1 → G1 ∈ Fs' → ∀ (y0 : Int) (r : Bool), x1 y0 = some r → RetS Tryz.prog F1 (([.int .i64 y0] : List Value) ++ c1).toArray Fs' [] [] (fun v bo so => v = .bool r ∧ bo = [] ∧ so = [])) (h : Xas x0 x1 = some r) : RetS Tryz.prog 146 #[.int .i64 x0, .func (.func F1) #[] c1.toArray] Fs [] [] (rv (.int .i64 r)) := by
 unfold Xas at h
 try dsimp only at h
 refine RetS.st [(0, _), (1, _)] Tryz.func146 Tryz.ntmps146 hG fun w0 S0 hS0 B0 => ?_
 refine .go 11 ?_
 refine .block ?_
 refine .lp (fun y m => ∃ (Z0 : Nat) (Z1 Z2 : _), y = ⟨[(5, .int .i64 Z1), (6, .int .i64 Z2)], [], [], []⟩ ∧ Z0 = m ∧ X5y x1 Z0 Z1 Z2 = some r) [(1, _)] [] [] ⟨big, 0, x0, rfl, rfl, h⟩ (fun y m hI hb19 => ?_)
 obtain ⟨n14, v16, v17, rfl, rfl, r18⟩ := hI
 refine .gn 0 ?_
 obtain ⟨m22, rfl⟩ : ∃ m, n14 = m + 1 := by cases n14 with | zero => exact absurd (show (none : Option _) = some _ from r18) (by simp) | succ m => exact ⟨m, rfl⟩
 have r21 : X7d x1 (X5y x1 m22) v16 v17 = some r := r18; clear r18; unfold X7d at r21; try dsimp only at r21
 refine .go 7 ?_
 refine .cH r21 (fun c23 r24 => ?_) (fun c23 r32 => ?_)
 ·refine .go 1 ?_
  refine .block (.go 5 ?_)
  refine .q .ro (.convw Tryz.underlying3 Tryz.underlying157 rfl) rfl (.q .ro (.shr1 rfl rfl (by decide)) rfl (.q .ro (.convw Tryz.underlying157 Tryz.underlying3 rfl) rfl (.go 6 ?_)))
  obtain ⟨u25, hu25, r26⟩ := X0 r24
  refine .callS (b1 := []) (b2 := []) (s1 := []) [_] c1 .ro rfl rfl hc1 rfl rfl (hf1 _ G (HpLe.refl _) mcs _ _  hu25) rfl (fun v28 bo so h27 => ?_)
  obtain ⟨rfl, rfl, rfl⟩ := h27
  refine .gn 2 ?_
  refine .cB r26 (fun c29 r30 => ?_) (fun c29 r31 => ?_)
  ·refine .go 6 ?_
   exact (hb19 _ _ ⟨m22, (w64 ((w64 ((IntKind.u64.wrap (w64 (v16 + v17))) / 2)) + 1)), v17, rfl, rfl, r30⟩ (Nat.lt_succ_self _)).ar
  ·refine .go 5 ?_
   exact (hb19 _ _ ⟨m22, v16, (w64 ((IntKind.u64.wrap (w64 (v16 + v17))) / 2)), rfl, rfl, r31⟩ (Nat.lt_succ_self _)).ar
 ·refine .exit rfl ?_
  refine .go 5 ?_
  cases r32
  refine .rS [.tmp 4] [_] Tryz.func146 Tryz.results146 ⟨rfl, rfl, rfl⟩
theorem Xcl {x0 : Int} {x1 : List ByteArray} {x2 : ByteArray} {r : Bool} (hG : G ∈ Fs) (hp1 : Rp G p1 [.slice a1 x1.length k1]) (s1 : SlR Rep.str G a1 k1 x1) (hp2 : Rp G p2 [.string x2]) (h : X53 x0 x1 x2 = some r) : RetS Tryz.prog 147 #[.int .i64 x0, p1, p2] Fs [] [] (rv (.bool r)) := by
 unfold X53 at h
 try dsimp only at h
 refine RetS.st [(0, _), (1, _), (2, _)] Tryz.func147 Tryz.ntmps147 hG fun w0 S0 hS0 B0 => ?_
 refine .go 5 ?_
 refine .drawL (.q 0 (.q 1 (.q 2 (.q 3 (.q 4 (.q 5 (.q 6 .nil))))))) [] (by kernel_rfl) (by kernel_rfl) (X1 [] rfl) (.dq (.load_rp hp1 mcs rfl ty46 rfl) rfl (.go 1 ?_))
 obtain ⟨u1, hu1, r2⟩ := X0 h
 obtain ⟨c3, p4, h5⟩ := SlR.get s1 hu1
 obtain rfl := h5
 refine .dq (.idxR s1 rfl rfl hu1 sl46 ty9.sz) rfl (.dq (.load_rp p4 mcs rfl ty9 rfl) rfl (.dq (.load_rp hp2 mcs rfl ty9 rfl) rfl (.dq (.gtr_d rfl rfl) rfl (.go 2 ?_))))
 cases r2
 refine .rS [.tmp 4] [_] Tryz.func147 Tryz.results147 ⟨rfl, rfl, rfl⟩
theorem Xed {x0 : List ByteArray} {x1 : ByteArray} {r : Int} (hG : G ∈ Fs) (s0 : SlR Rep.str G a0 k0 x0) (h : X91 x0 x1 = some r) : RetS Tryz.prog 132 #[.slice a0 x0.length k0, .string x1] Fs [] [] (rv (.int .i64 r)) := by
 unfold X91 at h
 try dsimp only at h
 refine RetS.st [(0, _), (1, _)] Tryz.func132 Tryz.ntmps132 hG fun w0 S0 hS0 B0 => ?_
 refine .go 2 ?_
 refine .box [_] .ro rfl rfl rfl (fun b1 hb1 => ?_)
 refine .box [_] .ro rfl rfl rfl (fun b2 hb2 => ?_)
 refine .go 6 ?_
 refine .q .ro (.makeFunc (vf := []) (vc := [_, _]) rfl rfl) rfl ?_
 refine .freezeBR 1 rfl [_] rfl B0 (fun G3 e4 B5 p6 => ?_)
 refine .freezeBR 0 rfl [] rfl B5 (fun G8 e9 B10 p11 => ?_)
 obtain ⟨u13, hu13, r14⟩ := X0 h
 refine .cV [_, _] Tryz.call146 (Xfl mcs Tryz.call147 (fun Fs' G1 hle hm y0 r  hr => Xcl (G := G1) hm  (Rp.mono hle (Rp.mono e9 p6)) (SlR.mono hle (SlR.mono (HpLe.trans e4 e9) s0)) (Rp.mono hle p11) hr) hu13) ?_
 refine .go 2 ?_
 cases r14
 refine .rS [.tmp 4] [_] Tryz.func132 Tryz.results132 ⟨rfl, rfl, rfl⟩
theorem Xgq {x0 : List ByteArray} {x1 : ByteArray} {r : Int} (hG : G ∈ Fs) (s0 : SlR Rep.str G a0 k0 x0) (h : Xah x0 x1 = some r) : RetS Tryz.prog 105 #[.slice a0 x0.length k0, .string x1] Fs [] [] (rv (.int .i64 r)) := by
 unfold Xah at h
 try dsimp only at h
 refine RetS.st [(0, _), (1, _)] Tryz.func105 Tryz.ntmps105 hG fun w0 S0 hS0 B0 => ?_
 refine .go 8 ?_
 obtain ⟨u1, hu1, r2⟩ := X0 h
 refine .cV [_, _] Tryz.call132 (Xed mcs s0 hu1) ?_
 refine .go 1 ?_
 refine .q .ro (.max2 rfl rfl) rfl (.go 2 ?_)
 cases r2
 refine .rS [.tmp 4] [_] Tryz.func105 Tryz.results105 ⟨rfl, rfl, rfl⟩
theorem Xdr {x0 : List ByteArray} {x1 : Int} {x2 : Int} {r : (List ByteArray)} (hG : G ∈ Fs) (s0 : SlR Rep.str G a0 k0 x0) (h : X96 x0 x1 x2 = some r) : RetS Tryz.prog 106 #[.slice a0 x0.length k0, .int .i64 x1, .int .i64 x2] Fs [] [] (fun v bo so => ∃ a0 : Option Addr, ∃ k0 : Nat, v = .slice a0 r.length k0 ∧ bo = [] ∧ so = [] ∧ SlR Rep.str G a0 k0 r) := by
 unfold X96 at h
 try dsimp only at h
 refine RetS.st [(0, _), (1, _), (2, _)] Tryz.func106 Tryz.ntmps106 hG fun w0 S0 hS0 B0 => ?_
 refine .go 16 ?_
 refine .q .ro (.min2 rfl rfl) rfl ?_
 obtain ⟨u1, hu1, r2⟩ := X0 h
 obtain ⟨a3, k4, h5, s6⟩ := SlR.sub s0 hu1
 refine .q .ro (.sliceR s0 rfl hu1 sl46 ty9.sz (fun h => .yes' rfl h) (fun h => .yes' rfl h) h5) rfl (.go 2 ?_)
 cases r2
 refine .rS [.tmp 6] [_] Tryz.func106 Tryz.results106 ⟨a3, k4, rfl, rfl, rfl, s6⟩
theorem Xfm {x0_0 : Int} {x0_1 : List ByteArray} {x1 : ByteArray} {r : ((List Int) × Int × Bool × Int)} (hG : G ∈ Fs) (s0_1 : SlR Rep.str G a0_1 k0_1 x0_1) (h : X9u (x0_0, x0_1) x1 = some r) : RetS Tryz.prog 64 #[.agg #[.int .i64 x0_0, .slice a0_1 x0_1.length k0_1], .string x1] Fs [] [] (fun v bo so => ∃ (oa0 : Option Addr) (ok0 : Nat) (oc0 : List Value), v = .tuple #[.slice oa0 r.1.length ok0, .int .i64 r.2.1, .bool r.2.2.1, .int .i64 r.2.2.2] ∧ bo = [] ∧ so = [.s (.slice oa0 r.1.length ok0) 3 1 r.1.length oc0] ∧ OL ri G oc0 r.1) := by
 unfold X9u at h
 try dsimp only at h
 refine RetS.st [(0, _), (1, _)] Tryz.func64 Tryz.ntmps64 hG fun w0 S0 hS0 B0 => ?_
 refine .marks0 (.go 2 ?_)
 refine .box [_, _] .ro rfl rfl rfl (fun b1 hb1 => ?_)
 refine .box [_] .ro rfl rfl rfl (fun b2 hb2 => ?_)
 refine .go 8 ?_
 refine .q .ro (.load_own_a 1 [_, _] rfl rfl ty72 rfl) rfl ?_
 obtain ⟨u3, hu3, r4⟩ := X0 h
 refine .cV [_] Tryz.call100 (Xce mcs s0_1 hu3) ?_
 refine .go 7 ?_
 refine .cH r4 (fun c7 r8 => ?_) (fun c7 r10 => ?_)
 ·refine .go 8 ?_
  refine .own_nil 3 1 ?_
  cases r8
  refine .drop 2 0 [] _ rfl rfl (.pullS 1 rfl [_, _] rfl ?_)
  refine .out (.inr ⟨_, rfl⟩) rfl (Cov.unmarkAll _ _ ?_)
  refine .outS [.tmp 4, .tmp 5, .tmp 6, .tmp 7] [_, _, _, _] Tryz.func64 Tryz.results64 ⟨RV.tmp rfl, RV.tmp rfl, RV.tmp rfl, RV.tmp rfl, trivial⟩ mcm ⟨none, 0, [], rfl, rfl, rfl, (OL.nil (Rp' := ri))⟩
 ·refine .go 5 ?_
  obtain ⟨u11, hu11, r12⟩ := X0 r10
  refine .cV [_] Tryz.call103 (Xbr mcs  hu11) ?_
  refine .go 2 ?_
  refine .cB r12 (fun c15 r16 => ?_) (fun c15 r18 => ?_)
  ·refine .go 7 ?_
   refine .own_nil 3 1 ?_
   cases r16
   refine .drop 2 0 [] _ rfl rfl (.pullS 1 rfl [_, _] rfl ?_)
   refine .out (.inr ⟨_, rfl⟩) rfl (Cov.unmarkAll _ _ ?_)
   refine .outS [.tmp 4, .tmp 5, .tmp 6, .tmp 7] [_, _, _, _] Tryz.func64 Tryz.results64 ⟨RV.tmp rfl, RV.tmp rfl, RV.tmp rfl, RV.tmp rfl, trivial⟩ mcm ⟨none, 0, [], rfl, rfl, rfl, (OL.nil (Rp' := ri))⟩
  ·refine .go 3 ?_
   refine .alloc .ro ty3 rfl (fun b19 hb19 => ?_)
   refine .store 0 [_] [_, _, _] .ro rfl rfl rfl ty3 rfl rfl rfl rfl (.go 3 ?_)
   refine .alloc .ro ty48 rfl (fun b20 hb20 => ?_)
   refine .go 4 ?_
   refine .q .ro (.load_own_a 3 [_, _] rfl rfl ty72 rfl) rfl ?_
   obtain ⟨u21, hu21, r22⟩ := X0 r18
   refine .cW [_] Tryz.call101 (Xbs mcs s0_1 hu21) B0 (fun v24 bo so G25 e26 B27 h23 => ?_)
   obtain ⟨a30, k31, cs32, rfl, rfl, rfl, o33⟩ := h23
   refine .gn 0 ?_
   refine .freezeR 0 rfl rfl o33 [_] rfl B27 (fun G34 e35 B36 s37 => ?_)
   obtain ⟨u39, hu39, r40⟩ := X0 r22
   refine .cW [_] Tryz.call104 (X8a mcs s37 hu39) B36 (fun v42 bo so G43 e44 B45 h41 => ?_)
   obtain ⟨F47, c48, rfl, rfl, rfl, hc49, hi50⟩ := h41
   refine .gn 1 ?_
   refine .cutBD (β := MK × List Int × Option Addr × Nat × List Value × Int) (fun y => mks y.1.1) (fun y => []) [(2, _), (3, _), (9, _), (10, _)] (fun y => G43 :: Fs) (fun y => [(b20, .cells #[.slice y.2.2.1 y.2.1.length y.2.2.2.1] 48 (0, 0)), (b19, .cells #[.int .i64 y.2.2.2.2.2] 3 (0, 0))]) [_, _] (fun y => [.g (marksG y.1), .s (.slice y.2.2.1 y.2.1.length y.2.2.2.1) 3 1 y.2.1.length y.2.2.2.2.1]) [] (fun y => OL ri G43 y.2.2.2.2.1 y.2.1 ∧ (X3p x1 x0_1) y.2.1 y.2.2.2.2.2 = some r) ⟨rfl, rfl, rfl, rfl, trivial⟩ [2, 3] rfl [] rfl ?_ ?_
   ·intro y hI
    obtain ⟨mk13, v14, a17, k28, cs29, v38⟩ := y
    obtain ⟨o51, r52⟩ := hI
    try dsimp only at o51 r52
    refine .gn 0 ?_
    unfold X3p at r52
    try dsimp only at r52
    refine .go 1 ?_
    refine .drawL (.q 0 (.q 1 (.q 2 (.q 3 (.q 4 (.q 5 (.q 6 (.q 7 (.q 8 (.q 9 (.q 10 (.q 11 (.q 12 .nil))))))))))))) [_, _, _, _] (by kernel_rfl) (by kernel_rfl) (X1 [0, 1, 2, 3] rfl) (.go 5 ?_)
    obtain ⟨u53, hu53, r54⟩ := X0 r52
    obtain ⟨c55, p56, h57⟩ := SlR.get (SlR.mono (HpLe.trans (HpLe.trans e26 e35) e44) s0_1) hu53
    obtain rfl := h57
    refine .dq (.idxR (SlR.mono (HpLe.trans (HpLe.trans e26 e35) e44) s0_1) rfl rfl hu53 sl46 ty9.sz) rfl (.dq (.load_rp p56 mcs rfl ty9 rfl) rfl (.go 1 ?_))
    refine .dq (.eql_s rfl rfl) rfl (.go 5 ?_)
    cases r54
    refine .drop 4 0 [] _ rfl rfl ?_
    refine .out (.inr ⟨_, rfl⟩) rfl (Cov.unmarkAll _ _ ?_)
    refine .outS [.tmp 4, .tmp 5, .tmp 6, .tmp 7] [_, _, _, _] Tryz.func64 Tryz.results64 ⟨RV.tmp rfl, RV.tmp rfl, RV.tmp rfl, RV.tmp rfl, trivial⟩ mcm ⟨a17, k28, cs29, rfl, rfl, rfl, (OL.flat (Rep.flat_int _) o51)⟩
   ·intro hb58
    refine .block (.own_nil 3 1 (.pull 3 rfl [_, _, _, _] rfl (.pull 3 rfl [_, _, _, _] rfl (.pull 3 rfl [_, _, _, _] rfl (.pull 3 rfl [_, _, _, _] rfl ?_)))))
    refine .rangeX (α := List Int × Option Addr × Nat × List Value × Int) (β := Unit) (fun y => []) (fun y => [(b20, .cells #[.slice y.2.1 y.1.length y.2.2.1] 48 (0, 0)), (b19, .cells #[.int .i64 y.2.2.2.2] 3 (0, 0)), (b2, .cells #[.string x1] 9 (0, 0)), (b1, .cells #[.int .i64 x0_0, .slice a0_1 x0_1.length k0_1] 72 (0, 0))]) (fun y => [.s (.slice y.2.1 y.1.length y.2.2.1) 3 1 y.1.length y.2.2.2.1]) (fun _ => []) (fun _ => []) (fun _ => []) (fun _ => .skip) (fun i y => OL ri G43 y.2.2.2.1 y.1 ∧ X3q (X3p x1 x0_1) x0_0 x1 (List.drop i u39) y.1 y.2.2.2.2 = some r) (fun _ => False) (([] : List Int), none, 0, [], 0)  c48 rfl rfl hc49 rfl (by simp) rfl rfl (hi50 _ G43 (HpLe.refl _) mcs) (fun _ _ hv => by obtain ⟨_, _, hv⟩ := hv; exact (Yr.len _ hv).trans rfl) (by kernel_rfl) ⟨(OL.nil (Rp' := ri)), r40⟩ ?_ ?_ (fun _ _ h => h.elim)
    ·intro l59 tm60 D61 i62 y v63 hV65 hI w66 S67 hw68
     obtain ⟨v69, a70, k71, cs73, v74⟩ := y
     obtain ⟨o75, r76⟩ := hI
     try dsimp only at o75 r76
     obtain ⟨x77, h78, h79⟩ := hV65
     refine .dup (G := G43) mcs ?_
     obtain ⟨_, _, rfl, h80, h81⟩ := h79
     obtain ⟨v82, rfl, h83⟩ := h80
     obtain ⟨rfl, _⟩ := List.cons.inj h83
     obtain ⟨v84, rfl, h85⟩ := h81
     obtain ⟨a86, k87, h88, s89⟩ := h85
     obtain ⟨rfl, _⟩ := List.cons.inj h88
     rw [Xg8 h78] at r76
     have r90 : X7e (X3p x1 x0_1) x0_0 x1 (X3q (X3p x1 x0_1) x0_0 x1 (List.drop (i62 + 1) u39)) x77 v69 v74 = some r := r76; clear r76; unfold X7e at r90; try dsimp only at r90
     refine .gn 3 ?_
     refine .beginRound 4 rfl rfl [_, _, _, _, _] rfl (.block (.go 4 ?_))
     refine .lit [_] [(0, _)] .ro sl48 ty3 rfl rfl rfl rfl rfl rfl (fun b91 hb91 => ?_)
     have o92 : OL ri G43 [.int .i64 v74] ([v74] : List Int) := ((OL.cons rfl (Rep.intI .i64 v74) (OL.nil (Rp' := ri))) :)
     refine .reval 28 (n' := ([v74] : List Int).length) rfl rfl ?_
     obtain ⟨u93, hu93, r94⟩ := X0 r90
     refine .appO (Q := ri) 0 .ro sl48 ty3 rfl rfl rfl rfl rfl rfl o75 o92 rfl rfl rfl (Bd.fin mcs) hu93 rfl (fun a95 k96 cs97 o98 => ?_)
     refine .store 0 [_] [_, _, _, _, _] .ro rfl rfl rfl ty48 rfl rfl rfl rfl (.go 1 ?_)
     refine .drawL (.q 0 (.q 1 (.q 2 (.q 3 (.q 4 (.q 5 (.q 6 (.q 7 (.q 9 (.e 8 1 (.e 10 1 (.q 11 (.e 12 2 .nil))))))))))))) [_, _, _, _, _] (by kernel_rfl) (by kernel_rfl) (X1 [0, 1, 2, 3, 4] rfl) (.go 9 ?_)
     obtain ⟨u99, hu99, r102⟩ := X0 r94
     refine .cSd [_, _, _] Tryz.call106 (Xdr mcs s89 hu99) (fun v107 bo so h108 => ?_)
     obtain ⟨a109, k110, rfl, rfl, rfl, s111⟩ := h108
     refine .gn 0 ?_
     refine .clsL (HpLe.refl _) (X1 [0, 1, 2, 3, 4] rfl) ?_
     obtain ⟨u112, hu112, r113⟩ := X0 r102
     refine .cVd [_, _] Tryz.call105 (Xgq mcs s111 hu112) ?_
     refine .clsL (HpLe.refl _) (X1 [0, 1, 2, 3, 4] rfl) (.go 1 ?_)
     refine .store 1 [_] [_, _, _, _, _] .d2 rfl rfl rfl ty3 rfl rfl rfl rfl (.go 1 ?_)
     refine .prune [] trivial (.go 1 ?_)
     refine .round_endX (u93, a95, k96, cs97, (w64 ((w64 (v74 * x0_0)) + u112))) 4 rfl rfl ⟨o98, r113⟩ rfl rfl (fun F hF => List.mem_cons_of_mem _ hF) (by simp)
    ·intro q114 y hI hb115
     obtain ⟨v69, a70, k71, cs73, v74⟩ := y
     obtain ⟨o75, r76⟩ := hI
     try dsimp only at o75 r76
     refine .gn 0 ?_
     refine .pullS 1 rfl [_, _] rfl ?_
     refine .mkmerge 4 rfl [_, _, _, _] rfl (fun mk116 => ?_)
     rw [List.drop_length] at r76; rw [X3q] at r76; try dsimp only at r76
     refine .go 1 ?_
     exact .arr (hb58 (mk116, v69, a70, k71, cs73, v74) ⟨o75, r76⟩) ⟨rfl, rfl, rfl, rfl, trivial⟩
theorem Xfn {x0_0 : Int} {x0_1 : List ByteArray} {x1 : ByteArray} {r : ((List Int) × Int × Bool × Int)} (hG : G ∈ Fs) (s0_1 : SlR Rep.str G a0_1 k0_1 x0_1) (h : X6o (x0_0, x0_1) x1 = some r) : RetS Tryz.prog 28 #[.agg #[.int .i64 x0_0, .slice a0_1 x0_1.length k0_1], .string x1] Fs [] [] (fun v bo so => ∃ (oa0 : Option Addr) (ok0 : Nat) (oc0 : List Value), v = .tuple #[.slice oa0 r.1.length ok0, .int .i64 r.2.1, .bool r.2.2.1, .int .i64 r.2.2.2] ∧ bo = [] ∧ so = [.s (.slice oa0 r.1.length ok0) 3 1 r.1.length oc0] ∧ OL ri G oc0 r.1) := by
 unfold X6o at h
 try dsimp only at h
 refine RetS.st [(0, _), (1, _)] Tryz.func28 Tryz.ntmps28 hG fun w0 S0 hS0 B0 => ?_
 refine .go 2 ?_
 refine .box [_, _] .ro rfl rfl rfl (fun b1 hb1 => ?_)
 refine .go 7 ?_
 refine .q .ro (.load_own_a 0 [_, _] rfl rfl ty72 rfl) rfl (.go 1 ?_)
 obtain ⟨u2, hu2, r3⟩ := X0 h
 refine .cS [_, _] Tryz.call64 (Xfm mcs s0_1 hu2) (fun v5 bo so h4 => ?_)
 obtain ⟨a7, k8, cs9, rfl, rfl, rfl, o10⟩ := h4
 refine .gn 16 ?_
 refine .cH r3 (fun c11 r12 => ?_) (fun c11 r14 => ?_)
 ·refine .go 8 ?_
  refine .own_nil 3 1 ?_
  cases r12
  refine .drop 1 0 [] _ rfl rfl (.pullS 1 rfl [_, _] rfl (.drop 0 1 _ [_] rfl rfl ?_))
  refine .rS [.tmp 4, .tmp 5, .tmp 6, .tmp 7] [_, _, _, _] Tryz.func28 Tryz.results28 ⟨none, 0, [], rfl, rfl, rfl, (OL.nil (Rp' := ri))⟩
 ·refine .go 3 ?_
  refine .q .ro (.load_own_a 0 [_, _] rfl rfl ty72 rfl) rfl ?_
  obtain ⟨u15, hu15, r16⟩ := X0 r14
  refine .cS [_] Tryz.call26 (Xaw mcs s0_1 hu15) (fun v18 bo so h17 => ?_)
  obtain ⟨a20, k21, cs22, rfl, rfl, rfl, o23⟩ := h17
  refine .gn 12 ?_
  refine .cH r16 (fun c24 r25 => ?_) (fun c24 r27 => ?_)
  ·refine .go 8 ?_
   refine .own_nil 3 1 ?_
   cases r25
   refine .drop 1 0 [] _ rfl rfl (.pullS 2 rfl [_, _, _] rfl (.pullS 2 rfl [_, _, _] rfl (.drop 0 2 _ [_] rfl rfl ?_)))
   refine .rS [.tmp 4, .tmp 5, .tmp 6, .tmp 7] [_, _, _, _] Tryz.func28 Tryz.results28 ⟨none, 0, [], rfl, rfl, rfl, (OL.nil (Rp' := ri))⟩
  ·refine .go 4 ?_
   refine .freezeR 1 rfl rfl o10 [_] rfl B0 (fun G28 e29 B30 s31 => ?_)
   obtain ⟨u33, hu33, r34⟩ := X0 r27
   refine .cS [_] Tryz.call65 (X8b mcs s31 hu33) (fun v36 bo so h35 => ?_)
   obtain ⟨a38, k39, cs40, rfl, rfl, rfl, o41⟩ := h35
   refine .gn 9 ?_
   refine .block ?_
   refine .freezeR 1 rfl rfl (OL.mono e29 o23) [_] rfl B30 (fun G72 e73 B74 s75 => ?_)
   refine .lp (fun y m => ∃ (Z0 : Nat) (Z1 Z2 : List Int) (Z3 : _) (Z4 : Nat) (Z5 : _), y = ⟨[(13, .slice Z3 Z2.length Z4), (38, .int .i64 (Z0 : Int))], [], [], [.s (.slice Z3 Z2.length Z4) 3 1 Z2.length Z5]⟩ ∧ Z1.length = m ∧ OL ri G72 Z5 Z2 ∧ List.drop Z0 u33 = Z1 ∧ X4p u2.2.1 u2.2.2.1 u15.1 Z1 Z0 Z2 = some r) [(9, _), (10, _), (12, _), (37, _)] [_] [] ⟨0, u33, u33, a38, k39, cs40, rfl, rfl, (OL.mono e73 o41), rfl, r34⟩ (fun y m hI hb13 => ?_)
   obtain ⟨i19, w32, v37, a42, k43, cs44, rfl, rfl, o45, g46, r47⟩ := hI
   refine .gn 0 ?_
   cases w32 with
   | nil =>
    rw [X4p] at r47; try dsimp only at r47
    refine .go 5 ?_
    refine .cond_dec rfl (fun c => absurd c (X8 g46)) (fun _ => ?_)
    refine .exit rfl (.go 10 ?_)
    cases r47
    refine .drop 1 0 [] _ rfl rfl ?_
    refine .rS [.tmp 4, .tmp 5, .tmp 6, .tmp 7] [_, _, _, _] Tryz.func28 Tryz.results28 ⟨a42, k43, cs44, rfl, rfl, rfl, (OL.flat (Rep.flat_int _) o45)⟩
   | cons x49 xs50 =>
    have r51 : X7f u2.2.1 u2.2.2.1 u15.1 (X4p u2.2.1 u2.2.2.1 u15.1 xs50 (i19 + 1)) x49 i19 v37 = some r := r47; clear r47; unfold X7f at r51; try dsimp only at r51
    refine .go 5 ?_
    refine .cond_dec rfl (fun _ => ?_) (fun c => absurd (Xf g46) c)
    refine .go 2 ?_
    refine .block (.go 5 ?_)
    refine .drawL (.q 0 (.q 1 (.q 4 (.q 5 (.q 6 (.q 7 (.e 2 1 (.e 3 1 (.q 8 (.e 9 2 (.e 10 2 .nil))))))))))) [_] (by kernel_rfl) (by kernel_rfl) (X1 [0] rfl) (.go 4 ?_)
    obtain ⟨u52, hu52, r53⟩ := X0 r51
    obtain ⟨c54, p55, h56⟩ := SlR.get s75 hu52
    obtain rfl := h56
    refine .dq (.idxR s75 rfl rfl hu52 sl48 ty3.sz) rfl (.dq (.load_rp p55 mcs rfl ty3 rfl) rfl ?_)
    obtain ⟨u57, hu57, r58⟩ := X0 r53
    obtain ⟨c59, p60, h61⟩ := OL.get o45 hu57
    obtain rfl := h61
    refine .q .d1 (.idxO 0 rfl rfl rfl hu57 sl48 ty3.sz) rfl (.clsL (HpLe.refl _) (X1 [0] rfl) (.q .d1 (.loadO 0 0 rfl hu57 p60 rfl (.inl ⟨rfl, rfl⟩) ty3 rfl) rfl (.clsL (HpLe.refl _) (X1 [0] rfl) (.go 1 ?_))))
    obtain ⟨u62, hu62, r63⟩ := X0 r58
    obtain ⟨c66, p67, h68⟩ := OL.get o45 hu62
    obtain rfl := h68
    refine .q .d2 (.idxO 0 rfl rfl rfl hu62 sl48 ty3.sz) rfl ?_
    obtain ⟨u69, hu69, r70⟩ := X0 r63
    refine .storeR 0 0 (Q := ri) .d2 rfl rfl o45 hu69 rfl (.inl ⟨rfl, rfl⟩) rfl ty3 p67 ((Rep.intI .i64 (w64 (u57 + u52))) :) rfl rfl (fun cs71 hlcs71 o76 => ?_)
    refine .reval 13 hlcs71 rfl (.reval 41 hlcs71 rfl (.go 6 ?_))
    exact (hb13 _ _ ⟨(i19 + 1), xs50, u69, a42, k43, cs71, rfl, rfl, o76, (X3 g46), r70⟩ (Nat.lt_succ_self _)).ax ⟨rfl, (congrArg (fun z => some (Value.int .i64 z)) (X7 (OL.len' o41) g46)), rfl, rfl, rfl, rfl, trivial⟩
theorem Xgr {x0 : List ByteArray} {x1 : ByteArray} {r : Int} (hG : G ∈ Fs) (s0 : SlR Rep.str G a0 k0 x0) (h : Xbo x0 x1 = some r) : RetS Tryz.prog 107 #[.slice a0 x0.length k0, .string x1] Fs [] [] (rv (.int .i64 r)) := by
 unfold Xbo at h
 try dsimp only at h
 refine RetS.st [(0, _), (1, _)] Tryz.func107 Tryz.ntmps107 hG fun w0 S0 hS0 B0 => ?_
 refine .go 15 ?_
 refine .block ?_
 refine .lp (fun y m => ∃ (Z0 : Nat) (Z1 : List ByteArray) (Z2 : _), y = ⟨[(5, .int .i64 Z2), (10, .int .i64 (Z0 : Int))], [], [], []⟩ ∧ Z1.length = m ∧ List.drop Z0 x0 = Z1 ∧ X5k x1 Z1 Z0 Z2 = some r) [(1, _), (8, _), (9, _)] [] [] ⟨0, x0, 0, rfl, rfl, rfl, h⟩ (fun y m hI hb21 => ?_)
 obtain ⟨i16, w17, v19, rfl, rfl, g18, r20⟩ := hI
 refine .gn 0 ?_
 cases w17 with
 | nil =>
  rw [X5k] at r20; try dsimp only at r20
  refine .go 5 ?_
  refine .cond_dec rfl (fun c => absurd c (X8 g18)) (fun _ => ?_)
  refine .exit rfl (.go 5 ?_)
  cases r20
  refine .rS [.tmp 4] [_] Tryz.func107 Tryz.results107 ⟨rfl, rfl, rfl⟩
 | cons x26 xs27 =>
  have r25 : X88 x1 (X5k x1 xs27 (i16 + 1)) x26 i16 v19 = some r := r20; clear r20; unfold X88 at r25; try dsimp only at r25
  refine .go 5 ?_
  refine .cond_dec rfl (fun _ => ?_) (fun c => absurd (Xf g18) c)
  refine .go 2 ?_
  refine .block (.go 3 ?_)
  obtain ⟨c28, p29, h30⟩ := SlR.get s0 (X2 g18)
  obtain rfl := h30
  refine .q .ro (.idxR s0 rfl rfl (X2 g18) sl46 ty9.sz) rfl (.q .ro (.load_rp p29 mcs rfl ty9 rfl) rfl (.go 7 ?_))
  refine .q .ro (.leq_d rfl rfl) rfl (.go 1 ?_)
  refine .cH r25 (fun c31 r32 => ?_) (fun c31 r33 => ?_)
  ·refine .go 9 ?_
   exact (hb21 _ _ ⟨(i16 + 1), xs27, (i16 : Int), rfl, rfl, (X3 g18), r32⟩ (Nat.lt_succ_self _)).ax ⟨rfl, (congrArg (fun z => some (Value.int .i64 z)) (X7 (SlR.len s0) g18)), rfl, rfl, rfl, trivial⟩
  ·refine .go 6 ?_
   exact (hb21 _ _ ⟨(i16 + 1), xs27, v19, rfl, rfl, (X3 g18), r33⟩ (Nat.lt_succ_self _)).ax ⟨rfl, (congrArg (fun z => some (Value.int .i64 z)) (X7 (SlR.len s0) g18)), rfl, rfl, rfl, trivial⟩
theorem Xfo {x0_0 : Int} {x0_1 : List ByteArray} {x1 : ByteArray} {r : ((List Int) × Int × Bool × Int)} (hG : G ∈ Fs) (s0_1 : SlR Rep.str G a0_1 k0_1 x0_1) (h : X9v (x0_0, x0_1) x1 = some r) : RetW Tryz.prog 66 #[.agg #[.int .i64 x0_0, .slice a0_1 x0_1.length k0_1], .string x1] Fs [] [] (fun v bo so G => ∃ a0 : Option Addr, ∃ k0 : Nat, v = .tuple #[.slice a0 r.1.length k0, .int .i64 r.2.1, .bool r.2.2.1, .int .i64 r.2.2.2] ∧ bo = [] ∧ so = [] ∧ SlR ri G a0 k0 r.1) := by
 unfold X9v at h
 try dsimp only at h
 refine RetW.st [(0, _), (1, _)] Tryz.func66 Tryz.ntmps66 hG fun w0 S0 hS0 B0 => ?_
 refine .go 2 ?_
 refine .box [_, _] .ro rfl rfl rfl (fun b1 hb1 => ?_)
 refine .go 7 ?_
 refine .q .ro (.load_own_a 0 [_, _] rfl rfl ty72 rfl) rfl ?_
 obtain ⟨u2, hu2, r3⟩ := X0 h
 refine .cW [_] Tryz.call63 (Xbu mcs s0_1 hu2) B0 (fun v5 bo so G6 e7 B8 h4 => ?_)
 obtain ⟨a11, k12, cs13, rfl, rfl, rfl, o14⟩ := h4
 refine .gn 12 ?_
 refine .cH r3 (fun c15 r16 => ?_) (fun c15 r17 => ?_)
 ·refine .go 8 ?_
  cases r16
  refine .drop 1 0 [] _ rfl rfl (.drop 0 1 _ [] rfl rfl ?_)
  refine .rW 0 [.tmp 4, .tmp 5, .tmp 6, .tmp 7] [_, _, _, _] Tryz.func66 Tryz.results66 ⟨RV.tmp rfl, RV.tmp rfl, RV.tmp rfl, RV.tmp rfl, trivial⟩ B8 hS0 (fun G' hg => ⟨none, 0, rfl, rfl, rfl, (SlR.mono hg (SlR.nil (Rp' := ri)))⟩)
 ·refine .go 5 ?_
  obtain ⟨u18, hu18, r19⟩ := X0 r17
  refine .cV [_] Tryz.call92 (X9x mcs  hu18) ?_
  refine .go 2 ?_
  refine .cB r19 (fun c22 r23 => ?_) (fun c22 r24 => ?_)
  ·refine .go 7 ?_
   cases r23
   refine .drop 1 0 [] _ rfl rfl (.drop 0 1 _ [] rfl rfl ?_)
   refine .rW 0 [.tmp 4, .tmp 5, .tmp 6, .tmp 7] [_, _, _, _] Tryz.func66 Tryz.results66 ⟨RV.tmp rfl, RV.tmp rfl, RV.tmp rfl, RV.tmp rfl, trivial⟩ B8 hS0 (fun G' hg => ⟨none, 0, rfl, rfl, rfl, (SlR.mono hg (SlR.nil (Rp' := ri)))⟩)
  ·refine .go 17 ?_
   refine .kB (fun y => ∃ (Z0 : List Int) (Z1 : _) (Z2 : Nat) (Z3 Z4 Z5 : _), y = ⟨[(10, .slice Z1 Z0.length Z2), (11, .int .i64 Z4)], G6 :: Fs, [(b1, .cells #[.int .i64 Z5, .slice a0_1 x0_1.length k0_1] 72 (0, 0))], [.s (.slice Z1 Z0.length Z2) 3 1 Z0.length Z3]⟩ ∧ OL ri G6 Z3 Z0 ∧ (X3r x1 x0_1) Z0 Z4 Z5 = some r) [(1, _), (2, _)] [] [] [_] [0] ?_ ?_
   ·rintro _ ⟨v10, a25, k26, cs27, v28, v29, rfl, o30, r31⟩
    refine .gn 0 ?_
    unfold X3r at r31
    try dsimp only at r31
    refine .go 1 ?_
    refine .freezeR 0 rfl rfl o30 [_] rfl B8 (fun G32 e33 B34 s35 => ?_)
    refine .drawL (.q 0 (.q 1 (.q 2 (.q 3 (.q 4 (.q 5 (.q 6 (.q 7 (.q 8 (.q 9 (.q 10 (.q 11 (.q 12 .nil))))))))))))) [_] (by kernel_rfl) (by kernel_rfl) (X1 [0] rfl) (.go 5 ?_)
    obtain ⟨u36, hu36, r37⟩ := X0 r31
    obtain ⟨c38, p39, h40⟩ := SlR.get (SlR.mono (HpLe.trans e7 e33) s0_1) hu36
    obtain rfl := h40
    refine .dq (.idxR (SlR.mono (HpLe.trans e7 e33) s0_1) rfl rfl hu36 sl46 ty9.sz) rfl (.dq (.load_rp p39 mcs rfl ty9 rfl) rfl (.go 1 ?_))
    refine .dq (.eql_s rfl rfl) rfl (.go 5 ?_)
    cases r37
    refine .drop 1 0 [] _ rfl rfl (.drop 0 1 _ [] rfl rfl ?_)
    refine .rW 0 [.tmp 4, .tmp 5, .tmp 6, .tmp 7] [_, _, _, _] Tryz.func66 Tryz.results66 ⟨RV.tmp rfl, RV.tmp rfl, RV.tmp rfl, RV.tmp rfl, trivial⟩ B34 hS0 (fun G' hg => ⟨a25, k26, rfl, rfl, rfl, (SlR.mono hg s35)⟩)
   ·intro hb41
    refine .block (.own_nil 3 1 ?_)
    refine .lp (fun y m => ∃ (Z0 : Nat) (Z1 : List Int) (Z2 : _) (Z3 : Nat) (Z4 Z5 Z6 : _), y = ⟨[(10, .slice Z2 Z1.length Z3), (11, .int .i64 Z5), (12, .int .i64 Z6)], [], [], [.s (.slice Z2 Z1.length Z3) 3 1 Z1.length Z4]⟩ ∧ Z0 = m ∧ OL ri G6 Z4 Z1 ∧ X5z (X3r x1 x0_1) x1 x0_0 u2.1 Z0 Z1 Z5 Z6 = some r) [(1, _), (2, _), (8, _)] [_] [_] ⟨big, ([] : List Int), none, 0, [], 0, (w64 ((u2.1.length : Int) - 1)), rfl, rfl, (OL.nil (Rp' := ri)), r24⟩ (fun y m hI hb42 => ?_)
    obtain ⟨n43, v44, a45, k47, cs49, v50, v51, rfl, rfl, o52, r53⟩ := hI
    refine .gn 0 ?_
    obtain ⟨m54, rfl⟩ : ∃ m, n43 = m + 1 := by cases n43 with | zero => exact absurd (show (none : Option _) = some _ from r53) (by simp) | succ m => exact ⟨m, rfl⟩
    have r55 : X7g (X3r x1 x0_1) x1 x0_0 u2.1 (X5z (X3r x1 x0_1) x1 x0_0 u2.1 m54) v44 v50 v51 = some r := r53; clear r53; unfold X7g at r55; try dsimp only at r55
    refine .go 6 ?_
    refine .cH r55 (fun c56 r57 => ?_) (fun c56 r58 => ?_)
    ·refine .go 2 ?_
     refine .block (.go 4 ?_)
     refine .lit [_] [(0, _)] .ro sl48 ty3 rfl rfl rfl rfl rfl rfl (fun b59 hb59 => ?_)
     have o60 : OL ri G6 [.int .i64 v50] ([v50] : List Int) := ((OL.cons rfl (Rep.intI .i64 v50) (OL.nil (Rp' := ri))) :)
     refine .reval 34 (n' := ([v50] : List Int).length) rfl rfl ?_
     obtain ⟨u61, hu61, r62⟩ := X0 r57
     refine .appO (Q := ri) 0 .ro sl48 ty3 rfl rfl rfl rfl rfl rfl o52 o60 rfl rfl rfl B8 hu61 rfl (fun a65 k67 cs68 o69 => ?_)
     refine .go 6 ?_
     obtain ⟨u70, hu70, r71⟩ := X0 r62
     obtain ⟨c73, p74, h75⟩ := OL.get o14 hu70
     obtain ⟨a76, k77, rfl, s78⟩ := h75
     refine .q .ro (.idxO 1 rfl rfl rfl hu70 sl123 ty46.sz) rfl (.q .ro (.loadO 1 0 rfl hu70 p74 rfl (.inl ⟨rfl, rfl⟩) ty46 rfl) rfl (.go 2 ?_))
     refine .drawL (.q 0 (.q 1 (.q 2 (.q 3 (.q 4 (.q 5 (.q 6 (.q 7 (.q 8 (.q 9 (.q 10 (.q 11 (.q 12 (.q 13 (.q 14 (.q 15 (.q 16 (.q 17 (.q 18 (.e 19 1 (.q 20 (.q 21 .nil)))))))))))))))))))))) [_] (by kernel_rfl) (by kernel_rfl) (X1 [0] rfl) (.go 16 ?_)
     refine .dq (.min2 rfl rfl) rfl ?_
     obtain ⟨u79, hu79, r80⟩ := X0 r71
     obtain ⟨a81, k82, h83, s84⟩ := SlR.sub s78 hu79
     refine .dq (.sliceR s78 rfl hu79 sl46 ty9.sz (fun h => .yes' rfl h) (fun h => .yes' rfl h) h83) rfl (.go 1 ?_)
     obtain ⟨u85, hu85, r86⟩ := X0 r80
     refine .cVd [_, _] Tryz.call107 (Xgr mcs s84 hu85) ?_
     refine .clsL (HpLe.refl _) (X1 [0] rfl) (.go 9 ?_)
     exact (hb42 _ _ ⟨m54, u61, a65, k67, cs68, (w64 ((w64 (v50 * x0_0)) + u85)), (w64 (v51 - 1)), rfl, rfl, o69, r86⟩ (Nat.lt_succ_self _)).ar
    ·refine .exit rfl ?_
     exact (hb41 _ ⟨v44, a45, k47, cs49, v50, x0_0, rfl, o52, r58⟩).ar
theorem Xgs {x0_0 : Int} {x0_1 : List ByteArray} {x1 : ByteArray} {r : ((List Int) × Int × Bool × Int)} (hG : G ∈ Fs) (s0_1 : SlR Rep.str G a0_1 k0_1 x0_1) (h : X8e (x0_0, x0_1) x1 = some r) : RetS Tryz.prog 29 #[.agg #[.int .i64 x0_0, .slice a0_1 x0_1.length k0_1], .string x1] Fs [] [] (fun v bo so => ∃ (oa0 : Option Addr) (ok0 : Nat) (oc0 : List Value), v = .tuple #[.slice oa0 r.1.length ok0, .int .i64 r.2.1, .bool r.2.2.1, .int .i64 r.2.2.2] ∧ bo = [] ∧ so = [.s (.slice oa0 r.1.length ok0) 3 1 r.1.length oc0] ∧ OL ri G oc0 r.1) := by
 unfold X8e at h
 try dsimp only at h
 refine RetS.st [(0, _), (1, _)] Tryz.func29 Tryz.ntmps29 hG fun w0 S0 hS0 B0 => ?_
 refine .go 2 ?_
 refine .box [_, _] .ro rfl rfl rfl (fun b1 hb1 => ?_)
 refine .go 7 ?_
 refine .q .ro (.load_own_a 0 [_, _] rfl rfl ty72 rfl) rfl (.go 1 ?_)
 obtain ⟨u2, hu2, r3⟩ := X0 h
 refine .cW [_, _] Tryz.call66 (Xfo mcs s0_1 hu2) B0 (fun v5 bo so G6 e7 B8 h4 => ?_)
 obtain ⟨a10, k11, rfl, rfl, rfl, s12⟩ := h4
 refine .gn 16 ?_
 refine .cH r3 (fun c13 r14 => ?_) (fun c13 r16 => ?_)
 ·refine .go 8 ?_
  refine .own_nil 3 1 ?_
  cases r14
  refine .drop 1 0 [] _ rfl rfl ?_
  refine .rS [.tmp 4, .tmp 5, .tmp 6, .tmp 7] [_, _, _, _] Tryz.func29 Tryz.results29 ⟨none, 0, [], rfl, rfl, rfl, (OL.nil (Rp' := ri))⟩
 ·refine .go 3 ?_
  refine .q .ro (.load_own_a 0 [_, _] rfl rfl ty72 rfl) rfl ?_
  obtain ⟨u17, hu17, r18⟩ := X0 r16
  refine .cS [_] Tryz.call27 (Xcu mcs (SlR.mono e7 s0_1) hu17) (fun v20 bo so h19 => ?_)
  obtain ⟨a22, k23, cs24, rfl, rfl, rfl, o25⟩ := h19
  refine .gn 15 ?_
  refine .block (.own_nil 3 1 ?_)
  refine .freezeR 1 rfl rfl o25 [_] rfl B8 (fun G60 e61 B62 s63 => ?_)
  refine .lp (fun y m => ∃ (Z0 : Nat) (Z1 : List Int) (Z2 : _) (Z3 : Nat) (Z4 Z5 : _), y = ⟨[(14, .slice Z2 Z1.length Z3), (15, .int .i64 Z5)], [], [], [.s (.slice Z2 Z1.length Z3) 3 1 Z1.length Z4]⟩ ∧ Z0 = m ∧ OL ri G60 Z4 Z1 ∧ X5l u2.1 u2.2.1 u2.2.2.1 u17.1 Z0 Z1 Z5 = some r) [(8, _), (9, _), (10, _), (12, _)] [_] [] ⟨big, ([] : List Int), none, 0, [], 0, rfl, rfl, (OL.mono e61 (OL.nil (Rp' := ri))), r18⟩ (fun y m hI hb15 => ?_)
  obtain ⟨n94, v96, a97, k98, cs99, v26, rfl, rfl, o28, r30⟩ := hI
  refine .gn 0 ?_
  obtain ⟨m31, rfl⟩ : ∃ m, n94 = m + 1 := by cases n94 with | zero => exact absurd (show (none : Option _) = some _ from r30) (by simp) | succ m => exact ⟨m, rfl⟩
  have r32 : X89 u2.1 u2.2.1 u2.2.2.1 u17.1 (X5l u2.1 u2.2.1 u2.2.2.1 u17.1 m31) v96 v26 = some r := r30; clear r30; unfold X89 at r32; try dsimp only at r32
  refine .go 8 ?_
  refine .cH r32 (fun c33 r34 => ?_) (fun c33 r36 => ?_)
  ·refine .go 2 ?_
   refine .block (.drawL (.q 0 (.q 1 (.q 2 (.q 3 (.q 4 (.q 5 (.q 6 (.q 7 (.q 8 (.q 9 (.e 10 1 (.e 11 1 (.q 12 .nil))))))))))))) [_] (by kernel_rfl) (by kernel_rfl) (X1 [0] rfl) (.go 3 ?_))
   obtain ⟨u37, hu37, r38⟩ := X0 r34
   obtain ⟨c39, p40, h41⟩ := SlR.get s63 hu37
   obtain rfl := h41
   refine .dq (.idxR s63 rfl rfl hu37 sl48 ty3.sz) rfl (.dq (.load_rp p40 mcs rfl ty3 rfl) rfl (.go 2 ?_))
   obtain ⟨u42, hu42, r43⟩ := X0 r38
   obtain ⟨c44, p45, h46⟩ := SlR.get (SlR.mono e61 s12) hu42
   obtain rfl := h46
   refine .dq (.idxR (SlR.mono e61 s12) rfl rfl hu42 sl48 ty3.sz) rfl (.dq (.load_rp p45 mcs rfl ty3 rfl) rfl (.go 1 ?_))
   refine .lit [_] [(0, _)] .d1 sl48 ty3 rfl rfl rfl rfl rfl rfl (fun b47 hb47 => ?_)
   have o49 : OL ri G60 [.int .i64 (w64 (u37 + u42))] ([(w64 (u37 + u42))] : List Int) := ((OL.cons rfl (Rep.intI .i64 (w64 (u37 + u42))) (OL.nil (Rp' := ri))) :)
   refine .reval 48 (n' := ([(w64 (u37 + u42))] : List Int).length) rfl rfl (.clsL (HpLe.refl _) (X1 [0] rfl) ?_)
   obtain ⟨u50, hu50, r51⟩ := X0 r43
   refine .appO (Q := ri) 0 .d1 sl48 ty3 rfl rfl rfl rfl rfl rfl o28 o49 rfl rfl rfl B62 hu50 rfl (fun a52 k53 cs54 o55 => ?_)
   refine .clsL (HpLe.refl _) (X1 [0] rfl) (.go 8 ?_)
   exact (hb15 _ _ ⟨m31, u50, a52, k53, cs54, (w64 (v26 + 1)), rfl, rfl, o55, r51⟩ (Nat.lt_succ_self _)).ar
  ·refine .exit rfl ?_
   refine .go 10 ?_
   cases r36
   refine .drop 1 0 [] _ rfl rfl ?_
   refine .rS [.tmp 4, .tmp 5, .tmp 6, .tmp 7] [_, _, _, _] Tryz.func29 Tryz.results29 ⟨a97, k98, cs99, rfl, rfl, rfl, (OL.flat (Rep.flat_int _) o28)⟩
end Go.Proofs.YtmfppphlhgneeaaGreat
end
