/- What the proof needs, gathered by wip/gen/shake.py. -/
import Derived.Calls
import Derived.Deep.Quiet
import Derived.Below
import Derived.Laws.AppendOwn
import Derived.WalkKit
import Derived.Laws.OwnMore
import Derived.Deep.Slices
import Derived.ChangeOld
import Derived.ArgAppend
import Derived.RangeFuncIn
import Derived.RangeFuncRecord
import Derived.RangeFuncLeaves
import Derived.Laws.MakeOwn
import Derived.IntWalk
import Derived.Laws.IdiomStrings
import Derived.Laws.Cover3
import Derived.Laws.CopyOwn
import Derived.MapKept
import Derived.RangeFuncNested
import Derived.Test.YtfcicopgdahmcaaGreatDoorRows
import Derived.LaidEql
import Derived.Stop.Asserts
import Derived.RowKitTokens
import Derived.Test.YtfcicopgdahmcaaGreatDoorCards
import Derived.LaidLaws
import Derived.Look8
import Derived.MakeChecks
import Derived.Test.YtfcicopgdahmcaaGreatDoorTie
import Derived.LaidMore
import Derived.Lay
import Derived.SevenTiedAt
import Derived.Stop.Joined
import Derived.ProofKit
import Derived.OpenShut
import Derived.ShutString
import Derived.Test.YtfcicopgdahmcaaGreatDoorTopRecordsQ4
set_option linter.unusedVariables false
set_option linter.unusedSimpArgs false
section
set_option maxHeartbeats 4000000
set_option maxRecDepth 100000
namespace Go.Proofs.YtfcicopgdahmcaaGreatDoor
open Go.RowKit
set_option linter.unusedSimpArgs false
set_option linter.unusedVariables false
set_option synthInstance.maxSize 2000
set_option synthInstance.maxHeartbeats 400000
variable {Fs : List Hp} {G : Hp} {a0 a2 a0_3 a3 a1 a0_1 a0_0 : Option Addr} {k0 k2 k0_3 k3 k1 k0_1 p0 k0_0 : Nat} {p1 : Value}
theorem Xb0 {x0 : Int} {r : Bool} (hG : G ∈ Fs)  (h : X6c x0 = some r) : RetS Tryz.prog 96 #[.int .i64 x0] Fs [] [] (rv (.bool r)) := by
 unfold X6c at h
 try dsimp only at h
 refine RetS.st [(0, _)] Tryz.func96 Tryz.ntmps96 hG fun w0 S0 hS0 B0 => ?_
 refine .go 9 ?_
 refine .kR (fun y => y = ⟨[(8, .bool (decide ((1 ≤ x0) ∧ (x0 ≤ 64))))], G :: Fs, [], []⟩) [(2, _)] [] [] [] [] 3 ?_ ?_
 ·rintro _ rfl
  refine .gn 2 ?_
  cases h
  refine .rS [.tmp 2] [_] Tryz.func96 Tryz.results96 ⟨rfl, rfl, rfl⟩
 ·intro hb2
  refine .split 5 rfl (fun c1 => ?_) (fun c1 => ?_)
  ·refine .go 5 ?_
   exact (hb2 _ rfl).ax ⟨X93 c1, rfl, trivial⟩
  ·refine .go 3 ?_
   exact (hb2 _ rfl).ax ⟨X94 c1, rfl, trivial⟩
theorem X9z {x0 : Int} {r : Int} (hG : G ∈ Fs)  (h : X6l x0 = some r) : RetS Tryz.prog 106 #[.int .i64 x0] Fs [] [] (rv (.int .i64 r)) := by
 unfold X6l at h
 try dsimp only at h
 refine RetS.st [(0, _)] Tryz.func106 Tryz.ntmps106 hG fun w0 S0 hS0 B0 => ?_
 refine .go 14 ?_
 refine .block ?_
 refine .lp (fun y m => ∃ (Z0 : Nat) (Z1 Z2 : _), y = ⟨[(3, .int .i64 Z1), (4, .int .i64 Z2)], [], [], []⟩ ∧ Z0 = m ∧ X4f x0 Z0 Z1 Z2 = some r) [(0, _)] [] [] ⟨big, 1, x0, rfl, rfl, h⟩ (fun y m hI hb12 => ?_)
 obtain ⟨n7, v9, v10, rfl, rfl, r11⟩ := hI
 refine .gn 0 ?_
 obtain ⟨m15, rfl⟩ : ∃ m, n7 = m + 1 := by cases n7 with | zero => exact absurd (show (none : Option _) = some _ from r11) (by simp) | succ m => exact ⟨m, rfl⟩
 have r14 : X5v x0 (X4f x0 m15) v9 v10 = some r := r11; clear r11; unfold X5v at r14; try dsimp only at r14
 refine .go 6 ?_
 refine .cH r14 (fun c16 r17 => ?_) (fun c16 r18 => ?_)
 ·refine .go 2 ?_
  refine .block (.go 12 ?_)
  exact (hb12 _ _ ⟨m15, (w64 (v9 + 1)), (w64 (v10 * x0)), rfl, rfl, r17⟩ (Nat.lt_succ_self _)).ar
 ·refine .exit rfl ?_
  refine .go 5 ?_
  cases r18
  refine .rS [.tmp 2] [_] Tryz.func106 Tryz.results106 ⟨rfl, rfl, rfl⟩
theorem Xa0 {x0 : Int} {x1 : Int} {x2 : Int} {r : Int} (hG : G ∈ Fs)  (h : X5o x0 x1 x2 = some r) : RetS Tryz.prog 97 #[.int .i64 x0, .int .i64 x1, .int .i64 x2] Fs [] [] (rv (.int .i64 r)) := by
 unfold X5o at h
 try dsimp only at h
 refine RetS.st [(0, _), (1, _), (2, _)] Tryz.func97 Tryz.ntmps97 hG fun w0 S0 hS0 B0 => ?_
 refine .go 8 ?_
 obtain ⟨u1, hu1, r2⟩ := X0 h
 refine .cV [_] Tryz.call106 (X9z mcs  hu1) ?_
 refine .go 5 ?_
 obtain ⟨u5, hu5, r6⟩ := X0 r2
 refine .q .ro (.quow rfl rfl (X6z hu5)) rfl (.q .ro (.max2 rfl rfl) rfl (.go 2 ?_))
 cases r6
 refine .rS [.tmp 6] [_] Tryz.func97 Tryz.results97 ⟨rfl, rfl, rfl⟩
theorem Xab {Fs : List Hp} {G : Hp} {p1 : Value} {a1 : Option Addr} {k1 : Nat} {x1 : List Int} {p2 : Value} {x2 : Int} {l : (List (List Int))} (hG : G ∈ Fs) (hp1 : Rp G p1 [.slice a1 x1.length k1]) (s1 : SlR ri G a1 k1 x1) (hp2 : Rp G p2 [.int .i64 x2]) (h : X3n x1 x2 = some l) : IterX Tryz.prog 141 [p1, p2] Fs l.length (fun i v => ∃ x, l[i]? = some x ∧ (Yr.v (Rep.sl ri)).r G v x) := by
 unfold X3n at h
 try dsimp only at h
 intro y 𝒢 ℰ R0 hy hR0
 refine RetG.of (vs := [_, _, _]) Tryz.func141 rfl Tryz.ntmps141 [(0, _), (1, _), (2, _)] ⟨rfl, rfl, rfl, trivial⟩ rfl fun w0 => Cov.dup hG ?_
 have B0 : Bd w0 (blks [] [.g R0]) Fs G := Bd.fin hG
 generalize hS0 : blks [] [.g R0] = S0 at B0 ⊢
 replace h : _ = some (List.drop 0 l) := h
 refine .go 4 ?_
 refine .block ?_
 refine .lp (fun y m => ∃ (Z0 : Nat) (Z1 : Guest) (Z2 : Nat) (Z3 : _), y = ⟨[(4, .int .i64 Z3)], [], [], [.g Z1]⟩ ∧ Z0 = m ∧ 𝒢 Z2 Z1 ∧ Z2 ≤ l.length ∧ Xv x1 x2 Z0 Z3 = some (List.drop Z2 l)) [(0, _), (1, _), (2, _)] [] [] ⟨big, R0, 0, 0, rfl, rfl, hR0, (Nat.zero_le _), h⟩ (fun y m hI hb32 => ?_)
 obtain ⟨n24, R26, i27, v30, rfl, rfl, hR28, le29, r31⟩ := hI
 refine .gn 0 ?_
 obtain ⟨m36, rfl⟩ : ∃ m, n24 = m + 1 := by cases n24 with | zero => exact absurd (show (none : Option _) = some _ from r31) (by simp) | succ m => exact ⟨m, rfl⟩
 have r35 : Xu x1 x2 (Xv x1 x2 m36) v30 = some (List.drop i27 l) := r31; clear r31; unfold Xu at r35; try dsimp only at r35
 refine .go 4 ?_
 refine .q .ro (.load_rp hp1 mcs rfl ty22 rfl) rfl (.go 3 ?_)
 refine .cH r35 (fun c37 r38 => ?_) (fun c37 r57 => ?_)
 ·refine .go 2 ?_
  refine .block (.go 1 ?_)
  refine .drawL (.q 0 (.q 1 (.q 2 (.q 3 (.q 4 (.q 5 (.q 6 .nil))))))) [] (by kernel_rfl) (by kernel_rfl) (X1 [] rfl) (.dq (.load_rp hp2 mcs rfl ty3 rfl) rfl (.dq (.load_rp hp1 mcs rfl ty22 rfl) rfl (.go 1 ?_)))
  obtain ⟨u39, hu39, r40⟩ := X0 r38
  obtain ⟨a41, k42, h43, s44⟩ := SlR.sub s1 hu39
  refine .dq (.sliceR s1 rfl hu39 sl22 ty3.sz (fun h => .yes' rfl h) (fun _ => .no) h43) rfl (.go 1 ?_)
  refine .dq (.min2 rfl rfl) rfl (.go 5 ?_)
  refine .q .ro (.load_rp hp1 mcs rfl ty22 rfl) rfl (.go 7 ?_)
  obtain ⟨u45, hu45, r46⟩ := X0 r40
  obtain ⟨a47, k48, h49, s50⟩ := SlR.sub3 s1 hu45
  refine .q .ro (.sliceR3 s1 rfl hu45 sl22 ty3.sz rfl rfl rfl h49) rfl ?_
  obtain ⟨h51, r52⟩ := Xhi r46; clear r46
  refine .yieldX hy ⟨_, h51, ⟨_, rfl, ((Rep.slI s50) :)⟩⟩ hR28 mcm rfl rfl rfl (fun R53 hR54 => ?_) (fun R55 hE56 => ?_)
  ·refine .q .ro (.not_t rfl) rfl ?_
   refine .go 1 ?_
   refine .cond_false rfl (.go 4 ?_)
   refine .q .ro (.load_rp hp2 mcs rfl ty3 rfl) rfl (.go 3 ?_)
   exact (hb32 _ _ ⟨m36, R53, (i27 + 1), (w64 (v30 + x2)), rfl, rfl, hR54, (Xoj h51), r52⟩ (Nat.lt_succ_self _)).ar
  ·refine .q .ro (.not_f rfl) rfl ?_
   refine .go 1 ?_
   refine .cond_true rfl ?_
   refine .leave (.inr ⟨_, rfl⟩) [] [] rfl Tryz.func141 Tryz.results141 trivial mcm (.inl rfl) (X5t _) ⟨rfl, R55, .inr hE56, rfl⟩
 ·refine .exit rfl ?_
  have hi := Xjw r57 le29
  refine .leave (.inl rfl) [] [] rfl Tryz.func141 Tryz.results141 trivial mcm (.inl rfl) (X5t _) ⟨rfl, R26, .inl (hi ▸ hR28), rfl⟩
theorem X89 {x0 : List Int} {x1 : Int} {r : (List (List Int))} (hG : G ∈ Fs) (s0 : SlR ri G a0 k0 x0) (h : X2j x0 x1 = some r) : RetW Tryz.prog 107 #[.slice a0 x0.length k0, .int .i64 x1] Fs [] [] (fun v bo so G => ∃ (Fi0 : FuncId) (ci0 : List Value), v = .func (.func Fi0) #[] ci0.toArray ∧ bo = [] ∧ so = [] ∧ (∀ args w, (callFunc Fi0 args).run Tryz.prog w = .ok (.enter Fi0 args) w) ∧ IterRX Tryz.prog (Yr.v (Rep.sl ri)) Fi0 ci0 G r) := by
 unfold X2j at h
 try dsimp only at h
 refine RetW.st [(0, _), (1, _)] Tryz.func107 Tryz.ntmps107 hG fun w0 S0 hS0 B0 => ?_
 refine .go 2 ?_
 refine .box [_] .ro rfl rfl rfl (fun b1 hb1 => ?_)
 refine .box [_] .ro rfl rfl rfl (fun b2 hb2 => ?_)
 refine .go 8 ?_
 refine .cutI (β := Unit) (fun y => []) [(2, _), (3, _)] (fun y => G :: Fs) (fun y => []) [_, _] (fun y => []) [] (fun y => (X3o x1 x0)  = some r) ⟨rfl, rfl, trivial⟩ [0, 1] rfl [] rfl ?_ ?_
 ·intro _ hI
  have r8 := hI; clear hI
  refine .gn 0 ?_
  unfold X3o at r8
  try dsimp only at r8
  refine .go 2 ?_
  refine .q .ro (.makeFunc (vf := []) (vc := [_, _]) rfl rfl) rfl (.go 2 ?_)
  refine .freezeBR 1 rfl [_] rfl B0 (fun G11 e12 B13 p14 => ?_)
  refine .freezeBR 0 rfl [] rfl B13 (fun G16 e17 B18 p19 => ?_)
  obtain ⟨u21, hu21, r22⟩ := X0 r8
  cases r22
  refine .rW 0 [.tmp 4] [_] Tryz.func107 Tryz.results107 ⟨RV.tmp rfl, trivial⟩ B18 hS0 (fun G' hg => ⟨_, _, rfl, rfl, rfl, Tryz.call141, (fun Fs' G1 hle hm => Xab (G := G1) hm (Rp.mono (HpLe.trans hg hle) (Rp.mono e17 p14)) (SlR.mono (HpLe.trans hg hle) (SlR.mono (HpLe.trans e12 e17) s0)) (Rp.mono (HpLe.trans hg hle) p19) hu21)⟩)
 ·intro hb23
  refine .cH h (fun c24 r25 => ?_) (fun c24 r26 => ?_)
  ·cases r25
  ·refine .go 1 ?_
   exact .arr (hb23 () r26) ⟨rfl, rfl, trivial⟩
theorem Xe9 {x0 : Int} {x1 : Int} {x2 : ByteArray} {r : (List (List Int))} (hG : G ∈ Fs)  (h : X81 x0 x1 x2 = some r) : RetW Tryz.prog 98 #[.int .i64 x0, .int .i64 x1, .string x2] Fs [] [] (fun v bo so G => ∃ (oa0 : Option Addr) (ok0 : Nat) (oc0 : List Value), v = .slice oa0 r.length ok0 ∧ bo = [] ∧ so = [.s (.slice oa0 r.length ok0) 22 1 r.length oc0] ∧ OL (Rep.sl ri) G oc0 r) := by
 unfold X81 at h
 try dsimp only at h
 refine RetW.st [(0, _), (1, _), (2, _)] Tryz.func98 Tryz.ntmps98 hG fun w0 S0 hS0 B0 => ?_
 refine .marks0 (.go 9 ?_)
 refine .q .ro (.len_s rfl Tryz.underlying9) rfl ?_
 obtain ⟨u1, hu1, r2⟩ := X0 h
 refine .cV [_, _, _] Tryz.call97 (Xa0 mcs  hu1) ?_
 refine .go 2 ?_
 obtain ⟨u5, hu5, r6⟩ := X0 r2
 refine .makeZ (G := G) (Q := ri) .ro sl22 ty3 rfl rfl rfl ((Rep.intI .i64 0) :) rfl rfl hu5 rfl rfl (fun b7 cs8 hb7 o9 => ?_)
 refine .go 6 ?_
 obtain ⟨u11, hu11, r12⟩ := X0 r6
 refine .s2bR .ro rfl Tryz.underlying9 Tryz.underlying123 Tryz.underlying5 hu11 rfl B0 (fun a13 k14 G15 e16 B17 s18 => ?_)
 refine .go 3 ?_
 refine .cutBD (β := Hp × List Int × List Value) (fun y => mks mk0.1) (fun y => [(7, .slice (some ⟨b7, 0, none⟩) y.2.1.length ((w64 (u1 * x1))).toNat)]) [(1, _)] (fun y => y.1 :: Fs) (fun y => []) [] (fun y => [.s (.slice (some ⟨b7, 0, none⟩) ((w64 (u1 * x1))).toNat ((w64 (u1 * x1))).toNat) 3 1 ((w64 (u1 * x1))).toNat y.2.2]) [_] (fun y => HpLe G15 y.1 ∧ Bd w0 S0 Fs y.1 ∧ OL ri y.1 y.2.2 (padz ((w64 (u1 * x1))).toNat 0 y.2.1) ∧ (X1z x1 (w64 (u1 * x1))) y.2.1 = some r) ⟨rfl, trivial⟩ [] rfl [1] rfl ?_ ?_
 ·intro y hI
  obtain ⟨G10, v19, cs20⟩ := y
  obtain ⟨e21, B23, o24, r25⟩ := hI
  try dsimp only at e21 B23 o24 r25
  refine .gn 0 ?_
  unfold X1z at r25
  try dsimp only at r25
  refine .go 4 ?_
  refine .q .ro (.cap rfl sl22) rfl ?_
  obtain ⟨u26, hu26, r27⟩ := X0 r25
  refine .q .ro (.cast (by rw [Xgj]) (.full rfl rfl (.inr rfl) sl22 ty3.sz)) rfl (.unpad 0 48 (F := u26) (Xk3 hu26) rfl rfl ?_)
  have o28 := Xmg hu26 o24
  refine .go 4 ?_
  refine .alloc .ro ty51 rfl (fun b29 hb29 => ?_)
  refine .go 6 ?_
  refine .freezeR 0 rfl rfl o28 [_] rfl B23 (fun G30 e31 B32 s33 => ?_)
  obtain ⟨u34, hu34, r35⟩ := X0 r27
  refine .cW [_, _] Tryz.call107 (X89 mcs s33 hu34) B32 (fun v36 bo so G37 e38 B39 h40 => ?_)
  obtain ⟨F41, c42, rfl, rfl, rfl, hc43, hi44⟩ := h40
  refine .gn 1 ?_
  refine .cutBD (β := Hp × MK × List (List Int) × Option Addr × Nat × List Value) (fun y => mks y.2.1.1) (fun y => []) [(11, _)] (fun y => y.1 :: Fs) (fun y => [(b29, .cells #[.slice y.2.2.2.1 y.2.2.1.length y.2.2.2.2.1] 51 (0, 0))]) [] (fun y => [.g (marksG y.2.1), .s (.slice y.2.2.2.1 y.2.2.1.length y.2.2.2.2.1) 22 1 y.2.2.1.length y.2.2.2.2.2]) [] (fun y => HpLe G37 y.1 ∧ Bd w0 S0 Fs y.1 ∧ OL (Rep.sl ri) y.1 y.2.2.2.2.2 y.2.2.1 ∧ X1y y.2.2.1 = some r) ⟨rfl, trivial⟩ [] rfl [] rfl ?_ ?_
  ·intro y hI
   obtain ⟨G45, mk46, v47, a48, k49, cs50⟩ := y
   obtain ⟨e52, B53, o54, r55⟩ := hI
   try dsimp only at e52 B53 o54 r55
   refine .gn 0 ?_
   unfold X1y at r55
   try dsimp only at r55
   refine .go 5 ?_
   cases r55
   refine .drop 1 0 [] _ rfl rfl ?_
   refine .out (.inr ⟨_, rfl⟩) rfl (Cov.unmarkAll _ _ ?_)
   refine .outW [.tmp 6] [_] Tryz.func98 Tryz.results98 ⟨RV.tmp rfl, trivial⟩ mcm mcs B53 (by subst hS0; simp [blks]) (fun G' hg => ⟨a48, k49, cs50, rfl, rfl, rfl, (OL.mono hg o54)⟩)
  ·intro hb56
   refine .block (.own_nil 22 1 (.emp ?_))
   refine .rangeX (α := List (List Int) × Option Addr × Nat × List Value × Hp) (β := Unit) (fun y => [y.2.2.2.2]) (fun y => [(b29, .cells #[.slice y.2.1 y.1.length y.2.2.1] 51 (0, 0))]) (fun y => [.s (.slice y.2.1 y.1.length y.2.2.1) 22 1 y.1.length y.2.2.2.1]) (fun _ => []) (fun _ => []) (fun _ => []) (fun _ => .skip) (fun i y => (∀ G', HpLe G37 G' → HpLe y.2.2.2.2 G' → OL (Rep.sl ri) G' y.2.2.2.1 y.1) ∧ X2o X1y (List.drop i u34) y.1 = some r) (fun _ => False) (([] : List (List Int)), none, 0, [], empHp)  c42 rfl rfl hc43 rfl (fun G hG b => by rw [List.mem_singleton.1 hG]; rfl) rfl rfl (hi44 _ G37 (HpLe.refl _) mcs) (fun _ _ hv => by obtain ⟨_, _, hv⟩ := hv; exact (Yr.len _ hv).trans rfl) (by kernel_rfl) ⟨(fun G' h1 _ => OL.mono h1 (OL.nil (Rp' := (Rep.sl ri)))), r35⟩ ?_ ?_ (fun _ _ h => h.elim)
   ·intro l57 tm58 D59 i60 y v61 hV62 hI w63 S65 hw66
    obtain ⟨v67, a68, k69, cs70, G71⟩ := y
    obtain ⟨o72, r73⟩ := hI
    try dsimp only at o72 r73
    obtain ⟨x74, h75, h76⟩ := hV62
    refine .union (Fin := (G71 :: G37 :: Fs)) Xby (fun G77 e78 B79 => ?_)
    have e80 : HpLe G37 G77 := X92 e78 (List.mem_cons_of_mem _ mcs)
    have e81 : HpLe G71 G77 := X92 e78 mcs
    replace o72 := o72 G77 e80 e81
    obtain ⟨v82, rfl, h83⟩ := h76
    obtain ⟨a84, k85, h86, s87⟩ := h83
    obtain ⟨rfl, _⟩ := List.cons.inj h86
    rw [Xad h75] at r73
    have r88 : X5w X1y (X2o X1y (List.drop (i60 + 1) u34)) x74 v67 = some r := r73; clear r73; unfold X5w at r88; try dsimp only at r88
    refine .gn 3 ?_
    refine .beginRound 1 rfl rfl [_, _] rfl (.block (.drawL (.q 0 (.q 1 (.e 2 1 (.e 3 1 (.e 4 2 (.e 5 2 .nil)))))) [_, _] (by kernel_rfl) (by kernel_rfl) (X1 [0, 1] rfl) (.go 2 ?_)))
    obtain ⟨u89, hu89, r90⟩ := X0 r88
    refine .cSd [_] Tryz.call100 (X24 mcs (SlR.mono e80 s87) hu89) (fun v91 bo so h92 => ?_)
    obtain ⟨a93, k94, cs95, rfl, rfl, rfl, o96⟩ := h92
    refine .gn 0 ?_
    refine .clsL (HpLe.refl _) (X1 [0, 1] rfl) ?_
    refine .freezeR 0 rfl rfl o96 [_] rfl B79 (fun G99 e101 B102 s103 => ?_)
    refine .lit [_] [(0, _)] .d1 sl51 ty22 rfl rfl rfl rfl rfl rfl (fun b104 hb104 => ?_)
    have o105 : OL (Rep.sl ri) G99 [.slice a93 u89.length k94] ([u89] : List (List Int)) := ((OL.cons rfl (Rep.slI s103) (OL.nil (Rp' := (Rep.sl ri)))) :)
    refine .reval 56 (n' := ([u89] : List (List Int)).length) rfl rfl (.clsL e101 (X1 [0, 1] rfl) ?_)
    obtain ⟨u108, hu108, r109⟩ := X0 r90
    refine .appO (Q := (Rep.sl ri)) 0 .d2 sl51 ty22 rfl rfl rfl rfl rfl rfl (OL.mono e101 o72) o105 rfl rfl rfl B102 hu108 rfl (fun a110 k111 cs112 o113 => ?_)
    refine .store 0 [_] [_, _] .d2 rfl rfl rfl ty51 rfl rfl rfl rfl (.go 2 ?_)
    refine .round_endX (u108, a110, k111, cs112, G99) 1 rfl rfl ⟨(fun G' _ h2 => OL.mono h2 o113), r109⟩ rfl rfl (fun F hF => by rcases List.mem_cons.1 hF with rfl | hF; exact mcs; exact List.mem_cons_of_mem _ (List.mem_cons_of_mem _ hF)) (fun F hF => by rw [List.mem_singleton.1 hF]; exact B102)
   ·intro q114 y hI hb115
    obtain ⟨v67, a68, k69, cs70, G71⟩ := y
    obtain ⟨o72, r73⟩ := hI
    try dsimp only at o72 r73
    refine .union (Fin := Fs) (X7c (Bd.trans (hb115 _ mcs) B39) (X7c B39 Xby)) (fun G116 e117 B118 => ?_)
    have e119 : HpLe G37 G116 := X92 e117 (List.mem_cons_of_mem _ mcs)
    have e120 : HpLe G71 G116 := X92 e117 mcs
    replace o72 := o72 G116 e119 e120
    refine .less (G116 :: Fs) (fun F hF => by rcases List.mem_cons.1 hF with rfl | hF; exact mcs; exact List.mem_cons_of_mem _ (List.mem_cons_of_mem _ (List.mem_cons_of_mem _ hF))) (.gn 0 ?_)
    refine .pullS 1 rfl [_, _] rfl ?_
    refine .mkmerge 1 rfl [_] rfl (fun mk121 => ?_)
    rw [List.drop_length] at r73; rw [X2o] at r73; try dsimp only at r73
    refine .go 1 ?_
    exact .arr (hb56 (G116, mk121, v67, a68, k69, cs70) ⟨e119, B118, o72, r73⟩) ⟨rfl, trivial⟩
 ·intro hb122
  refine .block ?_
  refine .loopD (β := Nat × List Int × Hp × List Int × List Value) (fun y => mks mk0.1) (fun y => [(7, .slice (some ⟨b7, 0, none⟩) y.2.2.2.1.length ((w64 (u1 * x1))).toNat), (24, .int .i64 (y.1 : Int))]) [(0, _), (1, _), (22, _), (23, _)] (fun y => [y.2.2.1]) (fun y => []) [] (fun y => [.s (.slice (some ⟨b7, 0, none⟩) ((w64 (u1 * x1))).toNat ((w64 (u1 * x1))).toNat) 3 1 ((w64 (u1 * x1))).toNat y.2.2.2.2]) [_] (fun y => HpLe G15 y.2.2.1 ∧ Bd w0 S0 Fs y.2.2.1 ∧ OL ri y.2.2.1 y.2.2.2.2 (padz ((w64 (u1 * x1))).toNat 0 y.2.2.2.1) ∧ List.drop y.1 u11 = y.2.1 ∧ X1h (X1z x1 (w64 (u1 * x1))) x0 (w64 (u1 * x1)) y.2.1 y.2.2.2.1 = some r) (fun y => y.2.1.length) (0, u11, G15, ([] : List Int), cs8) ⟨(HpLe.refl _), B17, (OL.mono e16 o9), rfl, r12⟩ rfl ⟨rfl, rfl, rfl, rfl, rfl, rfl, trivial⟩ rfl rfl rfl (fun y hI hb124 => ?_)
  obtain ⟨i125, w126, G127, v128, cs129⟩ := y
  obtain ⟨e130, B131, o132, g133, r134⟩ := hI
  try dsimp only at e130 B131 o132 g133 r134
  refine .gn 0 ?_
  cases w126 with
  | nil =>
   rw [X1h] at r134; try dsimp only at r134
   refine .go 5 ?_
   refine .cond_dec rfl (fun c => absurd c (Xl g133)) (fun _ => ?_)
   refine .exit rfl ?_
   exact .arr (hb122 (G127, v128, cs129) ⟨e130, B131, o132, r134⟩) ⟨rfl, rfl, trivial⟩
  | cons x135 xs136 =>
   have r137 : X5x (X1z x1 (w64 (u1 * x1))) x0 (w64 (u1 * x1)) (X1h (X1z x1 (w64 (u1 * x1))) x0 (w64 (u1 * x1)) xs136) x135 v128 = some r := r134; clear r134; unfold X5x at r137; try dsimp only at r137
   refine .go 5 ?_
   refine .cond_dec rfl (fun _ => ?_) (fun c => absurd (X15 g133) c)
   refine .go 2 ?_
   refine .block (.go 2 ?_)
   obtain ⟨c138, p139, h140⟩ := SlR.get (SlR.mono e130 s18) (X3 g133)
   obtain rfl := h140
   refine .q .ro (.idxR (SlR.mono e130 s18) rfl rfl (X3 g133) sl123 ty5.sz) rfl (.q .ro (.load_rp p139 mcs rfl ty5 rfl) rfl (.go 5 ?_))
   refine .q .ro (.convw Tryz.underlying5 Tryz.underlying3 rfl) rfl (.go 5 ?_)
   obtain ⟨u141, hu141, r142⟩ := X0 r137
   refine .cV [_] Tryz.call106 (X9z mcs  hu141) ?_
   refine .go 2 ?_
   refine .block ?_
   refine .loopD (β := Nat × Hp × List Int × List Value × Int × Int) (fun y => mks mk0.1) (fun y => [(7, .slice (some ⟨b7, 0, none⟩) y.2.2.1.length ((w64 (u1 * x1))).toNat), (10, .int .i64 y.2.2.2.2.1), (32, .int .i64 y.2.2.2.2.2)]) [(24, _), (0, _), (1, _), (22, _), (23, _), (31, _)] (fun y => [y.2.1]) (fun y => []) [] (fun y => [.s (.slice (some ⟨b7, 0, none⟩) ((w64 (u1 * x1))).toNat ((w64 (u1 * x1))).toNat) 3 1 ((w64 (u1 * x1))).toNat y.2.2.2.1]) [_] (fun y => HpLe G127 y.2.1 ∧ Bd w0 S0 Fs y.2.1 ∧ OL ri y.2.1 y.2.2.2.1 (padz ((w64 (u1 * x1))).toNat 0 y.2.2.1) ∧ X3i (X1h (X1z x1 (w64 (u1 * x1))) x0 (w64 (u1 * x1)) xs136) x0 u141 (w64 (u1 * x1)) y.1 y.2.2.1 y.2.2.2.2.1 y.2.2.2.2.2 = some r) (fun y => y.1) (big, G127, v128, cs129, (w64 x135), 0) ⟨(HpLe.refl _), B131, o132, r142⟩ rfl ⟨rfl, rfl, rfl, rfl, rfl, rfl, rfl, rfl, rfl, trivial⟩ rfl rfl rfl (fun y hI hb143 => ?_)
   obtain ⟨n144, G145, v146, cs147, v148, v149⟩ := y
   obtain ⟨e150, B151, o152, r153⟩ := hI
   try dsimp only at e150 B151 o152 r153
   refine .gn 0 ?_
   obtain ⟨m154, rfl⟩ : ∃ m, n144 = m + 1 := by cases n144 with | zero => exact absurd (show (none : Option _) = some _ from r153) (by simp) | succ m => exact ⟨m, rfl⟩
   have r155 : X3h (X1h (X1z x1 (w64 (u1 * x1))) x0 (w64 (u1 * x1)) xs136) x0 u141 (w64 (u1 * x1)) (X3i (X1h (X1z x1 (w64 (u1 * x1))) x0 (w64 (u1 * x1)) xs136) x0 u141 (w64 (u1 * x1)) m154) v146 v148 v149 = some r := r153; clear r153; unfold X3h at r155; try dsimp only at r155
   refine .go 5 ?_
   refine .cH r155 (fun c156 r157 => ?_) (fun c156 r158 => ?_)
   ·refine .go 2 ?_
    refine .block (.go 5 ?_)
    obtain ⟨u159, hu159, r160⟩ := X0 r157
    refine .q .ro (.remt rfl rfl (X6z hu159)) rfl ?_
    refine .lit [_] [(0, _)] .ro sl22 ty3 rfl rfl rfl rfl rfl rfl (fun b161 hb161 => ?_)
    have o162 : OL ri G145 [.int .i64 (Int.tmod v148 x0)] ([(Int.tmod v148 x0)] : List Int) := ((OL.cons rfl (Rep.intI .i64 (Int.tmod v148 x0)) (OL.nil (Rp' := ri))) :)
    refine .reval 38 (n' := ([(Int.tmod v148 x0)] : List Int).length) rfl rfl ?_
    refine .freezeR 0 rfl rfl o162 [_, _] rfl B151 (fun G163 e164 B165 s166 => ?_)
    obtain ⟨u167, hu167, r168⟩ := X0 r160
    refine .appZ (Q := ri) 0 .ro sl22 ty3 rfl rfl rfl (OL.mono e164 o152) rfl rfl s166 rfl mcs hu167 rfl (fun cs169 o170 => ?_)
    refine .go 5 ?_
    obtain ⟨u171, hu171, r172⟩ := X0 r168
    refine .q .ro (.quow rfl rfl (X6z hu171)) rfl (.go 7 ?_)
    exact .arr (hb143 (m154, G163, u167, cs169, (w64 (Int.tdiv v148 x0)), (w64 (v149 + 1))) ⟨(HpLe.trans e150 e164), B165, o170, r172⟩ (Nat.lt_succ_self _)) ⟨rfl, rfl, rfl, rfl, rfl, rfl, rfl, rfl, rfl, trivial⟩
   ·refine .exit rfl ?_
    refine .go 5 ?_
    exact .arr (hb124 ((i125 + 1), xs136, G145, v146, cs147) ⟨(HpLe.trans e130 e150), B151, o152, (X4 g133), r158⟩ (Nat.lt_succ_self _)) ⟨rfl, (congrArg (fun z => some (Value.int .i64 z)) (X5 (SlR.len s18) g133)), rfl, rfl, rfl, rfl, trivial⟩
theorem Xea {x0_0 : Int} {x1 : Int} {x2 : List ByteArray} {r : ((List (List Int)) × (Int × (List (Int × Int × Int))) × Int)} (hG : G ∈ Fs) (s2 : SlR Rep.str G a2 k2 x2) (h : X82 x0_0 x1 x2 = some r) : RetW Tryz.prog 39 #[.agg #[.int .i64 x0_0], .int .i64 x1, .slice a2 x2.length k2] Fs [] [] (fun v bo so G => ∃ a0 : Option Addr, ∃ k0 : Nat, ∃ a1 : Option Addr, ∃ k1 : Nat, v = .tuple #[.slice a0 r.1.length k0, .agg #[.int .i64 r.2.1.1, .slice a1 r.2.1.2.length k1], .int .i64 r.2.2] ∧ bo = [] ∧ so = [] ∧ SlR (Rep.sl ri) G a0 k0 r.1 ∧ SlR (Rep.pair ri (Rep.pair ri ri)) G a1 k1 r.2.1.2) := by
 unfold X82 at h
 try dsimp only at h
 refine RetW.st [(0, _), (1, _), (2, _)] Tryz.func39 Tryz.ntmps39 hG fun w0 S0 hS0 B0 => ?_
 refine .go 2 ?_
 refine .box [_] .ro rfl rfl rfl (fun b1 hb1 => ?_)
 refine .go 1 ?_
 refine .alloc .ro ty96 rfl (fun b2 hb2 => ?_)
 refine .go 4 ?_
 refine .q .ro (.load_own_a 1 [_] rfl rfl ty45 rfl) rfl ?_
 obtain ⟨u3, hu3, r4⟩ := X0 h
 refine .cV [_] Tryz.call72 (X3r mcs  hu3) ?_
 refine .go 7 ?_
 refine .block (.go 6 ?_)
 refine .cB r4 (fun c7 r8 => ?_) (fun c7 r9 => ?_)
 ·refine .go 2 ?_
  refine .q .ro (.build [_, _] [] ty96 pl96 rfl rfl) rfl (.go 1 ?_)
  refine .store 0 [_, _] [_, _] .ro rfl rfl rfl ty96 rfl rfl rfl rfl (.go 2 ?_)
  cases r8
  refine .rW 2 [.tmp 6, .cell 7 96, .tmp 8] [_, _, _] Tryz.func39 Tryz.results39 ⟨RV.tmp rfl, RV.cell_a 0 [_, _] rfl rfl ty96 rfl, RV.tmp rfl, trivial⟩ B0 hS0 (fun G' hg => ⟨none, 0, none, 0, rfl, rfl, rfl, (SlR.mono hg (SlR.nil (Rp' := (Rep.sl ri)))), (SlR.mono hg (SlR.nil (Rp' := (Rep.pair ri (Rep.pair ri ri)))))⟩)
 ·refine .go 3 ?_
  obtain ⟨u10, hu10, r11⟩ := X0 r9
  refine .cV [_] Tryz.call96 (Xb0 mcs  hu10) ?_
  refine .go 3 ?_
  refine .cB r11 (fun c14 r15 => ?_) (fun c14 r16 => ?_)
  ·refine .go 2 ?_
   refine .q .ro (.build [_, _] [] ty96 pl96 rfl rfl) rfl (.go 1 ?_)
   refine .store 0 [_, _] [_, _] .ro rfl rfl rfl ty96 rfl rfl rfl rfl (.go 2 ?_)
   cases r15
   refine .rW 2 [.tmp 6, .cell 7 96, .tmp 8] [_, _, _] Tryz.func39 Tryz.results39 ⟨RV.tmp rfl, RV.cell_a 0 [_, _] rfl rfl ty96 rfl, RV.tmp rfl, trivial⟩ B0 hS0 (fun G' hg => ⟨none, 0, none, 0, rfl, rfl, rfl, (SlR.mono hg (SlR.nil (Rp' := (Rep.sl ri)))), (SlR.mono hg (SlR.nil (Rp' := (Rep.pair ri (Rep.pair ri ri)))))⟩)
  ·refine .go 7 ?_
   refine .cH r16 (fun c17 r18 => ?_) (fun c17 r19 => ?_)
   ·refine .go 2 ?_
    refine .q .ro (.build [_, _] [] ty96 pl96 rfl rfl) rfl (.go 1 ?_)
    refine .store 0 [_, _] [_, _] .ro rfl rfl rfl ty96 rfl rfl rfl rfl (.go 2 ?_)
    cases r18
    refine .rW 2 [.tmp 6, .cell 7 96, .tmp 8] [_, _, _] Tryz.func39 Tryz.results39 ⟨RV.tmp rfl, RV.cell_a 0 [_, _] rfl rfl ty96 rfl, RV.tmp rfl, trivial⟩ B0 hS0 (fun G' hg => ⟨none, 0, none, 0, rfl, rfl, rfl, (SlR.mono hg (SlR.nil (Rp' := (Rep.sl ri)))), (SlR.mono hg (SlR.nil (Rp' := (Rep.pair ri (Rep.pair ri ri)))))⟩)
   ·refine .go 9 ?_
    refine .q .ro (.build [_, _] [(0, _)] ty96 pl96 rfl rfl) rfl ?_
    refine .alloc .ro ty96 rfl (fun b20 hb20 => ?_)
    refine .store 0 [_, _] [_, _, _] .ro rfl rfl rfl ty96 rfl rfl rfl rfl (.go 8 ?_)
    refine .kB (fun y => ∃ (Z0 : _) (Z1 : List (List Int)) (Z2 : _) (Z3 : Nat) (Z4 Z5 : _) (Z6 : List (Int × Int × Int)) (Z7 : _) (Z8 : Nat) (Z9 Z10 Z11 : _), y = ⟨[(11, .slice Z2 Z1.length Z3)], Z0 :: Fs, [(b20, .cells #[.int .i64 Z5, .slice Z7 Z6.length Z8] 96 (0, 0)), (b2, .cells #[.int .i64 Z10, .slice none 0 0] 96 (0, 0)), (b1, .cells #[.int .i64 Z11] 45 (0, 0))], [.s (.slice Z2 Z1.length Z3) 22 1 Z1.length Z4, .s (.slice Z7 Z6.length Z8) 115 3 Z6.length Z9]⟩ ∧ HpLe G Z0 ∧ Bd w0 S0 Fs Z0 ∧ OL (Rep.sl ri) Z0 Z4 Z1 ∧ OL (Rep.pair ri (Rep.pair ri ri)) Z0 Z9 Z6 ∧ X27 Z1 Z5 Z6 Z10 Z11 = some r) [(7, _), (12, _)] [] [] [] [] ?_ ?_
    ·rintro _ ⟨G12, v13, a21, k23, cs24, v25, v26, a28, k29, cs30, v31, v32, rfl, e33, B34, o35, o36, r37⟩
     refine .gn 0 ?_
     unfold X27 at r37
     try dsimp only at r37
     refine .go 1 ?_
     refine .freezeR 0 rfl rfl o35 [_] rfl B34 (fun G38 e40 B41 s42 => ?_)
     refine .drawL (.q 0 (.q 1 (.q 2 (.e 3 1 (.q 4 .nil))))) [_, _] (by kernel_rfl) (by kernel_rfl) (X1 [0, 2] rfl) (.go 1 ?_)
     refine .dq (.load_own_a 0 [_, _] rfl rfl ty96 rfl) rfl (.go 1 ?_)
     refine .store 1 [_, _] [_, _, _] .d1 rfl rfl rfl ty96 rfl rfl rfl rfl (.clsL (HpLe.refl _) (X1 [0, 2] rfl) (.go 2 ?_))
     refine .freezeR 0 rfl rfl (OL.mono e40 o36) [] rfl B41 (fun G43 e44 B46 s47 => ?_)
     cases r37
     refine .rW 3 [.tmp 6, .cell 7 96, .tmp 8] [_, _, _] Tryz.func39 Tryz.results39 ⟨RV.tmp rfl, RV.cell_a 1 [_, _] rfl rfl ty96 rfl, RV.tmp rfl, trivial⟩ B46 hS0 (fun G' hg => ⟨a21, k23, a28, k29, rfl, rfl, rfl, (SlR.mono hg (SlR.mono e44 s42)), (SlR.mono hg s47)⟩)
    ·intro hb48
     refine .block (.own_nil 22 1 (.own_nil 115 3 (.pullS 1 rfl [_, _] rfl ?_)))
     refine .lp (fun y m => ∃ (Z0 : Nat) (Z1 : List ByteArray) (Z2 : _) (Z3 : List (List Int)) (Z4 : _) (Z5 : Nat) (Z6 : _) (Z7 : List (Int × Int × Int)) (Z8 : _) (Z9 : Nat) (Z10 : _), y = ⟨[(11, .slice Z4 Z3.length Z5), (39, .int .i64 (Z0 : Int))], [Z2], [(b20, .cells #[.int .i64 x1, .slice Z8 Z7.length Z9] 96 (0, 0))], [.s (.slice Z4 Z3.length Z5) 22 1 Z3.length Z6, .s (.slice Z8 Z7.length Z9) 115 3 Z7.length Z10]⟩ ∧ Z1.length = m ∧ HpLe G Z2 ∧ Bd w0 S0 Fs Z2 ∧ OL (Rep.sl ri) Z2 Z6 Z3 ∧ OL (Rep.pair ri (Rep.pair ri ri)) Z2 Z10 Z7 ∧ List.drop Z0 x2 = Z1 ∧ X3j X27 x1 u3.1 x0_0 Z1 Z3 Z7 = some r) [(1, _), (7, _), (9, _), (12, _), (37, _), (38, _)] [_, _] [] ⟨0, x2, G, ([] : List (List Int)), none, 0, [], ([] : List (Int × Int × Int)), none, 0, [], rfl, rfl, (HpLe.refl _), B0, (OL.nil (Rp' := (Rep.sl ri))), (OL.nil (Rp' := (Rep.pair ri (Rep.pair ri ri)))), rfl, r19⟩ (fun y m hI hb49 => ?_)
     obtain ⟨i50, w52, G53, v54, a55, k56, cs57, v58, a59, k60, cs61, rfl, rfl, e62, B63, o65, o66, g67, r68⟩ := hI
     refine .gn 0 ?_
     cases w52 with
     | nil =>
      rw [X3j] at r68; try dsimp only at r68
      refine .go 5 ?_
      refine .cond_dec rfl (fun c => absurd c (Xl g67)) (fun _ => ?_)
      refine .exit rfl ?_
      exact (hb48 _ ⟨G53, v54, a55, k56, cs57, x1, v58, a59, k60, cs61, 0, x0_0, rfl, e62, B63, o65, o66, r68⟩).ar
     | cons x69 xs70 =>
      have r71 : X5y X27 x1 u3.1 x0_0 (X3j X27 x1 u3.1 x0_0 xs70) x69 v54 v58 = some r := r68; clear r68; unfold X5y at r71; try dsimp only at r71
      refine .go 5 ?_
      refine .cond_dec rfl (fun _ => ?_) (fun c => absurd (X15 g67) c)
      refine .go 2 ?_
      refine .block (.go 2 ?_)
      obtain ⟨c73, p74, h75⟩ := SlR.get (SlR.mono e62 s2) (X3 g67)
      obtain rfl := h75
      refine .q .ro (.idxR (SlR.mono e62 s2) rfl rfl (X3 g67) sl27 ty9.sz) rfl (.q .ro (.load_rp p74 mcs rfl ty9 rfl) rfl (.go 6 ?_))
      refine .q .ro (.len_s rfl Tryz.underlying9) rfl (.go 2 ?_)
      obtain ⟨u76, h77, r78⟩ := X0 r71
      refine .kR (fun y => y = ⟨[(56, .bool u76)], G53 :: Fs, [], []⟩) [(11, _), (39, _), (1, _), (7, _), (9, _), (12, _), (37, _), (38, _), (14, _)] [_, _, _] [0, 1, 2] [_, _] [0, 1] 10 ?_ ?_
      ·rintro _ rfl
       refine .gn 1 ?_
       refine .cB r78 (fun c79 r80 => ?_) (fun c79 r81 => ?_)
       ·refine .go 2 ?_
        refine .q .ro (.build [_, _] [] ty96 pl96 rfl rfl) rfl (.go 1 ?_)
        refine .store 1 [_, _] [_, _, _] .ro rfl rfl rfl ty96 rfl rfl rfl rfl (.go 2 ?_)
        cases r80
        refine .drop 0 2 _ [] rfl rfl ?_
        refine .rW 3 [.tmp 6, .cell 7 96, .tmp 8] [_, _, _] Tryz.func39 Tryz.results39 ⟨RV.tmp rfl, RV.cell_a 1 [_, _] rfl rfl ty96 rfl, RV.tmp rfl, trivial⟩ B63 hS0 (fun G' hg => ⟨none, 0, none, 0, rfl, rfl, rfl, (SlR.mono hg (SlR.nil (Rp' := (Rep.sl ri)))), (SlR.mono hg (SlR.nil (Rp' := (Rep.pair ri (Rep.pair ri ri)))))⟩)
       ·refine .go 6 ?_
        refine .q .ro (.len_s rfl Tryz.underlying9) rfl (.q .ro (.build [_, _, _] [(0, _), (2, _)] ty115 pl115 rfl rfl) rfl ?_)
        refine .alloc .ro ty115 rfl (fun b82 hb82 => ?_)
        refine .store 0 [_, _, _] [_, _, _, _] .ro rfl rfl rfl ty115 rfl rfl rfl rfl (.go 7 ?_)
        obtain ⟨u83, hu83, r84⟩ := X0 r81
        refine .cW [_, _, _] Tryz.call98 (Xe9 mcs  hu83) B63 (fun v85 bo so G86 e87 B88 h89 => ?_)
        obtain ⟨a90, k91, cs92, rfl, rfl, rfl, o93⟩ := h89
        refine .gn 0 ?_
        obtain ⟨u95, hu95, r99⟩ := X0 r84
        refine .appO (Q := (Rep.sl ri)) 0 .ro sl51 ty22 rfl rfl rfl rfl rfl rfl (OL.mono e87 o65) o93 rfl rfl rfl B88 hu95 rfl (fun a100 k101 cs102 o103 => ?_)
        refine .go 10 ?_
        refine .store 0 [_, _, _] [_, _, _, _] .ro rfl rfl rfl ty3 rfl rfl rfl rfl (.go 4 ?_)
        refine .q .ro (.load_own_a 0 [_, _, _] rfl rfl ty115 rfl) rfl ?_
        refine .lit [_, _, _] [(0, _)] .ro sl94 ty115 rfl rfl rfl rfl rfl rfl (fun b104 hb104 => ?_)
        have o105 : OL (Rep.pair ri (Rep.pair ri ri)) G86 [.int .i64 (v54.length : Int), .int .i64 (w64 ((u95.length : Int) - (v54.length : Int))), .int .i64 (x69.size : Int)] ([((v54.length : Int), (w64 ((u95.length : Int) - (v54.length : Int))), (x69.size : Int))] : List (Int × Int × Int)) := ((OL.cons rfl (Rep.pairI (Rep.intI .i64 (v54.length : Int)) (Rep.pairI (Rep.intI .i64 (w64 ((u95.length : Int) - (v54.length : Int)))) (Rep.intI .i64 (x69.size : Int)))) (OL.nil (Rp' := (Rep.pair ri (Rep.pair ri ri))))) :)
        refine .reval 78 (n' := ([((v54.length : Int), (w64 ((u95.length : Int) - (v54.length : Int))), (x69.size : Int))] : List (Int × Int × Int)).length) rfl rfl ?_
        obtain ⟨u106, hu106, r107⟩ := X0 r99
        refine .appO (Q := (Rep.pair ri (Rep.pair ri ri))) 1 .ro sl94 ty115 rfl rfl rfl rfl rfl rfl (OL.mono e87 o66) o105 rfl rfl rfl B88 hu106 rfl (fun a108 k109 cs110 o111 => ?_)
        refine .go 1 ?_
        refine .store 1 [_, _] [_, _, _, _] .ro rfl rfl rfl ty94 rfl rfl rfl rfl (.go 6 ?_)
        refine .drop 1 0 [_, _, _] _ rfl rfl ?_
        exact (hb49 _ _ ⟨(i50 + 1), xs70, G86, u95, a100, k101, cs102, u106, a108, k109, cs110, rfl, rfl, (HpLe.trans e62 e87), B88, o103, o111, (X4 g67), r107⟩ (Nat.lt_succ_self _)).ax ⟨rfl, (congrArg (fun z => some (Value.int .i64 z)) (X5 (SlR.len s2) g67)), rfl, rfl, rfl, rfl, rfl, rfl, trivial⟩
      ·intro hb112
       refine .split 46 rfl (fun c113 => ?_) (fun c113 => ?_)
       ·have r114 := ifT h77 c113
        refine .go 10 ?_
        exact (hb112 _ rfl).ax ⟨sval r114, rfl, rfl, rfl, rfl, rfl, rfl, rfl, rfl, rfl, trivial⟩
       ·have r116 := ifF h77 c113
        refine .go 11 ?_
        refine .q .ro (.len_s rfl Tryz.underlying9) rfl (.go 1 ?_)
        obtain ⟨u117, hu117, r118⟩ := X0 r116
        refine .cV [_, _, _] Tryz.call97 (Xa0 mcs  hu117) ?_
        refine .go 5 ?_
        exact (hb112 _ rfl).ax ⟨sval r118, rfl, rfl, rfl, rfl, rfl, rfl, rfl, rfl, rfl, trivial⟩
theorem Xch {x0_0 : Int} {x0_1 : Int} {x0_2 : Int} {x0_3 : List (List Int)} {r : Int} (hG : G ∈ Fs) (s0_3 : SlR (Rep.sl ri) G a0_3 k0_3 x0_3) (h : X8e (x0_0, x0_1, x0_2, x0_3) = some r) : RetS Tryz.prog 99 #[.agg #[.int .i64 x0_0, .int .i64 x0_1, .int .i64 x0_2, .slice a0_3 x0_3.length k0_3]] Fs [] [] (rv (.int .i64 r)) := by
 unfold X8e at h
 try dsimp only at h
 refine RetS.st [(0, _)] Tryz.func99 Tryz.ntmps99 hG fun w0 S0 hS0 B0 => ?_
 refine .go 2 ?_
 refine .box [_, _, _, _] .ro rfl rfl rfl (fun b1 hb1 => ?_)
 refine .go 5 ?_
 refine .q .ro (.load_own_a 0 [_] rfl rfl ty45 rfl) rfl ?_
 obtain ⟨u2, hu2, r3⟩ := X0 h
 refine .cV [_] Tryz.call72 (X3r mcs  hu2) ?_
 refine .go 7 ?_
 refine .block (.go 6 ?_)
 refine .kR (fun y => y = ⟨[(21, .bool (decide ((x0_0 < 1) ∨ (2147483647 ≤ x0_0))))], G :: Fs, [], []⟩) [(1, _), (3, _), (4, _)] [_] [0] [] [] 4 ?_ ?_
 ·rintro _ rfl
  refine .gn 2 ?_
  refine .cH r3 (fun c10 r11 => ?_) (fun c10 r12 => ?_)
  ·cases r11
  ·refine .go 6 ?_
   refine .cB r12 (fun c13 r14 => ?_) (fun c13 r15 => ?_)
   ·cases r14
   ·refine .go 6 ?_
    refine .kR (fun y => y = ⟨[(33, .bool (decide ((x0_2 < 1) ∨ (64 < x0_2))))], G :: Fs, [], []⟩) [(1, _), (3, _)] [_] [0] [] [] 4 ?_ ?_
    ·rintro _ rfl
     refine .gn 2 ?_
     refine .cH r15 (fun c20 r21 => ?_) (fun c20 r22 => ?_)
     ·cases r21
     ·refine .go 8 ?_
      refine .cH r22 (fun c23 r24 => ?_) (fun c23 r25 => ?_)
      ·cases r24
      ·refine .go 10 ?_
       refine .block ?_
       refine .lp (fun y m => ∃ (Z0 : Nat) (Z1 : List (List Int)), y = ⟨[(42, .int .i64 (Z0 : Int))], [], [], []⟩ ∧ Z1.length = m ∧ List.drop Z0 x0_3 = Z1 ∧ X51 u2.1 x0_2 Z1  = some r) [(1, _), (3, _), (40, _), (41, _)] [_] [] ⟨0, x0_3, rfl, rfl, rfl, r25⟩ (fun y m hI hb57 => ?_)
       obtain ⟨i53, w54, rfl, rfl, g55, r56⟩ := hI
       refine .gn 0 ?_
       cases w54 with
       | nil =>
        rw [X51] at r56; try dsimp only at r56
        refine .go 5 ?_
        refine .cond_dec rfl (fun c => absurd c (Xl g55)) (fun _ => ?_)
        refine .exit rfl (.go 4 ?_)
        cases r56
        refine .drop 1 0 [] _ rfl rfl ?_
        refine .rS [.tmp 2] [_] Tryz.func99 Tryz.results99 ⟨rfl, rfl, rfl⟩
       | cons x65 xs66 =>
        have r64 : X8o u2.1 x0_2 (X51 u2.1 x0_2 xs66) x65  = some r := r56; clear r56; unfold X8o at r64; try dsimp only at r64
        refine .go 5 ?_
        refine .cond_dec rfl (fun _ => ?_) (fun c => absurd (X15 g55) c)
        refine .go 2 ?_
        refine .block (.go 2 ?_)
        obtain ⟨c67, p68, h69⟩ := SlR.get s0_3 (X3 g55)
        obtain ⟨a70, k71, rfl, s72⟩ := h69
        refine .q .ro (.idxR s0_3 rfl rfl (X3 g55) sl51 ty22.sz) rfl (.q .ro (.load_rp p68 mcs rfl ty22 rfl) rfl (.go 11 ?_))
        refine .cH r64 (fun c73 r74 => ?_) (fun c73 r75 => ?_)
        ·cases r74
        ·refine .go 5 ?_
         obtain ⟨u76, hu76, r77⟩ := X0 r75
         refine .cV [_, _] Tryz.call73 (X1g mcs s72 hu76) ?_
         refine .go 2 ?_
         refine .cB r77 (fun c80 r81 => ?_) (fun c80 r82 => ?_)
         ·cases r81
         ·refine .go 6 ?_
          exact (hb57 _ _ ⟨(i53 + 1), xs66, rfl, rfl, (X4 g55), r82⟩ (Nat.lt_succ_self _)).ax ⟨(congrArg (fun z => some (Value.int .i64 z)) (X5 (SlR.len s0_3) g55)), rfl, rfl, rfl, rfl, trivial⟩
    ·intro hb17
     refine .split 29 rfl (fun c16 => ?_) (fun c16 => ?_)
     ·refine .go 4 ?_
      exact (hb17 _ rfl).ax ⟨X4y c16, rfl, rfl, trivial⟩
     ·refine .go 7 ?_
      exact (hb17 _ rfl).ax ⟨X4z c16, rfl, rfl, trivial⟩
 ·intro hb7
  refine .split 17 rfl (fun c6 => ?_) (fun c6 => ?_)
  ·refine .go 4 ?_
   exact (hb7 _ rfl).ax ⟨X4y c6, rfl, rfl, rfl, trivial⟩
  ·refine .go 7 ?_
   exact (hb7 _ rfl).ax ⟨X4z c6, rfl, rfl, rfl, trivial⟩
theorem Xho {x0 : Int} {x1_0 : Int} {x2 : Int} {x3 : List (List Int)} {r : ((Int × Int × Int × (List (List Int))) × Int)} (hG : G ∈ Fs) (s3 : SlR (Rep.sl ri) G a3 k3 x3) (h : Xbg x0 x1_0 x2 x3 = some r) : RetW Tryz.prog 40 #[.int .i64 x0, .agg #[.int .i64 x1_0], .int .i64 x2, .slice a3 x3.length k3] Fs [] [] (fun v bo so G => ∃ a0 : Option Addr, ∃ k0 : Nat, v = .tuple #[.agg #[.int .i64 r.1.1, .int .i64 r.1.2.1, .int .i64 r.1.2.2.1, .slice a0 r.1.2.2.2.length k0], .int .i64 r.2] ∧ bo = [] ∧ so = [] ∧ SlR (Rep.sl ri) G a0 k0 r.1.2.2.2) := by
 unfold Xbg at h
 try dsimp only at h
 refine RetW.st [(0, _), (1, _), (2, _), (3, _)] Tryz.func40 Tryz.ntmps40 hG fun w0 S0 hS0 B0 => ?_
 refine .go 2 ?_
 refine .box [_] .ro rfl rfl rfl (fun b1 hb1 => ?_)
 refine .alloc .ro ty100 rfl (fun b2 hb2 => ?_)
 refine .go 5 ?_
 refine .q .ro (.load_own_a 1 [_] rfl rfl ty45 rfl) rfl (.go 2 ?_)
 refine .q .ro (.build [_, _, _, _] [(0, _), (1, _), (2, _), (3, _)] ty100 pl100 rfl rfl) rfl ?_
 refine .alloc .ro ty100 rfl (fun b3 hb3 => ?_)
 refine .store 0 [_, _, _, _] [_, _, _] .ro rfl rfl rfl ty100 rfl rfl rfl rfl (.go 4 ?_)
 refine .q .ro (.load_own_a 0 [_, _, _, _] rfl rfl ty100 rfl) rfl ?_
 obtain ⟨u4, hu4, r5⟩ := X0 h
 refine .cV [_] Tryz.call99 (Xch mcs s3 hu4) ?_
 refine .go 7 ?_
 refine .cH r5 (fun c8 r9 => ?_) (fun c8 r10 => ?_)
 ·cases r9
 ·refine .go 4 ?_
  refine .store 0 [_, _, _, _] [_, _, _] .ro rfl rfl rfl ty51 rfl rfl rfl rfl (.go 8 ?_)
  refine .kB (fun y => ∃ (Z0 Z1 Z2 Z3 : _) (Z4 : List (List Int)) (Z5 : _) (Z6 : Nat) (Z7 Z8 Z9 Z10 Z11 : _), y = ⟨[], Z0 :: Fs, [(b3, .cells #[.int .i64 Z1, .int .i64 Z2, .int .i64 Z3, .slice Z5 Z4.length Z6] 100 (0, 0)), (b2, .cells #[.int .i64 Z8, .int .i64 Z9, .int .i64 Z10, .slice none 0 0] 100 (0, 0)), (b1, .cells #[.int .i64 Z11] 45 (0, 0))], [.s (.slice Z5 Z4.length Z6) 22 1 Z4.length Z7]⟩ ∧ HpLe G Z0 ∧ Bd w0 S0 Fs Z0 ∧ OL (Rep.sl ri) Z0 Z7 Z4 ∧ X5e Z1 Z2 Z3 Z4 Z8 Z9 Z10 Z11 = some r) [(8, _), (10, _)] [] [] [] [] ?_ ?_
  ·rintro _ ⟨G12, v13, v14, v15, v16, a17, k18, cs19, v20, v21, v23, v24, rfl, e25, B26, o27, r28⟩
   refine .gn 0 ?_
   unfold X5e at r28
   try dsimp only at r28
   refine .go 2 ?_
   refine .q .ro (.load_own_a 0 [_, _, _, _] rfl rfl ty100 rfl) rfl (.store 1 [_, _, _, _] [_, _, _] .ro rfl rfl rfl ty100 rfl rfl rfl rfl (.go 2 ?_))
   refine .freezeR 0 rfl rfl o27 [] rfl B26 (fun G29 e30 B31 s32 => ?_)
   cases r28
   refine .rW 3 [.cell 8 100, .tmp 9] [_, _] Tryz.func40 Tryz.results40 ⟨RV.cell_a 1 [_, _, _, _] rfl rfl ty100 rfl, RV.tmp rfl, trivial⟩ B31 hS0 (fun G' hg => ⟨a17, k18, rfl, rfl, rfl, (SlR.mono hg s32)⟩)
  ·intro hb33
   refine .block (.own_nil 22 1 ?_)
   refine .lp (fun y m => ∃ (Z0 : Nat) (Z1 : List (List Int)) (Z2 : _) (Z3 : List (List Int)) (Z4 : _) (Z5 : Nat) (Z6 : _), y = ⟨[(28, .int .i64 (Z0 : Int))], [Z2], [(b3, .cells #[.int .i64 x0, .int .i64 x1_0, .int .i64 x2, .slice Z4 Z3.length Z5] 100 (0, 0))], [.s (.slice Z4 Z3.length Z5) 22 1 Z3.length Z6]⟩ ∧ Z1.length = m ∧ HpLe G Z2 ∧ Bd w0 S0 Fs Z2 ∧ OL (Rep.sl ri) Z2 Z6 Z3 ∧ List.drop Z0 x3 = Z1 ∧ X5f X5e x0 x1_0 x2 Z1 Z3 = some r) [(8, _), (10, _), (26, _), (27, _)] [_, _] [] ⟨0, x3, G, ([] : List (List Int)), none, 0, [], rfl, rfl, (HpLe.refl _), B0, (OL.nil (Rp' := (Rep.sl ri))), rfl, r10⟩ (fun y m hI hb34 => ?_)
   obtain ⟨i35, w36, G37, v38, a39, k41, cs42, rfl, rfl, e43, B44, o46, g47, r48⟩ := hI
   refine .gn 0 ?_
   cases w36 with
   | nil =>
    rw [X5f] at r48; try dsimp only at r48
    refine .go 5 ?_
    refine .cond_dec rfl (fun c => absurd c (Xl g47)) (fun _ => ?_)
    refine .exit rfl ?_
    exact (hb33 _ ⟨G37, x0, x1_0, x2, v38, a39, k41, cs42, 0, 0, 0, x1_0, rfl, e43, B44, o46, r48⟩).ar
   | cons x49 xs50 =>
    have r52 : Xa7 X5e x0 x1_0 x2 (X5f X5e x0 x1_0 x2 xs50) x49 v38 = some r := r48; clear r48; unfold Xa7 at r52; try dsimp only at r52
    refine .go 5 ?_
    refine .cond_dec rfl (fun _ => ?_) (fun c => absurd (X15 g47) c)
    refine .go 2 ?_
    refine .block (.go 2 ?_)
    obtain ⟨c53, p54, h55⟩ := SlR.get (SlR.mono e43 s3) (X3 g47)
    obtain ⟨a56, k57, rfl, s58⟩ := h55
    refine .q .ro (.idxR (SlR.mono e43 s3) rfl rfl (X3 g47) sl51 ty22.sz) rfl (.q .ro (.load_rp p54 mcs rfl ty22 rfl) rfl (.go 2 ?_))
    refine .drawL (.q 0 (.q 1 (.q 2 (.e 3 1 (.e 4 1 (.e 5 1 (.q 6 (.e 7 2 .nil)))))))) [_, _, _] (by kernel_rfl) (by kernel_rfl) (X1 [0, 1, 2] rfl) (.go 3 ?_)
    obtain ⟨u59, hu59, r60⟩ := X0 r52
    refine .cSd [_] Tryz.call100 (X24 mcs s58 hu59) (fun v61 bo so h62 => ?_)
    obtain ⟨a63, k65, cs66, rfl, rfl, rfl, o67⟩ := h62
    refine .gn 0 ?_
    refine .clsL (HpLe.refl _) (X1 [0, 1, 2] rfl) ?_
    refine .freezeR 0 rfl rfl o67 [_] rfl B44 (fun G68 e69 B70 s71 => ?_)
    refine .lit [_] [(0, _)] .d1 sl51 ty22 rfl rfl rfl rfl rfl rfl (fun b72 hb72 => ?_)
    have o73 : OL (Rep.sl ri) G68 [.slice a63 u59.length k65] ([u59] : List (List Int)) := ((OL.cons rfl (Rep.slI s71) (OL.nil (Rp' := (Rep.sl ri)))) :)
    refine .reval 36 (n' := ([u59] : List (List Int)).length) rfl rfl (.clsL e69 (X1 [0, 1, 2] rfl) ?_)
    obtain ⟨u74, hu74, r75⟩ := X0 r60
    refine .appO (Q := (Rep.sl ri)) 0 .d1 sl51 ty22 rfl rfl rfl rfl rfl rfl (OL.mono e69 o46) o73 rfl rfl rfl B70 hu74 rfl (fun a76 k77 cs78 o79 => ?_)
    refine .clsL e69 (X1 [0, 1, 2] rfl) (.go 1 ?_)
    refine .store 0 [_, _, _, _] [_, _, _] .d2 rfl rfl rfl ty51 rfl rfl rfl rfl (.go 6 ?_)
    exact (hb34 _ _ ⟨(i35 + 1), xs50, G68, u74, a76, k77, cs78, rfl, rfl, (HpLe.trans e43 e69), B70, o79, (X4 g47), r75⟩ (Nat.lt_succ_self _)).ax ⟨(congrArg (fun z => some (Value.int .i64 z)) (X5 (SlR.len s3) g47)), rfl, rfl, rfl, rfl, trivial⟩
theorem Xbn {x0 : Int} {r : Int} (hG : G ∈ Fs)  (h : X8f x0 = some r) : RetS Tryz.prog 140 #[.int .i64 x0] Fs [] [] (rv (.int .i64 r)) := by
 unfold X8f at h
 try dsimp only at h
 refine RetS.st [(0, _)] Tryz.func140 Tryz.ntmps140 hG fun w0 S0 hS0 B0 => ?_
 refine .go 7 ?_
 refine .q .ro (.remt rfl rfl (by decide)) rfl (.go 8 ?_)
 refine .cH h (fun c1 r2 => ?_) (fun c1 r3 => ?_)
 ·cases r2
 ·refine .go 6 ?_
  cases r3
  refine .rS [.tmp 2] [_] Tryz.func140 Tryz.results140 ⟨rfl, rfl, rfl⟩
theorem Xd6 {x0 : List Int} {r : Int} (hG : G ∈ Fs) (s0 : SlR ri G a0 k0 x0) (h : X9q x0 = some r) : RetS Tryz.prog 102 #[.slice a0 x0.length k0] Fs [] [] (rv (.int .i64 r)) := by
 unfold X9q at h
 try dsimp only at h
 refine RetS.st [(0, _)] Tryz.func102 Tryz.ntmps102 hG fun w0 S0 hS0 B0 => ?_
 refine .go 15 ?_
 refine .block ?_
 refine .lp (fun y m => ∃ (Z0 : Nat) (Z1 : List Int) (Z2 : _), y = ⟨[(3, .int .i64 Z2), (8, .int .i64 (Z0 : Int))], [], [], []⟩ ∧ Z1.length = m ∧ List.drop Z0 x0 = Z1 ∧ X5p Z1 Z2 = some r) [(6, _), (7, _)] [] [] ⟨0, x0, 2, rfl, rfl, rfl, h⟩ (fun y m hI hb22 => ?_)
 obtain ⟨i17, w18, v20, rfl, rfl, g19, r21⟩ := hI
 refine .gn 0 ?_
 cases w18 with
 | nil =>
  rw [X5p] at r21; try dsimp only at r21
  refine .go 5 ?_
  refine .cond_dec rfl (fun c => absurd c (Xl g19)) (fun _ => ?_)
  refine .exit rfl (.go 5 ?_)
  cases r21
  refine .rS [.tmp 2] [_] Tryz.func102 Tryz.results102 ⟨rfl, rfl, rfl⟩
 | cons x26 xs27 =>
  have r25 : X9h (X5p xs27) x26 v20 = some r := r21; clear r21; unfold X9h at r25; try dsimp only at r25
  refine .go 5 ?_
  refine .cond_dec rfl (fun _ => ?_) (fun c => absurd (X15 g19) c)
  refine .go 2 ?_
  refine .block (.go 2 ?_)
  obtain ⟨c28, p29, h30⟩ := SlR.get s0 (X3 g19)
  obtain rfl := h30
  refine .q .ro (.idxR s0 rfl rfl (X3 g19) sl22 ty3.sz) rfl (.q .ro (.load_rp p29 mcs rfl ty3 rfl) rfl (.go 6 ?_))
  obtain ⟨u31, hu31, r32⟩ := X0 r25
  refine .cV [_] Tryz.call140 (Xbn mcs  hu31) ?_
  refine .go 2 ?_
  refine .q .ro (.remt rfl rfl (by decide)) rfl (.go 7 ?_)
  exact (hb22 _ _ ⟨(i17 + 1), xs27, (Int.tmod (w64 ((w64 ((w64 (v20 * 1000003)) + u31)) + 1)) 2147483647), rfl, rfl, (X4 g19), r32⟩ (Nat.lt_succ_self _)).ax ⟨rfl, (congrArg (fun z => some (Value.int .i64 z)) (X5 (SlR.len s0) g19)), rfl, rfl, trivial⟩
theorem Xbo {x0_0 : Int} {x0_1 : Int} {x0_2 : Int} {x0_3 : List (List Int)} {r : ((List Int) × Int)} (hG : G ∈ Fs) (s0_3 : SlR (Rep.sl ri) G a0_3 k0_3 x0_3) (h : X5q (x0_0, x0_1, x0_2, x0_3) = some r) : RetS Tryz.prog 42 #[.agg #[.int .i64 x0_0, .int .i64 x0_1, .int .i64 x0_2, .slice a0_3 x0_3.length k0_3]] Fs [] [] (fun v bo so => ∃ (oa0 : Option Addr) (ok0 : Nat) (oc0 : List Value), v = .tuple #[.slice oa0 r.1.length ok0, .int .i64 r.2] ∧ bo = [] ∧ so = [.s (.slice oa0 r.1.length ok0) 3 1 r.1.length oc0] ∧ OL ri G oc0 r.1) := by
 unfold X5q at h
 try dsimp only at h
 refine RetS.st [(0, _)] Tryz.func42 Tryz.ntmps42 hG fun w0 S0 hS0 B0 => ?_
 refine .go 2 ?_
 refine .box [_, _, _, _] .ro rfl rfl rfl (fun b1 hb1 => ?_)
 refine .go 6 ?_
 refine .q .ro (.load_own_a 0 [_, _, _, _] rfl rfl ty100 rfl) rfl ?_
 obtain ⟨u2, hu2, r3⟩ := X0 h
 refine .cV [_] Tryz.call99 (Xch mcs s0_3 hu2) ?_
 refine .go 7 ?_
 refine .cH r3 (fun c6 r7 => ?_) (fun c6 r8 => ?_)
 ·cases r7
 ·refine .go 13 ?_
  refine .block (.own_nil 3 1 ?_)
  refine .lp (fun y m => ∃ (Z0 : Nat) (Z1 : List (List Int)) (Z2 : List Int) (Z3 : _) (Z4 : Nat) (Z5 : _), y = ⟨[(5, .slice Z3 Z2.length Z4), (16, .int .i64 (Z0 : Int))], [], [], [.s (.slice Z3 Z2.length Z4) 3 1 Z2.length Z5]⟩ ∧ Z1.length = m ∧ OL ri G Z5 Z2 ∧ List.drop Z0 x0_3 = Z1 ∧ X2p Z1 Z2 = some r) [(14, _), (15, _)] [_] [] ⟨0, x0_3, ([] : List Int), none, 0, [], rfl, rfl, (OL.nil (Rp' := ri)), rfl, r8⟩ (fun y m hI hb85 => ?_)
  obtain ⟨i75, w76, v78, a79, k80, cs81, rfl, rfl, o82, g77, r84⟩ := hI
  refine .gn 0 ?_
  cases w76 with
  | nil =>
   rw [X2p] at r84; try dsimp only at r84
   refine .go 5 ?_
   refine .cond_dec rfl (fun c => absurd c (Xl g77)) (fun _ => ?_)
   refine .exit rfl (.go 6 ?_)
   cases r84
   refine .drop 1 0 [] _ rfl rfl ?_
   refine .rS [.tmp 2, .tmp 3] [_, _] Tryz.func42 Tryz.results42 ⟨a79, k80, cs81, rfl, rfl, rfl, o82⟩
  | cons x92 xs93 =>
   have r91 : X6w (X2p xs93) x92 v78 = some r := r84; clear r84; unfold X6w at r91; try dsimp only at r91
   refine .go 5 ?_
   refine .cond_dec rfl (fun _ => ?_) (fun c => absurd (X15 g77) c)
   refine .go 2 ?_
   refine .block (.go 2 ?_)
   obtain ⟨c94, p95, h96⟩ := SlR.get s0_3 (X3 g77)
   obtain ⟨a97, k98, rfl, s99⟩ := h96
   refine .q .ro (.idxR s0_3 rfl rfl (X3 g77) sl51 ty22.sz) rfl (.q .ro (.load_rp p95 mcs rfl ty22 rfl) rfl (.go 5 ?_))
   obtain ⟨u10, hu10, r11⟩ := X0 r91
   refine .cV [_] Tryz.call102 (Xd6 mcs s99 hu10) ?_
   refine .lit [_] [(0, _)] .ro sl22 ty3 rfl rfl rfl rfl rfl rfl (fun b12 hb12 => ?_)
   have o13 : OL ri G [.int .i64 u10] ([u10] : List Int) := ((OL.cons rfl (Rep.intI .i64 u10) (OL.nil (Rp' := ri))) :)
   refine .reval 23 (n' := ([u10] : List Int).length) rfl rfl ?_
   obtain ⟨u14, hu14, r15⟩ := X0 r11
   refine .appO (Q := ri) 0 .ro sl22 ty3 rfl rfl rfl rfl rfl rfl o82 o13 rfl rfl rfl B0 hu14 rfl (fun a16 k17 cs18 o19 => ?_)
   refine .go 7 ?_
   exact (hb85 _ _ ⟨(i75 + 1), xs93, u14, a16, k17, cs18, rfl, rfl, o19, (X4 g77), r15⟩ (Nat.lt_succ_self _)).ax ⟨rfl, (congrArg (fun z => some (Value.int .i64 z)) (X5 (SlR.len s0_3) g77)), rfl, rfl, trivial⟩
theorem Xeb {x0 : Int} {r : Bool} (hG : G ∈ Fs)  (h : X9i x0 = some r) : RetS Tryz.prog 157 #[.int .i64 x0] Fs [] [] (rv (.bool r)) := by
 unfold X9i at h
 try dsimp only at h
 refine RetS.st [(0, _)] Tryz.func157 Tryz.ntmps157 hG fun w0 S0 hS0 B0 => ?_
 refine .go 9 ?_
 refine .kR (fun y => y = ⟨[(8, .bool (decide ((0 ≤ x0) ∧ (x0 < 2147483647))))], G :: Fs, [], []⟩) [(2, _)] [] [] [] [] 3 ?_ ?_
 ·rintro _ rfl
  refine .gn 2 ?_
  cases h
  refine .rS [.tmp 2] [_] Tryz.func157 Tryz.results157 ⟨rfl, rfl, rfl⟩
 ·intro hb2
  refine .split 5 rfl (fun c1 => ?_) (fun c1 => ?_)
  ·refine .go 5 ?_
   exact (hb2 _ rfl).ax ⟨X93 c1, rfl, trivial⟩
  ·refine .go 3 ?_
   exact (hb2 _ rfl).ax ⟨X94 c1, rfl, trivial⟩
theorem Xey {x0 : List Int} {r : Int} (hG : G ∈ Fs) (s0 : SlR ri G a0 k0 x0) (h : Xa8 x0 = some r) : RetS Tryz.prog 137 #[.slice a0 x0.length k0] Fs [] [] (rv (.int .i64 r)) := by
 unfold Xa8 at h
 try dsimp only at h
 refine RetS.st [(0, _)] Tryz.func137 Tryz.ntmps137 hG fun w0 S0 hS0 B0 => ?_
 refine .go 11 ?_
 refine .cH h (fun c1 r2 => ?_) (fun c1 r3 => ?_)
 ·refine .go 4 ?_
  cases r2
  refine .rS [.tmp 2] [_] Tryz.func137 Tryz.results137 ⟨rfl, rfl, rfl⟩
 ·refine .go 8 ?_
  refine .block ?_
  refine .lp (fun y m => ∃ (Z0 : Nat) (Z1 : List Int), y = ⟨[(10, .int .i64 (Z0 : Int))], [], [], []⟩ ∧ Z1.length = m ∧ List.drop Z0 x0 = Z1 ∧ X46 Z1  = some r) [(8, _), (9, _)] [] [] ⟨0, x0, rfl, rfl, rfl, r3⟩ (fun y m hI hb26 => ?_)
  obtain ⟨i22, w23, rfl, rfl, g24, r25⟩ := hI
  refine .gn 0 ?_
  cases w23 with
  | nil =>
   rw [X46] at r25; try dsimp only at r25
   refine .go 5 ?_
   refine .cond_dec rfl (fun c => absurd c (Xl g24)) (fun _ => ?_)
   refine .exit rfl (.go 4 ?_)
   cases r25
   refine .rS [.tmp 2] [_] Tryz.func137 Tryz.results137 ⟨rfl, rfl, rfl⟩
  | cons x30 xs31 =>
   have r29 : X83 (X46 xs31) x30  = some r := r25; clear r25; unfold X83 at r29; try dsimp only at r29
   refine .go 5 ?_
   refine .cond_dec rfl (fun _ => ?_) (fun c => absurd (X15 g24) c)
   refine .go 2 ?_
   refine .block (.go 2 ?_)
   obtain ⟨c32, p33, h34⟩ := SlR.get s0 (X3 g24)
   obtain rfl := h34
   refine .q .ro (.idxR s0 rfl rfl (X3 g24) sl22 ty3.sz) rfl (.q .ro (.load_rp p33 mcs rfl ty3 rfl) rfl (.go 5 ?_))
   obtain ⟨u35, hu35, r36⟩ := X0 r29
   refine .cV [_] Tryz.call157 (Xeb mcs  hu35) ?_
   refine .go 2 ?_
   refine .cB r36 (fun c39 r40 => ?_) (fun c39 r41 => ?_)
   ·refine .go 4 ?_
    cases r40
    refine .rS [.tmp 2] [_] Tryz.func137 Tryz.results137 ⟨rfl, rfl, rfl⟩
   ·refine .go 6 ?_
    exact (hb26 _ _ ⟨(i22 + 1), xs31, rfl, rfl, (X4 g24), r41⟩ (Nat.lt_succ_self _)).ax ⟨(congrArg (fun z => some (Value.int .i64 z)) (X5 (SlR.len s0) g24)), rfl, rfl, trivial⟩
theorem Xg3 {x0 : Int} {x1 : Int} {r : Int} (hG : G ∈ Fs)  (h : X9w x0 x1 = some r) : RetS Tryz.prog 158 #[.int .i64 x0, .int .i64 x1] Fs [] [] (rv (.int .i64 r)) := by
 unfold X9w at h
 try dsimp only at h
 refine RetS.st [(0, _), (1, _)] Tryz.func158 Tryz.ntmps158 hG fun w0 S0 hS0 B0 => ?_
 refine .go 7 ?_
 obtain ⟨u1, hu1, r2⟩ := X0 h
 refine .cV [_] Tryz.call140 (Xbn mcs  hu1) ?_
 refine .go 2 ?_
 obtain ⟨u5, hu5, r6⟩ := X0 r2
 refine .cV [_] Tryz.call140 (Xbn mcs  hu5) ?_
 refine .go 2 ?_
 refine .q .ro (.remt rfl rfl (by decide)) rfl (.go 2 ?_)
 cases r6
 refine .rS [.tmp 4] [_] Tryz.func158 Tryz.results158 ⟨rfl, rfl, rfl⟩
theorem Xez {x0 : List Int} {r : (List Int)} (hG : G ∈ Fs) (s0 : SlR ri G a0 k0 x0) (h : Xa9 x0 = some r) : RetS Tryz.prog 139 #[.slice a0 x0.length k0] Fs [] [] (fun v bo so => ∃ (oa0 : Option Addr) (ok0 : Nat) (oc0 : List Value), v = .slice oa0 r.length ok0 ∧ bo = [] ∧ so = [.s (.slice oa0 r.length ok0) 3 1 r.length oc0] ∧ OL ri G oc0 r) := by
 unfold Xa9 at h
 try dsimp only at h
 refine RetS.st [(0, _)] Tryz.func139 Tryz.ntmps139 hG fun w0 S0 hS0 B0 => ?_
 refine .go 13 ?_
 refine .block (.own_nil 3 1 ?_)
 refine .lp (fun y m => ∃ (Z0 : Nat) (Z1 : List Int) (Z2 : _) (Z3 : Nat) (Z4 Z5 : _), y = ⟨[(3, .slice Z2 Z1.length Z3), (4, .int .i64 Z5)], [], [], [.s (.slice Z2 Z1.length Z3) 3 1 Z1.length Z4]⟩ ∧ Z0 = m ∧ OL ri G Z4 Z1 ∧ X5b x0 Z0 Z1 Z5 = some r) [(0, _)] [] [] ⟨big, ([] : List Int), none, 0, [], 0, rfl, rfl, (OL.nil (Rp' := ri)), h⟩ (fun y m hI hb10 => ?_)
 obtain ⟨n11, v12, a13, k14, cs15, v16, rfl, rfl, o17, r18⟩ := hI
 refine .gn 0 ?_
 obtain ⟨m19, rfl⟩ : ∃ m, n11 = m + 1 := by cases n11 with | zero => exact absurd (show (none : Option _) = some _ from r18) (by simp) | succ m => exact ⟨m, rfl⟩
 have r20 : X84 x0 (X5b x0 m19) v12 v16 = some r := r18; clear r18; unfold X84 at r20; try dsimp only at r20
 refine .go 8 ?_
 refine .cH r20 (fun c21 r23 => ?_) (fun c21 r24 => ?_)
 ·refine .go 2 ?_
  refine .block (.go 8 ?_)
  refine .cH r23 (fun c25 r26 => ?_) (fun c25 r27 => ?_)
  ·refine .go 4 ?_
   obtain ⟨u28, hu28, r29⟩ := X0 r26
   obtain ⟨c30, p31, h32⟩ := SlR.get s0 hu28
   obtain rfl := h32
   refine .q .ro (.idxR s0 rfl rfl hu28 sl22 ty3.sz) rfl (.q .ro (.load_rp p31 mcs rfl ty3 rfl) rfl ?_)
   refine .lit [_] [(0, _)] .ro sl22 ty3 rfl rfl rfl rfl rfl rfl (fun b33 hb33 => ?_)
   have o34 : OL ri G [.int .i64 u28] ([u28] : List Int) := ((OL.cons rfl (Rep.intI .i64 u28) (OL.nil (Rp' := ri))) :)
   refine .reval 21 (n' := ([u28] : List Int).length) rfl rfl ?_
   obtain ⟨u35, hu35, r36⟩ := X0 r29
   refine .appO (Q := ri) 0 .ro sl22 ty3 rfl rfl rfl rfl rfl rfl o17 o34 rfl rfl rfl B0 hu35 rfl (fun a37 k38 cs39 o40 => ?_)
   refine .go 8 ?_
   exact (hb10 _ _ ⟨m19, u35, a37, k38, cs39, (w64 (v16 + 2)), rfl, rfl, o40, r36⟩ (Nat.lt_succ_self _)).ar
  ·refine .drawL (.q 0 (.q 1 (.q 2 (.q 3 (.q 4 (.q 5 (.q 6 (.q 7 (.q 8 (.q 9 (.e 10 1 (.e 11 1 (.e 12 1 (.q 13 .nil)))))))))))))) [] (by kernel_rfl) (by kernel_rfl) (X1 [] rfl) ?_
   refine .go 3 ?_
   obtain ⟨u41, hu41, r42⟩ := X0 r27
   obtain ⟨c43, p44, h45⟩ := SlR.get s0 hu41
   obtain rfl := h45
   refine .dq (.idxR s0 rfl rfl hu41 sl22 ty3.sz) rfl (.dq (.load_rp p44 mcs rfl ty3 rfl) rfl (.go 3 ?_))
   obtain ⟨u46, hu46, r47⟩ := X0 r42
   obtain ⟨c48, p49, h50⟩ := SlR.get s0 hu46
   obtain rfl := h50
   refine .dq (.idxR s0 rfl rfl hu46 sl22 ty3.sz) rfl (.dq (.load_rp p49 mcs rfl ty3 rfl) rfl ?_)
   obtain ⟨u51, hu51, r52⟩ := X0 r47
   refine .cVd [_, _] Tryz.call158 (Xg3 mcs  hu51) ?_
   refine .clsL (HpLe.refl _) (X1 [] rfl) ?_
   refine .lit [_] [(0, _)] .d1 sl22 ty3 rfl rfl rfl rfl rfl rfl (fun b53 hb53 => ?_)
   have o54 : OL ri G [.int .i64 u51] ([u51] : List Int) := ((OL.cons rfl (Rep.intI .i64 u51) (OL.nil (Rp' := ri))) :)
   refine .reval 34 (n' := ([u51] : List Int).length) rfl rfl (.clsL (HpLe.refl _) (X1 [] rfl) ?_)
   obtain ⟨u55, hu55, r56⟩ := X0 r52
   refine .appO (Q := ri) 0 .d1 sl22 ty3 rfl rfl rfl rfl rfl rfl o17 o54 rfl rfl rfl B0 hu55 rfl (fun a57 k58 cs59 o60 => ?_)
   refine .clsL (HpLe.refl _) (X1 [] rfl) (.go 8 ?_)
   exact (hb10 _ _ ⟨m19, u55, a57, k58, cs59, (w64 (v16 + 2)), rfl, rfl, o60, r56⟩ (Nat.lt_succ_self _)).ar
 ·refine .exit rfl ?_
  refine .go 5 ?_
  cases r24
  refine .rS [.tmp 2] [_] Tryz.func139 Tryz.results139 ⟨a13, k14, cs15, rfl, rfl, rfl, o17⟩
theorem Xci (n : Nat) : ∀ {Fs : List Hp} {G : Hp} {a0 : Option Addr} {k0 : Nat} {x0 : List Int} {p1 : Value} {r : Int} (hG : G ∈ Fs) (s0 : SlR ri G a0 k0 x0) (hp1 : Rp G p1 [.func (.func 138) #[] #[p1]]) (h : X3k n x0 = some r), RetS Tryz.prog 138 #[.slice a0 x0.length k0, p1] Fs [] [] (fun v bo so => v = .int .i64 r ∧ bo = [] ∧ so = []) := by
 induction n with
 | zero => intro Fs G a0 k0 x0 p1 r hG s0 hp1 h; exact absurd h (by unfold X3k; simp)
 | succ n ih =>
  intro Fs G a0 k0 x0 p1 r hG s0 hp1 h
  unfold X3k at h
  unfold X8g at h
  try dsimp only at h
  refine RetS.st [(0, _), (1, _)] Tryz.func138 Tryz.ntmps138 hG fun w0 S0 hS0 B0 => ?_
  refine .go 10 ?_
  refine .block (.go 5 ?_)
  refine .cH h (fun c1 r2 => ?_) (fun c1 r3 => ?_)
  ·refine .go 4 ?_
   cases r2
   refine .rS [.tmp 3] [_] Tryz.func138 Tryz.results138 ⟨rfl, rfl, rfl⟩
  ·refine .go 5 ?_
   refine .cH r3 (fun c4 r5 => ?_) (fun c4 r11 => ?_)
   ·refine .go 3 ?_
    obtain ⟨u6, hu6, r7⟩ := X0 r5
    obtain ⟨c8, p9, h10⟩ := SlR.get s0 hu6
    obtain rfl := h10
    refine .q .ro (.idxR s0 rfl rfl hu6 sl22 ty3.sz) rfl (.q .ro (.load_rp p9 mcs rfl ty3 rfl) rfl (.go 2 ?_))
    cases r7
    refine .rS [.tmp 3] [_] Tryz.func138 Tryz.results138 ⟨rfl, rfl, rfl⟩
   ·refine .go 3 ?_
    refine .drawL (.q 0 (.q 1 (.e 2 1 (.e 3 1 (.q 4 .nil))))) [] (by kernel_rfl) (by kernel_rfl) (X1 [] rfl) (.dq (.load_rp hp1 mcs rfl ty184 rfl) rfl (.go 1 ?_))
    obtain ⟨u12, hu12, r13⟩ := X0 r11
    refine .cSd [_] Tryz.call139 (Xez mcs s0 hu12) (fun v15 bo so h14 => ?_)
    obtain ⟨a17, k18, cs19, rfl, rfl, rfl, o20⟩ := h14
    refine .gn 0 ?_
    refine .clsL (HpLe.refl _) (X1 [] rfl) ?_
    refine .freezeR 0 rfl rfl o20 [] rfl B0 (fun G21 e22 B23 s24 => ?_)
    obtain ⟨u26, hu26, r27⟩ := X0 r13
    refine .callS (b1 := []) (b2 := []) (s1 := []) [_] [_] .d1 rfl rfl Tryz.call138 rfl rfl (ih (G := G21) mcs s24 (Rp.mono e22 hp1) hu26) rfl (fun v29 bo so h28 => ?_)
    obtain ⟨rfl, rfl, rfl⟩ := h28
    refine .gn 0 ?_
    refine .clsL e22 (X1 [] rfl) (.go 2 ?_)
    cases r27
    refine .rS [.tmp 3] [_] Tryz.func138 Tryz.results138 ⟨rfl, rfl, rfl⟩
theorem Xdb {x0 : List Int} {r : Int} (hG : G ∈ Fs) (s0 : SlR ri G a0 k0 x0) (hp1 : Rp G p1 [.func (.func 138) #[] #[p1]]) (h : X8p x0 = some r) : RetS Tryz.prog 138 #[.slice a0 x0.length k0, p1] Fs [] [] (rv (.int .i64 r)) := by
 unfold X8p at h
 exact Xci big hG s0 hp1 h
theorem Xcj {x0 : List Int} {r : (Int × Int)} (hG : G ∈ Fs) (s0 : SlR ri G a0 k0 x0) (h : X8h x0 = some r) : RetS Tryz.prog 101 #[.slice a0 x0.length k0] Fs [] [] (rv (.tuple #[.int .i64 r.1, .int .i64 r.2])) := by
 unfold X8h at h
 try dsimp only at h
 refine RetS.st [(0, _)] Tryz.func101 Tryz.ntmps101 hG fun w0 S0 hS0 B0 => ?_
 refine .go 9 ?_
 obtain ⟨u1, hu1, r2⟩ := X0 h
 refine .cV [_] Tryz.call137 (Xey mcs s0 hu1) ?_
 refine .go 7 ?_
 refine .cH r2 (fun c5 r6 => ?_) (fun c5 r7 => ?_)
 ·refine .go 6 ?_
  cases r6
  refine .rS [.tmp 2, .tmp 3] [_, _] Tryz.func101 Tryz.results101 ⟨rfl, rfl, rfl⟩
 ·refine .go 3 ?_
  refine .alloc .ro ty184 rfl (fun b8 hb8 => ?_)
  refine .go 3 ?_
  refine .q .ro (.makeFunc (vf := []) (vc := [_]) rfl rfl) rfl (.store 0 [_] [_] .ro rfl rfl rfl ty184 rfl rfl rfl rfl (.go 5 ?_))
  refine .freezeBR 0 rfl [] rfl B0 (fun G9 e10 B11 p12 => ?_)
  obtain ⟨u14, hu14, r15⟩ := X0 r7
  refine .callS (b1 := []) (b2 := []) (s1 := []) [_] [_] .ro rfl rfl Tryz.call138 rfl rfl (Xdb mcs (SlR.mono e10 s0) p12 hu14) rfl (fun v17 bo so h16 => ?_)
  obtain ⟨rfl, rfl, rfl⟩ := h16
  refine .gn 3 ?_
  cases r15
  refine .rS [.tmp 2, .tmp 3] [_, _] Tryz.func101 Tryz.results101 ⟨rfl, rfl, rfl⟩
theorem Xgv {x0_0 : Int} {x0_1 : Int} {x0_2 : Int} {x0_3 : List (List Int)} {r : ((Int × Int × Int × Int × Int) × Int)} (hG : G ∈ Fs) (s0_3 : SlR (Rep.sl ri) G a0_3 k0_3 x0_3) (h : Xak (x0_0, x0_1, x0_2, x0_3) = some r) : RetS Tryz.prog 41 #[.agg #[.int .i64 x0_0, .int .i64 x0_1, .int .i64 x0_2, .slice a0_3 x0_3.length k0_3]] Fs [] [] (rv (.tuple #[.agg #[.int .i64 r.1.1, .int .i64 r.1.2.1, .int .i64 r.1.2.2.1, .int .i64 r.1.2.2.2.1, .int .i64 r.1.2.2.2.2], .int .i64 r.2])) := by
 unfold Xak at h
 try dsimp only at h
 refine RetS.st [(0, _)] Tryz.func41 Tryz.ntmps41 hG fun w0 S0 hS0 B0 => ?_
 refine .go 2 ?_
 refine .box [_, _, _, _] .ro rfl rfl rfl (fun b1 hb1 => ?_)
 refine .alloc .ro ty104 rfl (fun b2 hb2 => ?_)
 refine .go 4 ?_
 refine .q .ro (.load_own_a 1 [_, _, _, _] rfl rfl ty100 rfl) rfl ?_
 obtain ⟨u3, hu3, r4⟩ := X0 h
 refine .cS [_] Tryz.call42 (Xbo mcs s0_3 hu3) (fun v6 bo so h5 => ?_)
 obtain ⟨a8, k9, cs10, rfl, rfl, rfl, o11⟩ := h5
 refine .gn 12 ?_
 refine .cH r4 (fun c12 r13 => ?_) (fun c12 r14 => ?_)
 ·cases r13
 ·refine .go 4 ?_
  refine .freezeR 0 rfl rfl o11 [] rfl B0 (fun G15 e16 B17 s18 => ?_)
  obtain ⟨u20, hu20, r21⟩ := X0 r14
  refine .cV [_] Tryz.call101 (Xcj mcs s18 hu20) ?_
  refine .go 12 ?_
  refine .cH r21 (fun c24 r25 => ?_) (fun c24 r26 => ?_)
  ·cases r25
  ·refine .go 14 ?_
   refine .q .ro (.build [_, _, _, _, _] [(0, _), (1, _), (2, _), (3, _), (4, _)] ty104 pl104 rfl rfl) rfl (.store 0 [_, _, _, _, _] [_, _] .ro rfl rfl rfl ty104 rfl rfl rfl rfl (.go 2 ?_))
   cases r26
   refine .retSD 2 (.inr ⟨_, rfl⟩) [.cell 2 104, .tmp 3] [_, _] rfl Tryz.func41 Tryz.results41 ⟨RV.cell_a 0 [_, _, _, _, _] rfl rfl ty104 rfl, RV.tmp rfl, trivial⟩ mcm ⟨rfl, rfl, rfl⟩
theorem Xck {x0_0 : Int} {x0_1 : Int} {x0_2 : Int} {x0_3 : Int} {x0_4 : Int} {x1 : List Int} {r : Int} (hG : G ∈ Fs) (s1 : SlR ri G a1 k1 x1) (h : X71 (x0_0, x0_1, x0_2, x0_3, x0_4) x1 = some r) : RetS Tryz.prog 43 #[.agg #[.int .i64 x0_0, .int .i64 x0_1, .int .i64 x0_2, .int .i64 x0_3, .int .i64 x0_4], .slice a1 x1.length k1] Fs [] [] (rv (.int .i64 r)) := by
 unfold X71 at h
 try dsimp only at h
 refine RetS.st [(0, _), (1, _)] Tryz.func43 Tryz.ntmps43 hG fun w0 S0 hS0 B0 => ?_
 refine .go 2 ?_
 refine .box [_, _, _, _, _] .ro rfl rfl rfl (fun b1 hb1 => ?_)
 refine .go 11 ?_
 refine .cH h (fun c2 r3 => ?_) (fun c2 r4 => ?_)
 ·cases r3
 ·refine .go 4 ?_
  obtain ⟨u5, hu5, r6⟩ := X0 r4
  refine .cV [_] Tryz.call101 (Xcj mcs s1 hu5) ?_
  refine .go 12 ?_
  refine .kR (fun y => y = ⟨[(24, .bool (decide ((u5.2 = 0) ∧ (u5.1 ≠ x0_4))))], G :: Fs, [], []⟩) [(6, _)] [_] [0] [] [] 5 ?_ ?_
  ·rintro _ rfl
   refine .gn 1 ?_
   refine .cH r6 (fun c13 r14 => ?_) (fun c13 r15 => ?_)
   ·cases r14
   ·refine .go 6 ?_
    cases r15
    refine .drop 1 0 [] _ rfl rfl ?_
    refine .rS [.tmp 4] [_] Tryz.func43 Tryz.results43 ⟨rfl, rfl, rfl⟩
  ·intro hb10
   refine .split 19 rfl (fun c9 => ?_) (fun c9 => ?_)
   ·refine .go 9 ?_
    exact (hb10 _ rfl).ax ⟨X93 c9, rfl, trivial⟩
   ·refine .go 5 ?_
    exact (hb10 _ rfl).ax ⟨X94 c9, rfl, trivial⟩
theorem X79 {x0 : List (Int × Int × Int)} {F1 : FuncId} {c1 : List Value} {x1 : (Int × Int × Int) → (Int × Int × Int) → Option Int} {r : (Int × Int × Int)} (hG : G ∈ Fs) (s0 : SlR (Rep.pair ri (Rep.pair ri ri)) G a0 k0 x0) (hc1 : ∀ args w, (callFunc F1 args).run Tryz.prog w = .ok (.enter F1 args) w) (hf1 : ∀ (Fs' : List Hp) (G1 : Hp), HpLe G G1 → G1 ∈ Fs' → ∀ (y0_0 : Int) (y0_1 : Int) (y0_2 : Int) (y1_0 : Int) (y1_1 : Int) (y1_2 : Int) (r : Int), x1 (y0_0, y0_1, y0_2) (y1_0, y1_1, y1_2) = some r → RetS Tryz.prog F1 (([.agg #[.int .i64 y0_0, .int .i64 y0_1, .int .i64 y0_2], .agg #[.int .i64 y1_0, .int .i64 y1_1, .int .i64 y1_2]] : List Value) ++ c1).toArray Fs' [] [] (fun v bo so => v = .int .i64 r ∧ bo = [] ∧ so = [])) (h : X1q x0 x1 = some r) : RetS Tryz.prog 104 #[.slice a0 x0.length k0, .func (.func F1) #[] c1.toArray] Fs [] [] (rv (.agg #[.int .i64 r.1, .int .i64 r.2.1, .int .i64 r.2.2])) := by
 unfold X1q at h
 try dsimp only at h
 refine RetS.st [(0, _), (1, _)] Tryz.func104 Tryz.ntmps104 hG fun w0 S0 hS0 B0 => ?_
 refine .go 2 ?_
 refine .alloc .ro ty115 rfl (fun b1 hb1 => ?_)
 refine .go 8 ?_
 refine .cutI (β := Unit) (fun y => []) [(0, _), (1, _), (4, _)] (fun y => G :: Fs) (fun y => []) [_] (fun y => []) [] (fun y => (X1f x0 x1)  = some r) ⟨rfl, rfl, rfl, trivial⟩ [0] rfl [] rfl ?_ ?_
 ·intro _ hI
  have r7 := hI; clear hI
  refine .gn 0 ?_
  unfold X1f at r7
  try dsimp only at r7
  refine .go 3 ?_
  obtain ⟨u10, hu10, r11⟩ := X0 r7
  obtain ⟨c12, p13, h14⟩ := SlR.get s0 hu10
  obtain ⟨_, _, rfl, rfl, _, _, rfl, rfl, rfl⟩ := h14
  refine .q .ro (.idxR s0 rfl rfl hu10 sl94 ty115.sz) rfl (.q .ro (.load_rp_a [_, _, _] p13 mcs rfl ty115 rfl) rfl ?_)
  refine .alloc .ro ty115 rfl (fun b15 hb15 => ?_)
  refine .store 0 [_, _, _] [_, _] .ro rfl rfl rfl ty115 rfl rfl rfl rfl (.go 6 ?_)
  refine .kB (fun y => ∃ (Z0 Z1 Z2 Z3 Z4 Z5 : _), y = ⟨[], G :: Fs, [(b15, .cells #[.int .i64 Z0, .int .i64 Z1, .int .i64 Z2] 115 (0, 0)), (b1, .cells #[.int .i64 Z3, .int .i64 Z4, .int .i64 Z5] 115 (0, 0))], []⟩ ∧ X6 Z0 Z1 Z2 Z3 Z4 Z5 = some r) [(4, _), (5, _)] [] [] [] [] ?_ ?_
  ·rintro _ ⟨v76, v77, v78, v79, v80, v81, rfl, r83⟩
   refine .gn 0 ?_
   unfold X6 at r83
   try dsimp only at r83
   refine .go 2 ?_
   refine .q .ro (.load_own_a 0 [_, _, _] rfl rfl ty115 rfl) rfl (.store 1 [_, _, _] [_, _] .ro rfl rfl rfl ty115 rfl rfl rfl rfl (.go 1 ?_))
   cases r83
   refine .retSD 2 (.inr ⟨_, rfl⟩) [.cell 4 115] [_] rfl Tryz.func104 Tryz.results104 ⟨RV.cell_a 1 [_, _, _] rfl rfl ty115 rfl, trivial⟩ mcm ⟨rfl, rfl, rfl⟩
  ·intro hb84
   refine .block ?_
   refine .lp (fun y m => ∃ (Z0 : Nat) (Z1 Z2 Z3 Z4 : _), y = ⟨[(6, .int .i64 Z1)], [], [(b15, .cells #[.int .i64 Z2, .int .i64 Z3, .int .i64 Z4] 115 (0, 0))], []⟩ ∧ Z0 = m ∧ Xh X6 x0 x1 Z0 Z1 Z2 Z3 Z4 = some r) [(0, _), (1, _), (4, _), (5, _)] [_] [] ⟨big, 1, u10.1, u10.2.1, u10.2.2, rfl, rfl, r11⟩ (fun y m hI hb16 => ?_)
   obtain ⟨n17, v18, v19, v20, v21, rfl, rfl, r22⟩ := hI
   refine .gn 0 ?_
   obtain ⟨m23, rfl⟩ : ∃ m, n17 = m + 1 := by cases n17 with | zero => exact absurd (show (none : Option _) = some _ from r22) (by simp) | succ m => exact ⟨m, rfl⟩
   have r24 : Xr X6 x0 x1 (Xh X6 x0 x1 m23) v18 v19 v20 v21 = some r := r22; clear r22; unfold Xr at r24; try dsimp only at r24
   refine .go 8 ?_
   refine .cH r24 (fun c25 r26 => ?_) (fun c25 r27 => ?_)
   ·refine .go 2 ?_
    refine .block (.go 1 ?_)
    refine .drawL (.q 0 (.q 1 (.q 2 (.q 3 (.q 4 (.q 5 (.e 6 1 (.q 7 .nil)))))))) [_, _] (by kernel_rfl) (by kernel_rfl) (X1 [0, 1] rfl) (.go 3 ?_)
    obtain ⟨u28, hu28, r29⟩ := X0 r26
    obtain ⟨c30, p31, h32⟩ := SlR.get s0 hu28
    obtain ⟨_, _, rfl, rfl, _, _, rfl, rfl, rfl⟩ := h32
    refine .dq (.idxR s0 rfl rfl hu28 sl94 ty115.sz) rfl (.dq (.load_rp_a [_, _, _] p31 mcs rfl ty115 rfl) rfl (.dq (.load_own_a 0 [_, _, _] rfl rfl ty115 rfl) rfl ?_))
    obtain ⟨u33, hu33, r34⟩ := X0 r29
    refine .callS (b1 := []) (b2 := [_, _]) (s1 := []) [_, _] c1 .d1 rfl rfl hc1 rfl rfl (hf1 _ G (HpLe.refl _) mcs _ _ _ _ _ _ _  hu33) rfl (fun v35 bo so h36 => ?_)
    obtain ⟨rfl, rfl, rfl⟩ := h36
    refine .gn 0 ?_
    refine .clsL (HpLe.refl _) (X1 [0, 1] rfl) (.go 2 ?_)
    refine .cH r34 (fun c37 r38 => ?_) (fun c37 r39 => ?_)
    ·refine .go 3 ?_
     obtain ⟨u40, hu40, r41⟩ := X0 r38
     obtain ⟨c42, p43, h44⟩ := SlR.get s0 hu40
     obtain ⟨_, _, rfl, rfl, _, _, rfl, rfl, rfl⟩ := h44
     refine .q .ro (.idxR s0 rfl rfl hu40 sl94 ty115.sz) rfl (.q .ro (.load_rp_a [_, _, _] p43 mcs rfl ty115 rfl) rfl (.store 0 [_, _, _] [_, _] .ro rfl rfl rfl ty115 rfl rfl rfl rfl (.go 7 ?_)))
     exact (hb16 _ _ ⟨m23, (w64 (v18 + 1)), u40.1, u40.2.1, u40.2.2, rfl, rfl, r41⟩ (Nat.lt_succ_self _)).ar
    ·refine .go 7 ?_
     exact (hb16 _ _ ⟨m23, (w64 (v18 + 1)), v19, v20, v21, rfl, rfl, r39⟩ (Nat.lt_succ_self _)).ar
   ·refine .exit rfl ?_
    exact (hb84 _ ⟨v19, v20, v21, 0, 0, 0, rfl, r27⟩).ar
 ·intro hb45
  refine .cH h (fun c46 r47 => ?_) (fun c46 r48 => ?_)
  ·refine .go 1 ?_
   exact absurd r47 (by simp)
  ·refine .go 1 ?_
   exact .arr (hb45 () r48) ⟨rfl, rfl, rfl, trivial⟩
theorem Xdc {x0_0 : Int} {x0_1 : Int} {x0_2 : Int} {x1_0 : Int} {x1_1 : Int} {x1_2 : Int} {r : Int} (hG : G ∈ Fs)  (h : X52 (x0_0, x0_1, x0_2) (x1_0, x1_1, x1_2) = some r) : RetS Tryz.prog 105 #[.agg #[.int .i64 x0_0, .int .i64 x0_1, .int .i64 x0_2], .agg #[.int .i64 x1_0, .int .i64 x1_1, .int .i64 x1_2]] Fs [] [] (rv (.int .i64 r)) := by
 unfold X52 at h
 try dsimp only at h
 refine RetS.st [(0, _), (1, _)] Tryz.func105 Tryz.ntmps105 hG fun w0 S0 hS0 B0 => ?_
 refine .go 2 ?_
 refine .box [_, _, _] .ro rfl rfl rfl (fun b1 hb1 => ?_)
 refine .box [_, _, _] .ro rfl rfl rfl (fun b2 hb2 => ?_)
 refine .go 11 ?_
 refine .cH h (fun c3 r4 => ?_) (fun c3 r5 => ?_)
 ·refine .go 4 ?_
  cases r4
  refine .drop 2 0 [] _ rfl rfl ?_
  refine .rS [.tmp 4] [_] Tryz.func105 Tryz.results105 ⟨rfl, rfl, rfl⟩
 ·refine .go 5 ?_
  cases r5
  refine .drop 2 0 [] _ rfl rfl ?_
  refine .rS [.tmp 4] [_] Tryz.func105 Tryz.results105 ⟨rfl, rfl, rfl⟩
theorem Xcl {x0_0 : Int} {x0_1 : List (Int × Int × Int)} {r : Int} (hG : G ∈ Fs) (s0_1 : SlR (Rep.pair ri (Rep.pair ri ri)) G a0_1 k0_1 x0_1) (h : X8i (x0_0, x0_1) = some r) : RetS Tryz.prog 45 #[.agg #[.int .i64 x0_0, .slice a0_1 x0_1.length k0_1]] Fs [] [] (rv (.int .i64 r)) := by
 unfold X8i at h
 try dsimp only at h
 refine RetS.st [(0, _)] Tryz.func45 Tryz.ntmps45 hG fun w0 S0 hS0 B0 => ?_
 refine .go 2 ?_
 refine .box [_, _] .ro rfl rfl rfl (fun b1 hb1 => ?_)
 refine .go 10 ?_
 refine .cH h (fun c2 r3 => ?_) (fun c2 r4 => ?_)
 ·refine .go 4 ?_
  cases r3
  refine .drop 1 0 [] _ rfl rfl ?_
  refine .rS [.tmp 2] [_] Tryz.func45 Tryz.results45 ⟨rfl, rfl, rfl⟩
 ·refine .go 5 ?_
  obtain ⟨u5, hu5, r6⟩ := X0 r4
  refine .cV [_, _] Tryz.call104 (X79 mcs s0_1 Tryz.call105 (fun Fs' G1 hle hm y0_0 y0_1 y0_2 y1_0 y1_1 y1_2 r  hr => Xdc (G := G1) hm   hr) hu5) ?_
  refine .q .ro (.field rfl Xfy ty3 rfl) rfl (.go 2 ?_)
  cases r6
  refine .drop 1 0 [] _ rfl rfl ?_
  refine .rS [.tmp 2] [_] Tryz.func45 Tryz.results45 ⟨rfl, rfl, rfl⟩
theorem Xf0 {x0_0 : Int} {x0_1 : List (Int × Int × Int)} {x1 : Int} {r : Int} (hG : G ∈ Fs) (s0_1 : SlR (Rep.pair ri (Rep.pair ri ri)) G a0_1 k0_1 x0_1) (h : X8y (x0_0, x0_1) x1 = some r) : RetS Tryz.prog 103 #[.agg #[.int .i64 x0_0, .slice a0_1 x0_1.length k0_1], .int .i64 x1] Fs [] [] (rv (.int .i64 r)) := by
 unfold X8y at h
 try dsimp only at h
 refine RetS.st [(0, _), (1, _)] Tryz.func103 Tryz.ntmps103 hG fun w0 S0 hS0 B0 => ?_
 refine .go 2 ?_
 refine .box [_, _] .ro rfl rfl rfl (fun b1 hb1 => ?_)
 refine .go 7 ?_
 obtain ⟨u2, hu2, r3⟩ := X0 h
 refine .cV [_] Tryz.call96 (Xb0 mcs  hu2) ?_
 refine .go 2 ?_
 refine .kR (fun y => y = ⟨[(17, .bool (decide (((!u2) = true) ∨ (256 < (x0_1.length : Int)))))], G :: Fs, [], []⟩) [(1, _), (2, _)] [_] [0] [] [] 5 ?_ ?_
 ·rintro _ rfl
  refine .gn 1 ?_
  refine .cH r3 (fun c10 r11 => ?_) (fun c10 r12 => ?_)
  ·refine .go 4 ?_
   cases r11
   refine .drop 1 0 [] _ rfl rfl ?_
   refine .rS [.tmp 4] [_] Tryz.func103 Tryz.results103 ⟨rfl, rfl, rfl⟩
  ·refine .go 13 ?_
   refine .kB (fun y => ∃ (Z0 Z1 : _), y = ⟨[(5, .int .i64 Z0)], G :: Fs, [(b1, .cells #[.int .i64 Z1, .slice a0_1 x0_1.length k0_1] 96 (0, 0))], []⟩ ∧ (X1x x1) Z0 Z1 = some r) [(1, _)] [] [] [] [] ?_ ?_
   ·rintro _ ⟨v90, v91, rfl, r93⟩
    refine .gn 0 ?_
    unfold X1x at r93
    try dsimp only at r93
    refine .go 7 ?_
    refine .cH r93 (fun c96 r97 => ?_) (fun c96 r98 => ?_)
    ·refine .go 4 ?_
     cases r97
     refine .drop 1 0 [] _ rfl rfl ?_
     refine .rS [.tmp 4] [_] Tryz.func103 Tryz.results103 ⟨rfl, rfl, rfl⟩
    ·refine .go 5 ?_
     cases r98
     refine .drop 1 0 [] _ rfl rfl ?_
     refine .rS [.tmp 4] [_] Tryz.func103 Tryz.results103 ⟨rfl, rfl, rfl⟩
   ·intro hb99
    refine .block ?_
    refine .lp (fun y m => ∃ (Z0 : Nat) (Z1 : List (Int × Int × Int)) (Z2 : _), y = ⟨[(5, .int .i64 Z2), (21, .int .i64 (Z0 : Int))], [], [], []⟩ ∧ Z1.length = m ∧ List.drop Z0 x0_1 = Z1 ∧ X47 (X1x x1) x1 x0_0 Z1 Z2 = some r) [(1, _), (19, _), (20, _)] [_] [] ⟨0, x0_1, 0, rfl, rfl, rfl, r12⟩ (fun y m hI hb13 => ?_)
    obtain ⟨i14, w15, v16, rfl, rfl, g17, r18⟩ := hI
    refine .gn 0 ?_
    cases w15 with
    | nil =>
     rw [X47] at r18; try dsimp only at r18
     refine .go 5 ?_
     refine .cond_dec rfl (fun c => absurd c (Xl g17)) (fun _ => ?_)
     refine .exit rfl ?_
     exact (hb99 _ ⟨v16, x0_0, rfl, r18⟩).ar
    | cons x19 xs20 =>
     have r21 : X6d (X1x x1) x1 x0_0 (X47 (X1x x1) x1 x0_0 xs20) x19 v16 = some r := r18; clear r18; unfold X6d at r21; try dsimp only at r21
     refine .go 5 ?_
     refine .cond_dec rfl (fun _ => ?_) (fun c => absurd (X15 g17) c)
     refine .go 2 ?_
     refine .block (.go 2 ?_)
     obtain ⟨c22, p23, h24⟩ := SlR.get s0_1 (X3 g17)
     obtain ⟨_, _, rfl, rfl, _, _, rfl, rfl, rfl⟩ := h24
     refine .q .ro (.idxR s0_1 rfl rfl (X3 g17) sl94 ty115.sz) rfl (.q .ro (.load_rp_a [_, _, _] p23 mcs rfl ty115 rfl) rfl ?_)
     refine .alloc .ro ty115 rfl (fun b25 hb25 => ?_)
     refine .store 0 [_, _, _] [_, _] .ro rfl rfl rfl ty115 rfl rfl rfl rfl (.go 8 ?_)
     refine .kR (fun y => y = ⟨[(32, .bool (decide ((x19.2.2 < 0) ∨ (1024 < x19.2.2))))], G :: Fs, [], []⟩) [(5, _), (21, _), (1, _), (19, _), (20, _), (7, _)] [_, _] [0, 1] [] [] 4 ?_ ?_
     ·rintro _ rfl
      refine .gn 1 ?_
      refine .kR (fun y => y = ⟨[(37, .bool (decide (((x19.2.2 < 0) ∨ (1024 < x19.2.2)) ∨ (x19.2.1 < 1))))], G :: Fs, [], []⟩) [(5, _), (21, _), (1, _), (19, _), (20, _), (7, _)] [_, _] [0, 1] [] [] 4 ?_ ?_
      ·rintro _ rfl
       refine .gn 1 ?_
       refine .kR (fun y => y = ⟨[(42, .bool (decide ((((x19.2.2 < 0) ∨ (1024 < x19.2.2)) ∨ (x19.2.1 < 1)) ∨ (1024 < x19.2.1))))], G :: Fs, [], []⟩) [(5, _), (21, _), (1, _), (19, _), (20, _), (7, _)] [_, _] [0, 1] [] [] 4 ?_ ?_
       ·rintro _ rfl
        refine .gn 1 ?_
        refine .kR (fun y => y = ⟨[(48, .bool (decide (((((x19.2.2 < 0) ∨ (1024 < x19.2.2)) ∨ (x19.2.1 < 1)) ∨ (1024 < x19.2.1)) ∨ (x19.1 ≠ v16))))], G :: Fs, [], []⟩) [(5, _), (21, _), (1, _), (19, _), (20, _), (7, _)] [_, _] [0, 1] [] [] 5 ?_ ?_
        ·rintro _ rfl
         refine .gn 1 ?_
         refine .kR (fun y => y = ⟨[(56, .bool (decide ((((((x19.2.2 < 0) ∨ (1024 < x19.2.2)) ∨ (x19.2.1 < 1)) ∨ (1024 < x19.2.1)) ∨ (x19.1 ≠ v16)) ∨ ((w64 (x1 - v16)) < x19.2.1))))], G :: Fs, [], []⟩) [(5, _), (21, _), (1, _), (19, _), (20, _), (7, _)] [_, _] [0, 1] [] [] 7 ?_ ?_
         ·rintro _ rfl
          refine .gn 1 ?_
          refine .cH r21 (fun c26 r27 => ?_) (fun c26 r28 => ?_)
          ·refine .go 4 ?_
           cases r27
           refine .drop 2 0 [] _ rfl rfl ?_
           refine .rS [.tmp 4] [_] Tryz.func103 Tryz.results103 ⟨rfl, rfl, rfl⟩
          ·refine .go 13 ?_
           refine .drop 1 0 [_] _ rfl rfl ?_
           exact (hb13 _ _ ⟨(i14 + 1), xs20, (w64 (v16 + x19.2.1)), rfl, rfl, (X4 g17), r28⟩ (Nat.lt_succ_self _)).ax ⟨rfl, (congrArg (fun z => some (Value.int .i64 z)) (X5 (SlR.len s0_1) g17)), rfl, rfl, rfl, trivial⟩
         ·intro hb29
          refine .split 49 rfl (fun c30 => ?_) (fun c30 => ?_)
          ·refine .go 7 ?_
           exact (hb29 _ rfl).ax ⟨X4y c30, rfl, rfl, rfl, rfl, rfl, rfl, trivial⟩
          ·refine .go 13 ?_
           exact (hb29 _ rfl).ax ⟨X4z c30, rfl, rfl, rfl, rfl, rfl, rfl, trivial⟩
        ·intro hb31
         refine .split 43 rfl (fun c32 => ?_) (fun c32 => ?_)
         ·refine .go 5 ?_
          exact (hb31 _ rfl).ax ⟨X4y c32, rfl, rfl, rfl, rfl, rfl, rfl, trivial⟩
         ·refine .go 9 ?_
          exact (hb31 _ rfl).ax ⟨X4z c32, rfl, rfl, rfl, rfl, rfl, rfl, trivial⟩
       ·intro hb33
        refine .split 38 rfl (fun c34 => ?_) (fun c34 => ?_)
        ·refine .go 4 ?_
         exact (hb33 _ rfl).ax ⟨X4y c34, rfl, rfl, rfl, rfl, rfl, rfl, trivial⟩
        ·refine .go 7 ?_
         exact (hb33 _ rfl).ax ⟨X4z c34, rfl, rfl, rfl, rfl, rfl, rfl, trivial⟩
      ·intro hb35
       refine .split 33 rfl (fun c36 => ?_) (fun c36 => ?_)
       ·refine .go 4 ?_
        exact (hb35 _ rfl).ax ⟨X4y c36, rfl, rfl, rfl, rfl, rfl, rfl, trivial⟩
       ·refine .go 7 ?_
        exact (hb35 _ rfl).ax ⟨X4z c36, rfl, rfl, rfl, rfl, rfl, rfl, trivial⟩
     ·intro hb37
      refine .split 28 rfl (fun c38 => ?_) (fun c38 => ?_)
      ·refine .go 4 ?_
       exact (hb37 _ rfl).ax ⟨X4y c38, rfl, rfl, rfl, rfl, rfl, rfl, trivial⟩
      ·refine .go 7 ?_
       exact (hb37 _ rfl).ax ⟨X4z c38, rfl, rfl, rfl, rfl, rfl, rfl, trivial⟩
 ·intro hb7
  refine .split_b 12 rfl (fun c6 => ?_) (fun c6 => ?_)
  ·refine .go 5 ?_
   exact (hb7 _ rfl).ax ⟨X4y c6, rfl, rfl, trivial⟩
  ·refine .go 9 ?_
   exact (hb7 _ rfl).ax ⟨X4z (Xd2 c6), rfl, rfl, trivial⟩
theorem Xf1 {x0_0 : Int} {x0_1 : List (Int × Int × Int)} {x1 : Int} {x2 : Int} {r : ((List Int) × Int)} (hG : G ∈ Fs) (s0_1 : SlR (Rep.pair ri (Rep.pair ri ri)) G a0_1 k0_1 x0_1) (h : X8z (x0_0, x0_1) x1 x2 = some r) : RetS Tryz.prog 44 #[.agg #[.int .i64 x0_0, .slice a0_1 x0_1.length k0_1], .int .i64 x1, .int .i64 x2] Fs [] [] (fun v bo so => ∃ (oa0 : Option Addr) (ok0 : Nat) (oc0 : List Value), v = .tuple #[.slice oa0 r.1.length ok0, .int .i64 r.2] ∧ bo = [] ∧ so = [.s (.slice oa0 r.1.length ok0) 3 1 r.1.length oc0] ∧ OL ri G oc0 r.1) := by
 unfold X8z at h
 try dsimp only at h
 refine RetS.st [(0, _), (1, _), (2, _)] Tryz.func44 Tryz.ntmps44 hG fun w0 S0 hS0 B0 => ?_
 refine .go 2 ?_
 refine .box [_, _] .ro rfl rfl rfl (fun b1 hb1 => ?_)
 refine .go 6 ?_
 refine .q .ro (.load_own_a 0 [_, _] rfl rfl ty96 rfl) rfl (.go 1 ?_)
 obtain ⟨u2, hu2, r3⟩ := X0 h
 refine .cV [_, _] Tryz.call103 (Xf0 mcs s0_1 hu2) ?_
 refine .go 7 ?_
 refine .cH r3 (fun c6 r7 => ?_) (fun c6 r9 => ?_)
 ·refine .go 6 ?_
  refine .own_nil 3 1 ?_
  cases r7
  refine .drop 1 0 [] _ rfl rfl ?_
  refine .rS [.tmp 6, .tmp 7] [_, _] Tryz.func44 Tryz.results44 ⟨none, 0, [], rfl, rfl, rfl, (OL.nil (Rp' := ri))⟩
 ·refine .go 7 ?_
  refine .kR (fun y => y = ⟨[(26, .bool (decide ((x2 < 0) ∨ ((x0_1.length : Int) ≤ x2))))], G :: Fs, [], []⟩) [(2, _), (3, _)] [_] [0] [] [] 6 ?_ ?_
  ·rintro _ rfl
   refine .gn 1 ?_
   refine .cH r9 (fun c14 r15 => ?_) (fun c14 r17 => ?_)
   ·refine .go 5 ?_
    refine .own_nil 3 1 ?_
    cases r15
    refine .drop 1 0 [] _ rfl rfl ?_
    refine .rS [.tmp 6, .tmp 7] [_, _] Tryz.func44 Tryz.results44 ⟨none, 0, [], rfl, rfl, rfl, (OL.nil (Rp' := ri))⟩
   ·refine .go 6 ?_
    obtain ⟨u18, hu18, r19⟩ := X0 r17
    obtain ⟨c20, p21, h22⟩ := SlR.get s0_1 hu18
    obtain ⟨_, _, rfl, rfl, _, _, rfl, rfl, rfl⟩ := h22
    refine .q .ro (.idxR s0_1 rfl rfl hu18 sl94 ty115.sz) rfl (.q .ro (.load_rp_a [_, _, _] p21 mcs rfl ty115 rfl) rfl ?_)
    refine .alloc .ro ty115 rfl (fun b23 hb23 => ?_)
    refine .store 0 [_, _, _] [_, _] .ro rfl rfl rfl ty115 rfl rfl rfl rfl (.go 8 ?_)
    refine .q .ro (.load_own_a 1 [_, _] rfl rfl ty96 rfl) rfl ?_
    obtain ⟨u24, hu24, r25⟩ := X0 r19
    refine .cV [_] Tryz.call45 (Xcl mcs s0_1 hu24) ?_
    refine .go 2 ?_
    refine .block (.own_nil 3 1 ?_)
    refine .lp (fun y m => ∃ (Z0 : Nat) (Z1 : List Int) (Z2 : _) (Z3 : Nat) (Z4 Z5 : _), y = ⟨[(10, .slice Z2 Z1.length Z3), (34, .int .i64 Z5)], [], [], [.s (.slice Z2 Z1.length Z3) 3 1 Z1.length Z4]⟩ ∧ Z0 = m ∧ OL ri G Z4 Z1 ∧ X49 u24 u18.1 u18.2.1 Z0 Z1 Z5 = some r) [(9, _), (33, _)] [_, _] [] ⟨big, ([] : List Int), none, 0, [], 0, rfl, rfl, (OL.nil (Rp' := ri)), r25⟩ (fun y m hI hb82 => ?_)
    obtain ⟨n72, v74, a75, k76, cs77, v80, rfl, rfl, o78, r81⟩ := hI
    refine .gn 0 ?_
    obtain ⟨m90, rfl⟩ : ∃ m, n72 = m + 1 := by cases n72 with | zero => exact absurd (show (none : Option _) = some _ from r81) (by simp) | succ m => exact ⟨m, rfl⟩
    have r89 : X48 u24 u18.1 u18.2.1 (X49 u24 u18.1 u18.2.1 m90) v74 v80 = some r := r81; clear r81; unfold X48 at r89; try dsimp only at r89
    refine .go 5 ?_
    refine .cH r89 (fun c91 r92 => ?_) (fun c91 r12 => ?_)
    ·refine .go 2 ?_
     refine .block (.go 13 ?_)
     refine .q .ro (.min2 rfl rfl) rfl (.go 1 ?_)
     refine .lit [_] [(0, _)] .ro sl22 ty3 rfl rfl rfl rfl rfl rfl (fun b93 hb93 => ?_)
     have o94 : OL ri G [.int .i64 (w64 (u18.1 + (min v80 (w64 (u18.2.1 - 1)))))] ([(w64 (u18.1 + (min v80 (w64 (u18.2.1 - 1)))))] : List Int) := ((OL.cons rfl (Rep.intI .i64 (w64 (u18.1 + (min v80 (w64 (u18.2.1 - 1)))))) (OL.nil (Rp' := ri))) :)
     refine .reval 46 (n' := ([(w64 (u18.1 + (min v80 (w64 (u18.2.1 - 1)))))] : List Int).length) rfl rfl ?_
     obtain ⟨u13, hu13, r16⟩ := X0 r92
     refine .appO (Q := ri) 0 .ro sl22 ty3 rfl rfl rfl rfl rfl rfl o78 o94 rfl rfl rfl B0 hu13 rfl (fun a96 k97 cs98 o99 => ?_)
     refine .go 7 ?_
     exact (hb82 _ _ ⟨m90, u13, a96, k97, cs98, (w64 (v80 + 1)), rfl, rfl, o99, r16⟩ (Nat.lt_succ_self _)).ar
    ·refine .exit rfl ?_
     refine .go 6 ?_
     cases r12
     refine .drop 2 0 [] _ rfl rfl ?_
     refine .rS [.tmp 6, .tmp 7] [_, _] Tryz.func44 Tryz.results44 ⟨a75, k76, cs77, rfl, rfl, rfl, o78⟩
  ·intro hb11
   refine .split 20 rfl (fun c10 => ?_) (fun c10 => ?_)
   ·refine .go 6 ?_
    exact (hb11 _ rfl).ax ⟨X4y c10, rfl, rfl, trivial⟩
   ·refine .go 11 ?_
    exact (hb11 _ rfl).ax ⟨X4z c10, rfl, rfl, trivial⟩
theorem Xgw {x0_0 : List Int} {x0_1 : Int} {x1_0 : Int} {x1_1 : Int} {r : (Int × Int × ((List Int) × Int))} (hG : G ∈ Fs) (s0_0 : SlR ri G a0_0 k0_0 x0_0) (h : Xal (x0_0, x0_1) (x1_0, x1_1) = some r) : RetS Tryz.prog 46 #[.pointer (some ⟨p0, 0, none⟩), .agg #[.int .i64 x1_0, .int .i64 x1_1]] Fs [(p0, .cells #[.slice a0_0 x0_0.length k0_0, .int .i64 x0_1] 121 (0, 0))] [] (fun v bo so => ∃ a0 : Option Addr, ∃ k0 : Nat, v = .tuple #[.int .i64 r.1, .int .i64 r.2.1] ∧ bo = [(p0, .cells #[.slice a0 r.2.2.1.length k0, .int .i64 r.2.2.2] 121 (0, 0))] ∧ so = [] ∧ SlR ri G a0 k0 r.2.2.1) := by
 unfold Xal at h
 try dsimp only at h
 refine RetS.st [(0, _), (1, _)] Tryz.func46 Tryz.ntmps46 hG fun w0 S0 hS0 B0 => ?_
 refine .go 2 ?_
 refine .box [_, _] .ro rfl rfl rfl (fun b1 hb1 => ?_)
 refine .go 17 ?_
 refine .q .ro (.quow rfl rfl (by decide)) rfl (.go 1 ?_)
 obtain ⟨u2, hu2, r3⟩ := X0 h
 refine .pull 1 rfl [_, _] rfl ?_
 refine .callS (b1 := [_]) (b2 := [_]) (s1 := []) [_, _] [] .ro rfl rfl Tryz.call18 rfl rfl (X10 mcs s0_0 hu2) rfl (fun v5 bo so h4 => ?_)
 obtain ⟨a6, k7, rfl, rfl, rfl, s8⟩ := h4
 refine .gn 10 ?_
 obtain ⟨u9, hu9, r10⟩ := X0 r3
 refine .callS (b1 := [_]) (b2 := [_]) (s1 := []) [_, _] [] .ro rfl rfl Tryz.call18 rfl rfl (X10 mcs s8 hu9) rfl (fun v12 bo so h11 => ?_)
 obtain ⟨a13, k14, rfl, rfl, rfl, s15⟩ := h11
 refine .gn 4 ?_
 cases r10
 refine .pull 1 rfl [_, _] rfl (.drop 1 0 [_] _ rfl rfl ?_)
 refine .rS [.tmp 4, .tmp 5] [_, _] Tryz.func46 Tryz.results46 ⟨a13, k14, rfl, rfl, rfl, s15⟩
theorem Xf2 {x0_0 : Int} {x0_1 : Int} {x0_2 : Int} {x0_3 : Int} {x0_4 : Int} {x1 : List Int} {x2 : Int} {x3 : List Int} {r : Int} (hG : G ∈ Fs) (s1 : SlR ri G a1 k1 x1) (s3 : SlR ri G a3 k3 x3) (h : X78 (x0_0, x0_1, x0_2, x0_3, x0_4) x1 x2 x3 = some r) : RetS Tryz.prog 47 #[.agg #[.int .i64 x0_0, .int .i64 x0_1, .int .i64 x0_2, .int .i64 x0_3, .int .i64 x0_4], .slice a1 x1.length k1, .int .i64 x2, .slice a3 x3.length k3] Fs [] [] (rv (.int .i64 r)) := by
 unfold X78 at h
 try dsimp only at h
 refine RetS.st [(0, _), (1, _), (2, _), (3, _)] Tryz.func47 Tryz.ntmps47 hG fun w0 S0 hS0 B0 => ?_
 refine .go 2 ?_
 refine .box [_, _, _, _, _] .ro rfl rfl rfl (fun b1 hb1 => ?_)
 refine .go 5 ?_
 refine .q .ro (.load_own_a 0 [_, _, _, _, _] rfl rfl ty104 rfl) rfl (.go 1 ?_)
 obtain ⟨u2, hu2, r3⟩ := X0 h
 refine .cV [_, _] Tryz.call43 (Xck mcs s1 hu2) ?_
 refine .go 7 ?_
 refine .cH r3 (fun c6 r7 => ?_) (fun c6 r8 => ?_)
 ·cases r7
 ·refine .go 5 ?_
  refine .q .ro (.build [_] [(0, _)] ty45 pl45 rfl rfl) rfl ?_
  obtain ⟨u9, hu9, r10⟩ := X0 r8
  refine .cV [_] Tryz.call72 (X3r mcs  hu9) ?_
  refine .go 7 ?_
  refine .block (.go 5 ?_)
  refine .kR (fun y => y = ⟨[(33, .bool (decide ((x2 < 0) ∨ ((x1.length : Int) ≤ x2))))], G :: Fs, [], []⟩) [(1, _), (2, _), (3, _), (4, _), (10, _), (11, _)] [_] [0] [] [] 5 ?_ ?_
  ·rintro _ rfl
   refine .gn 2 ?_
   refine .cH r10 (fun c17 r18 => ?_) (fun c17 r19 => ?_)
   ·cases r18
   ·refine .go 6 ?_
    refine .cB r19 (fun c20 r21 => ?_) (fun c20 r22 => ?_)
    ·cases r21
    ·refine .go 9 ?_
     refine .cH r22 (fun c23 r24 => ?_) (fun c23 r25 => ?_)
     ·cases r24
     ·refine .go 4 ?_
      obtain ⟨u26, hu26, r27⟩ := X0 r25
      refine .cV [_, _] Tryz.call73 (X1g mcs s3 hu26) ?_
      refine .go 3 ?_
      refine .cB r27 (fun c30 r31 => ?_) (fun c30 r32 => ?_)
      ·cases r31
      ·refine .go 1 ?_
       refine .drawL (.q 0 (.q 2 (.q 3 (.q 4 (.q 5 (.e 1 1 (.q 6 (.q 7 .nil)))))))) [_] (by kernel_rfl) (by kernel_rfl) (X1 [0] rfl) (.go 3 ?_)
       obtain ⟨u33, hu33, r34⟩ := X0 r32
       obtain ⟨c35, p36, h37⟩ := SlR.get s1 hu33
       obtain rfl := h37
       refine .dq (.idxR s1 rfl rfl hu33 sl22 ty3.sz) rfl (.dq (.load_rp p36 mcs rfl ty3 rfl) rfl ?_)
       obtain ⟨u38, hu38, r39⟩ := X0 r34
       refine .cVd [_] Tryz.call102 (Xd6 mcs s3 hu38) ?_
       refine .clsL (HpLe.refl _) (X1 [0] rfl) (.go 3 ?_)
       refine .cH r39 (fun c42 r43 => ?_) (fun c42 r44 => ?_)
       ·cases r43
       ·refine .go 6 ?_
        cases r44
        refine .drop 1 0 [] _ rfl rfl ?_
        refine .rS [.tmp 8] [_] Tryz.func47 Tryz.results47 ⟨rfl, rfl, rfl⟩
  ·intro hb14
   refine .split 28 rfl (fun c13 => ?_) (fun c13 => ?_)
   ·refine .go 5 ?_
    exact (hb14 _ rfl).ax ⟨X4y c13, rfl, rfl, rfl, rfl, rfl, rfl, trivial⟩
   ·refine .go 9 ?_
    exact (hb14 _ rfl).ax ⟨X4z c13, rfl, rfl, rfl, rfl, rfl, rfl, trivial⟩
theorem Xcm {x0 : Int} {r : Bool} (hG : G ∈ Fs)  (h : X6x x0 = some r) : RetS Tryz.prog 110 #[.int .i64 x0] Fs [] [] (rv (.bool r)) := by
 unfold X6x at h
 try dsimp only at h
 refine RetS.st [(0, _)] Tryz.func110 Tryz.ntmps110 hG fun w0 S0 hS0 B0 => ?_
 refine .go 10 ?_
 cases h
 refine .rS [.tmp 2] [_] Tryz.func110 Tryz.results110 ⟨rfl, rfl, rfl⟩
end Go.Proofs.YtfcicopgdahmcaaGreatDoor
end

section
set_option maxHeartbeats 4000000
set_option maxRecDepth 100000
namespace Go.Proofs.YtfcicopgdahmcaaGreatDoor
open Go.RowKit
set_option linter.unusedSimpArgs false
set_option linter.unusedVariables false
set_option synthInstance.maxSize 2000
set_option synthInstance.maxHeartbeats 400000
variable {Fs : List Hp} {G : Hp} {a3 : Option Addr} {k3 : Nat}
theorem Xec {x0_0 : Int} {x1 : Int} {x2 : Int} {x3 : List (List Int)} {r : (ByteArray × Int)} (hG : G ∈ Fs) (s3 : SlR (Rep.sl ri) G a3 k3 x3) (h : X85 x0_0 x1 x2 x3 = some r) : RetS Tryz.prog 48 #[.agg #[.int .i64 x0_0], .int .i64 x1, .int .i64 x2, .slice a3 x3.length k3] Fs [] [] (rv (.tuple #[.string r.1, .int .i64 r.2])) := by
 unfold X85 at h
 try dsimp only at h
 refine RetS.st [(0, _), (1, _), (2, _), (3, _)] Tryz.func48 Tryz.ntmps48 hG fun w0 S0 hS0 B0 => ?_
 refine .marks0 (.go 2 ?_)
 refine .box [_] .ro rfl rfl rfl (fun b1 hb1 => ?_)
 refine .alloc .ro ty9 rfl (fun b2 hb2 => ?_)
 refine .alloc .ro ty33 rfl (fun b3 hb3 => ?_)
 refine .go 3 ?_
 refine .q .ro (.load_own_a 2 [_] rfl rfl ty45 rfl) rfl ?_
 obtain ⟨u4, hu4, r5⟩ := X0 h
 refine .cV [_] Tryz.call72 (X3r mcs  hu4) ?_
 refine .go 3 ?_
 refine .alloc .ro ty140 rfl (fun b8 hb8 => ?_)
 refine .store 0 [_] [_, _, _, _] .ro rfl rfl rfl ty140 rfl rfl rfl rfl (.go 3 ?_)
 refine .block (.go 6 ?_)
 refine .cB r5 (fun c9 r10 => ?_) (fun c9 r11 => ?_)
 ·refine .go 2 ?_
  refine .store 2 [_] [_, _, _, _] .ro rfl rfl rfl ty9 rfl rfl rfl rfl (.store 1 [_] [_, _, _, _] .ro rfl rfl rfl ty33 rfl rfl rfl rfl (.go 1 ?_))
  cases r10
  refine .out (.inr ⟨_, rfl⟩) rfl (Cov.unmarkAll _ _ ?_)
  refine .outSD 4 [.cell 8 9, .cell 9 33] [_, _] Tryz.func48 Tryz.results48 ⟨RV.cell 2 rfl rfl ty9 rfl, RV.cell 1 rfl rfl ty33 rfl, trivial⟩ mcm ⟨rfl, rfl, rfl⟩
 ·refine .go 3 ?_
  obtain ⟨u12, hu12, r13⟩ := X0 r11
  refine .cV [_] Tryz.call96 (Xb0 mcs  hu12) ?_
  refine .go 2 ?_
  refine .kR (fun y => y = ⟨[(36, .bool (decide (((!u12) = true) ∨ (x2 < 0))))], G :: Fs, [], []⟩) [(1, _), (2, _), (3, _), (8, _), (9, _), (10, _)] [_, _, _, _] [0, 1, 2, 3] [_] [0] 3 ?_ ?_
  ·rintro _ rfl
   refine .gn 1 ?_
   refine .kR (fun y => y = ⟨[(40, .bool (decide ((((!u12) = true) ∨ (x2 < 0)) ∨ (1024 < x2))))], G :: Fs, [], []⟩) [(1, _), (2, _), (3, _), (8, _), (9, _), (10, _)] [_, _, _, _] [0, 1, 2, 3] [_] [0] 3 ?_ ?_
   ·rintro _ rfl
    refine .gn 2 ?_
    refine .cH r13 (fun c24 r25 => ?_) (fun c24 r26 => ?_)
    ·refine .go 2 ?_
     refine .store 2 [_] [_, _, _, _] .ro rfl rfl rfl ty9 rfl rfl rfl rfl (.store 1 [_] [_, _, _, _] .ro rfl rfl rfl ty33 rfl rfl rfl rfl (.go 1 ?_))
     cases r25
     refine .out (.inr ⟨_, rfl⟩) rfl (Cov.unmarkAll _ _ ?_)
     refine .outSD 4 [.cell 8 9, .cell 9 33] [_, _] Tryz.func48 Tryz.results48 ⟨RV.cell 2 rfl rfl ty9 rfl, RV.cell 1 rfl rfl ty33 rfl, trivial⟩ mcm ⟨rfl, rfl, rfl⟩
    ·refine .go 7 ?_
     obtain ⟨u27, hu27, r28⟩ := X0 r26
     refine .cV [_, _, _] Tryz.call97 (Xa0 mcs  hu27) ?_
     refine .go 3 ?_
     refine .cH r28 (fun c31 r32 => ?_) (fun c31 r33 => ?_)
     ·refine .go 2 ?_
      refine .store 2 [_] [_, _, _, _] .ro rfl rfl rfl ty9 rfl rfl rfl rfl (.store 1 [_] [_, _, _, _] .ro rfl rfl rfl ty33 rfl rfl rfl rfl (.go 1 ?_))
      cases r32
      refine .out (.inr ⟨_, rfl⟩) rfl (Cov.unmarkAll _ _ ?_)
      refine .outSD 4 [.cell 8 9, .cell 9 33] [_, _] Tryz.func48 Tryz.results48 ⟨RV.cell 2 rfl rfl ty9 rfl, RV.cell 1 rfl rfl ty33 rfl, trivial⟩ mcm ⟨rfl, rfl, rfl⟩
     ·refine .go 13 ?_
      refine .cutBD (β := List Int × Option Addr × Nat × List Value × Int × Int × ByteArray × Int) (fun y => mks mk0.1) (fun y => [(12, .slice y.2.1 y.1.length y.2.2.1)]) [(2, _), (8, _), (9, _), (10, _)] (fun y => G :: Fs) (fun y => [(b8, .cells #[.int .i64 y.2.2.2.2.1] 140 (0, 0)), (b3, .cells #[.int .i64 y.2.2.2.2.2.1] 33 (0, 0)), (b2, .cells #[.string y.2.2.2.2.2.2.1] 9 (0, 0)), (b1, .cells #[.int .i64 y.2.2.2.2.2.2.2] 45 (0, 0))]) [] (fun y => [.s (.slice y.2.1 y.1.length y.2.2.1) 3 1 y.1.length y.2.2.2.1]) [_] (fun y => OL ri G y.2.2.2.1 y.1 ∧ (X2s x2) y.1 y.2.2.2.2.1 y.2.2.2.2.2.1 y.2.2.2.2.2.2.1 y.2.2.2.2.2.2.2 = some r) ⟨rfl, rfl, rfl, rfl, trivial⟩ [] rfl [0] rfl ?_ ?_
      ·intro y hI
       obtain ⟨v14, a15, k18, cs19, v23, v29, v30, v34⟩ := y
       obtain ⟨o35, r36⟩ := hI
       try dsimp only at o35 r36
       refine .gn 0 ?_
       unfold X2s at r36
       try dsimp only at r36
       refine .go 3 ?_
       obtain ⟨u37, hu37, r38⟩ := X0 r36
       refine .cV [_] Tryz.call106 (X9z mcs  hu37) ?_
       refine .go 4 ?_
       refine .alloc .ro ty123 rfl (fun b39 hb39 => ?_)
       refine .go 8 ?_
       refine .freezeR 0 rfl rfl o35 [_] rfl B0 (fun G40 e41 B42 s43 => ?_)
       obtain ⟨u44, hu44, r46⟩ := X0 r38
       obtain ⟨a47, k49, h50, s52⟩ := SlR.sub s43 hu44
       refine .q .ro (.sliceR s43 rfl hu44 sl22 ty3.sz (fun _ => .no) (fun h => .yes' rfl h) h50) rfl (.go 1 ?_)
       obtain ⟨u53, hu53, r54⟩ := X0 r46
       refine .cW [_, _] Tryz.call107 (X89 mcs s52 hu53) B42 (fun v55 bo so G56 e57 B58 h59 => ?_)
       obtain ⟨F60, c61, rfl, rfl, rfl, hc62, hi63⟩ := h59
       refine .gn 1 ?_
       refine .cutBD (β := Hp × MK × List Int × Option Addr × Nat × List Value) (fun y => mks y.2.1.1) (fun y => []) [(12, _), (2, _), (8, _), (9, _), (15, _), (16, _)] (fun y => y.1 :: Fs) (fun y => [(b39, .cells #[.slice y.2.2.2.1 y.2.2.1.length y.2.2.2.2.1] 123 (0, 0))]) [_, _, _, _] (fun y => [.g (marksG y.2.1), .s (.slice y.2.2.2.1 y.2.2.1.length y.2.2.2.2.1) 5 1 y.2.2.1.length y.2.2.2.2.2]) [] (fun y => HpLe G56 y.1 ∧ Bd w0 S0 Fs y.1 ∧ OL (Rep.int .u8) y.1 y.2.2.2.2.2 y.2.2.1 ∧ (X1i v14 x2 u37) y.2.2.1 = some r) ⟨rfl, rfl, rfl, rfl, rfl, rfl, trivial⟩ [1, 2, 3, 4] rfl [] rfl ?_ ?_
       ·intro y hI
        obtain ⟨G65, mk66, v67, a68, k69, cs70⟩ := y
        obtain ⟨e71, B74, o75, r76⟩ := hI
        try dsimp only at e71 B74 o75 r76
        refine .gn 0 ?_
        unfold X1i at r76
        try dsimp only at r76
        refine .go 7 ?_
        obtain ⟨u77, hu77, r78⟩ := X0 r76
        obtain ⟨a79, k80, h81, s82⟩ := SlR.sub (SlR.mono (HpLe.trans e57 e71) s43) hu77
        refine .q .ro (.sliceR (SlR.mono (HpLe.trans e57 e71) s43) rfl hu77 sl22 ty3.sz (fun h => .yes' rfl h) (fun _ => .no) h81) rfl ?_
        obtain ⟨u83, hu83, r84⟩ := X0 r78
        refine .cV [_, _] Tryz.call109 (X62 mcs s82 Tryz.call110 (fun Fs' G1 hle hm y0 r  hr => Xcm (G := G1) hm   hr) hu83) ?_
        refine .go 1 ?_
        refine .cB r84 (fun c85 r86 => ?_) (fun c85 r87 => ?_)
        ·refine .go 2 ?_
         refine .store 3 [_] [_, _, _, _, _] .ro rfl rfl rfl ty9 rfl rfl rfl rfl (.store 2 [_] [_, _, _, _, _] .ro rfl rfl rfl ty33 rfl rfl rfl rfl (.go 1 ?_))
         cases r86
         refine .pullS 1 rfl [_, _] rfl (.drop 0 1 _ [_] rfl rfl ?_)
         refine .out (.inr ⟨_, rfl⟩) rfl (Cov.unmarkAll _ _ ?_)
         refine .outSD 5 [.cell 8 9, .cell 9 33] [_, _] Tryz.func48 Tryz.results48 ⟨RV.cell 3 rfl rfl ty9 rfl, RV.cell 2 rfl rfl ty33 rfl, trivial⟩ mcm ⟨rfl, rfl, rfl⟩
        ·refine .go 4 ?_
         refine .freezeR 1 rfl rfl o75 [_] rfl B74 (fun G88 e89 B90 s91 => ?_)
         refine .q .ro (.b2s s91 mcs rfl Tryz.underlying123 Tryz.underlying5 Tryz.underlying9) rfl (.store 3 [_] [_, _, _, _, _] .ro rfl rfl rfl ty9 rfl rfl rfl rfl (.store 2 [_] [_, _, _, _, _] .ro rfl rfl rfl ty33 rfl rfl rfl rfl (.go 1 ?_)))
         cases r87
         refine .out (.inr ⟨_, rfl⟩) rfl (Cov.unmarkAll _ _ ?_)
         refine .outSD 5 [.cell 8 9, .cell 9 33] [_, _] Tryz.func48 Tryz.results48 ⟨RV.cell 3 rfl rfl ty9 rfl, RV.cell 2 rfl rfl ty33 rfl, trivial⟩ mcm ⟨rfl, rfl, rfl⟩
       ·intro hb92
        refine .block (.own_nil 5 1 (.pull 3 rfl [_, _, _, _, _] rfl (.pull 3 rfl [_, _, _, _, _] rfl (.pull 3 rfl [_, _, _, _, _] rfl (.pull 3 rfl [_, _, _, _, _] rfl (.emp ?_))))))
        refine .rangeX (α := List Int × Option Addr × Nat × List Value × Hp) (β := List Int × Option Addr × Nat × List Value × Int × ByteArray × Hp) (fun y => [y.2.2.2.2]) (fun y => [(b39, .cells #[.slice y.2.1 y.1.length y.2.2.1] 123 (0, 0)), (b8, .cells #[.int .i64 v23] 140 (0, 0)), (b3, .cells #[.int .i64 v29] 33 (0, 0)), (b2, .cells #[.string v30] 9 (0, 0))]) (fun y => [.s (.slice y.2.1 y.1.length y.2.2.1) 5 1 y.1.length y.2.2.2.1]) (fun y => [y.2.2.2.2.2.2]) (fun y => [(b39, .cells #[.slice y.2.1 y.1.length y.2.2.1] 123 (0, 0)), (b8, .cells #[.int .i64 v23] 140 (0, 0)), (b3, .cells #[.int .i64 y.2.2.2.2.1] 33 (0, 0)), (b2, .cells #[.string y.2.2.2.2.2.1] 9 (0, 0))]) (fun y => [.s (.slice y.2.1 y.1.length y.2.2.1) 5 1 y.1.length y.2.2.2.1]) (fun _ => .ret) (fun i y => (∀ G', HpLe G56 G' → HpLe y.2.2.2.2 G' → OL (Rep.int .u8) G' y.2.2.2.1 y.1) ∧ Xz (X1i v14 x2 u37) v23 (List.drop i u53) y.1 = some r) (fun y => (∀ G', HpLe G56 G' → HpLe y.2.2.2.2.2.2 G' → OL (Rep.int .u8) G' y.2.2.2.1 y.1) ∧ some (y.2.2.2.2.2.1, y.2.2.2.2.1) = some r) (([] : List Int), none, 0, [], empHp)  c61 rfl rfl hc62 rfl (fun G hG b => by rw [List.mem_singleton.1 hG]; rfl) rfl rfl (hi63 _ G56 (HpLe.refl _) mcs) (fun _ _ hv => by obtain ⟨_, _, hv⟩ := hv; exact (Yr.len _ hv).trans rfl) (by kernel_rfl) ⟨(fun G' h1 _ => OL.mono h1 (OL.nil (Rp' := (Rep.int .u8)))), r54⟩ ?_ ?_ ?_
        ·intro l93 tm94 D95 i98 y v99 hV100 hI w101 S102 hw103
         obtain ⟨v104, a105, k111, cs112, G113⟩ := y
         obtain ⟨o114, r115⟩ := hI
         try dsimp only at o114 r115
         obtain ⟨x116, h117, h118⟩ := hV100
         refine .union (Fin := (G113 :: G56 :: Fs)) Xby (fun G119 e120 B121 => ?_)
         have e122 : HpLe G56 G119 := X92 e120 (List.mem_cons_of_mem _ mcs)
         have e124 : HpLe G113 G119 := X92 e120 mcs
         replace o114 := o114 G119 e122 e124
         obtain ⟨v125, rfl, h126⟩ := h118
         obtain ⟨a127, k128, h129, s130⟩ := h126
         obtain ⟨rfl, _⟩ := List.cons.inj h129
         rw [Xad h117] at r115
         have r131 : X60 (X1i v14 x2 u37) v23 (Xz (X1i v14 x2 u37) v23 (List.drop (i98 + 1) u53)) x116 v104 = some r := r115; clear r115; unfold X60 at r131; try dsimp only at r131
         refine .gn 3 ?_
         refine .beginRound 4 rfl rfl [_, _, _, _, _] rfl (.block (.go 2 ?_))
         refine .alloc .ro ty3 rfl (fun b132 hb132 => ?_)
         refine .store 0 [_] [_, _, _, _, _, _] .ro rfl rfl rfl ty3 rfl rfl rfl rfl (.go 5 ?_)
         obtain ⟨u133, hu133, r134⟩ := X0 r131
         refine .cW [_] Tryz.call108 (X6o mcs (SlR.mono e122 s130) hu133) B121 (fun v135 bo so G136 e137 B138 h139 => ?_)
         obtain ⟨F141, c142, rfl, rfl, rfl, hc143, hi144⟩ := h139
         refine .gn 1 ?_
         refine .kB (fun y => ∃ (Z0 : _), y = ⟨[], G136 :: (G113 :: G56 :: Fs), [(b132, .cells #[.int .i64 Z0] 3 (0, 0))], []⟩ ∧ (X2q (Xz (X1i v14 x2 u37) v23 (List.drop (i98 + 1) u53)) v104) Z0 = some r) [(8, _), (9, _), (16, _), (18, _)] [_, _, _, _, _] [1, 2, 3, 4, 5] [_] [0] ?_ ?_
         ·rintro _ ⟨v145, rfl, r146⟩
          refine .gn 0 ?_
          unfold X2q at r146
          try dsimp only at r146
          refine .go 6 ?_
          refine .cH r146 (fun c147 r148 => ?_) (fun c147 r149 => ?_)
          ·refine .go 2 ?_
           refine .store 4 [_] [_, _, _, _, _, _] .ro rfl rfl rfl ty9 rfl rfl rfl rfl (.store 3 [_] [_, _, _, _, _, _] .ro rfl rfl rfl ty33 rfl rfl rfl rfl (.go 1 ?_))
           refine .drop 1 0 [_, _, _, _, _] _ rfl rfl ?_
           refine .round_ret (v104, a105, k111, cs112, 2, ByteArray.empty, G136) 4 rfl rfl ⟨(fun G' _ h2 => OL.mono h2 (OL.mono e137 o114)), r148⟩ rfl rfl rfl (fun F hF => by rcases List.mem_cons.1 hF with rfl | hF; exact mcs; exact List.mem_cons_of_mem _ (List.mem_cons_of_mem _ hF)) (fun F hF => by rw [List.mem_singleton.1 hF]; exact B138)
          ·refine .go 4 ?_
           refine .q .ro (.convw Tryz.underlying3 Tryz.underlying5 rfl) rfl ?_
           refine .lit [_] [(0, _)] .ro sl123 ty5 rfl rfl rfl rfl rfl rfl (fun b150 hb150 => ?_)
           have o151 : OL (Rep.int .u8) G136 [.int .u8 (wu8 v145)] ([(wu8 v145)] : List Int) := ((OL.cons rfl (Rep.intI .u8 (wu8 v145)) (OL.nil (Rp' := (Rep.int .u8)))) :)
           refine .reval 93 (n' := ([(wu8 v145)] : List Int).length) rfl rfl ?_
           obtain ⟨u152, hu152, r153⟩ := X0 r149
           refine .appO (Q := (Rep.int .u8)) 0 .ro sl123 ty5 rfl rfl rfl rfl rfl rfl (OL.mono e137 o114) o151 rfl rfl rfl B138 hu152 rfl (fun a154 k155 cs156 o157 => ?_)
           refine .store 1 [_] [_, _, _, _, _, _] .ro rfl rfl rfl ty123 rfl rfl rfl rfl (.go 2 ?_)
           refine .drop 1 0 [_, _, _, _, _] _ rfl rfl ?_
           refine .round_endX (u152, a154, k155, cs156, G136) 4 rfl rfl ⟨(fun G' _ h2 => OL.mono h2 o157), r153⟩ rfl rfl (fun F hF => by rcases List.mem_cons.1 hF with rfl | hF; exact mcs; exact List.mem_cons_of_mem _ (List.mem_cons_of_mem _ hF)) (fun F hF => by rw [List.mem_singleton.1 hF]; exact B138)
         ·intro hb158
          refine .block (.pull 2 rfl [_, _, _, _, _, _] rfl (.pull 1 rfl [_, _, _, _, _, _] rfl ?_))
          refine .rangeN (α := Int) (β := Unit) (fun y => []) (fun y => [(b132, .cells #[.int .i64 y] 3 (0, 0)), (b8, .cells #[.int .i64 v23] 140 (0, 0))]) (fun y => []) (fun _ => []) (fun _ => []) (fun _ => []) (fun _ => .skip) (fun i y => X2r (X2q (Xz (X1i v14 x2 u37) v23 (List.drop (i98 + 1) u53)) v104) v23 (List.drop i u133) y = some r) (fun _ => False) (0) 5 c142 rfl rfl rfl hc143 rfl (by simp) rfl rfl (hi144 _ G136 (HpLe.refl _) mcs) (fun _ _ hv => by obtain ⟨_, _, hv⟩ := hv; exact (Yr.len _ hv).trans rfl) (by kernel_rfl) r134 ?_ ?_ (fun _ h => h.elim)
          ·intro l159 tm160 D161 i162 v163 v164 hV165 hI w166 S167 hw168
           have r169 := hI; clear hI
           obtain ⟨x170, h171, h172⟩ := hV165
           refine .dup (G := G136) mcs ?_
           obtain ⟨_, _, rfl, h173, h174⟩ := h172
           obtain ⟨v175, rfl, h176⟩ := h173
           obtain ⟨rfl, _⟩ := List.cons.inj h176
           obtain ⟨v177, rfl, h178⟩ := h174
           obtain ⟨rfl, _⟩ := List.cons.inj h178
           rw [Xad h171] at r169
           have r179 : X5z (X2q (Xz (X1i v14 x2 u37) v23 (List.drop (i98 + 1) u53)) v104) v23 (X2r (X2q (Xz (X1i v14 x2 u37) v23 (List.drop (i98 + 1) u53)) v104) v23 (List.drop (i162 + 1) u133)) x170 v163 = some r := r169; clear r169; unfold X5z at r179; try dsimp only at r179
           refine .gn 3 ?_
           refine .beginRound 2 rfl rfl [_, _, _] rfl (.block (.go 6 ?_))
           refine .store 0 [_] [_, _, _] .ro rfl rfl rfl ty3 rfl rfl rfl rfl (.go 2 ?_)
           refine .round_endX ((w64 ((w64 (v163 * v23)) + x170.2))) 2 rfl rfl r179 rfl rfl (fun F hF => List.mem_cons_of_mem _ hF) (by simp)
          ·intro v163 hI hb180
           have r169 := hI; clear hI
           refine .gn 0 ?_
           rw [List.drop_length] at r169; rw [X2r] at r169; try dsimp only at r169
           refine .go 1 ?_
           refine .pull 5 rfl [_, _, _, _, _, _] rfl (.pull 5 rfl [_, _, _, _, _, _] rfl (.pull 5 rfl [_, _, _, _, _, _] rfl (.pull 4 rfl [_, _, _, _, _, _] rfl (.pull 5 rfl [_, _, _, _, _, _] rfl (.pull 5 rfl [_, _, _, _, _, _] rfl ?_)))))
           exact (hb158 _ ⟨(v163), rfl, r169⟩).ar
        ·intro q181 y hI hb182
         obtain ⟨v104, a105, k111, cs112, G113⟩ := y
         obtain ⟨o114, r115⟩ := hI
         try dsimp only at o114 r115
         refine .union (Fin := Fs) (X7c (Bd.trans (hb182 _ mcs) B58) (X7c B58 Xby)) (fun G183 e184 B185 => ?_)
         have e186 : HpLe G56 G183 := X92 e184 (List.mem_cons_of_mem _ mcs)
         have e187 : HpLe G113 G183 := X92 e184 mcs
         replace o114 := o114 G183 e186 e187
         refine .less (G183 :: Fs) (fun F hF => by rcases List.mem_cons.1 hF with rfl | hF; exact mcs; exact List.mem_cons_of_mem _ (List.mem_cons_of_mem _ (List.mem_cons_of_mem _ hF))) (.gn 0 ?_)
         refine .pullS 1 rfl [_, _] rfl ?_
         refine .mkmerge 4 rfl [_, _, _, _, _] rfl (fun mk188 => ?_)
         rw [List.drop_length] at r115; rw [Xz] at r115; try dsimp only at r115
         refine .go 1 ?_
         exact .arr (hb92 (G183, mk188, v104, a105, k111, cs112) ⟨e186, B185, o114, r115⟩) ⟨rfl, rfl, rfl, rfl, rfl, rfl, trivial⟩
        ·intro q181 y hI hb182
         obtain ⟨x189, a190, k191, cs192, x193, x194, G195⟩ := y
         obtain ⟨o196, r115⟩ := hI
         try dsimp only at o196 r115
         refine .union (Fin := Fs) (X7c (Bd.trans (hb182 _ mcs) B58) (X7c B58 Xby)) (fun G197 e198 B199 => ?_)
         have e200 : HpLe G56 G197 := X92 e198 (List.mem_cons_of_mem _ mcs)
         have e201 : HpLe G195 G197 := X92 e198 mcs
         replace o196 := o196 G197 e200 e201
         refine .less (G197 :: Fs) (fun F hF => by rcases List.mem_cons.1 hF with rfl | hF; exact mcs; exact List.mem_cons_of_mem _ (List.mem_cons_of_mem _ (List.mem_cons_of_mem _ hF))) (.gn 0 ?_)
         refine .pullS 1 rfl [_, _] rfl ?_
         refine .mkmerge 4 rfl [_, _, _, _, _] rfl (fun mk202 => ?_)
         cases r115
         refine .pullS 1 rfl [_, _] rfl (.drop 0 1 _ [_] rfl rfl ?_)
         refine .out (.inr ⟨_, rfl⟩) rfl (Cov.unmarkAll _ _ ?_)
         refine .outSD 5 [.cell 8 9, .cell 9 33] [_, _] Tryz.func48 Tryz.results48 ⟨RV.cell 3 rfl rfl ty9 rfl, RV.cell 2 rfl rfl ty33 rfl, trivial⟩ mcm ⟨rfl, rfl, rfl⟩
      ·intro hb203
       refine .block (.own_nil 3 1 ?_)
       refine .loopD (β := Nat × List (List Int) × List Int × Option Addr × Nat × List Value) (fun y => mks mk0.1) (fun y => [(12, .slice y.2.2.2.1 y.2.2.1.length y.2.2.2.2.1), (51, .int .i64 (y.1 : Int))]) [(1, _), (2, _), (8, _), (9, _), (10, _), (49, _), (50, _)] (fun y => []) (fun y => []) [_, _, _, _] (fun y => [.s (.slice y.2.2.2.1 y.2.2.1.length y.2.2.2.2.1) 3 1 y.2.2.1.length y.2.2.2.2.2]) [_] (fun y => OL ri G y.2.2.2.2.2 y.2.2.1 ∧ List.drop y.1 x3 = y.2.1 ∧ X2t (X2s x2) x1 u4.1 x0_0 y.2.1 y.2.2.1 = some r) (fun y => y.2.1.length) (0, x3, ([] : List Int), none, 0, []) ⟨(OL.nil (Rp' := ri)), rfl, r33⟩ rfl ⟨rfl, rfl, rfl, rfl, rfl, rfl, rfl, rfl, rfl, trivial⟩ rfl rfl rfl (fun y hI hb204 => ?_)
       obtain ⟨i205, w206, v207, a208, k209, cs210⟩ := y
       obtain ⟨o211, g212, r213⟩ := hI
       try dsimp only at o211 g212 r213
       refine .gn 0 ?_
       cases w206 with
       | nil =>
        rw [X2t] at r213; try dsimp only at r213
        refine .go 5 ?_
        refine .cond_dec rfl (fun c => absurd c (Xl g212)) (fun _ => ?_)
        refine .exit rfl ?_
        exact .arr (hb203 (v207, a208, k209, cs210, u4.1, 0, ByteArray.empty, x0_0) ⟨o211, r213⟩) ⟨rfl, rfl, rfl, rfl, rfl, trivial⟩
       | cons x214 xs215 =>
        have r216 : X61 (X2s x2) x1 u4.1 x0_0 (X2t (X2s x2) x1 u4.1 x0_0 xs215) x214 v207 = some r := r213; clear r213; unfold X61 at r216; try dsimp only at r216
        refine .go 5 ?_
        refine .cond_dec rfl (fun _ => ?_) (fun c => absurd (X15 g212) c)
        refine .go 2 ?_
        refine .block (.go 2 ?_)
        obtain ⟨c217, p218, h219⟩ := SlR.get s3 (X3 g212)
        obtain ⟨a220, k221, rfl, s222⟩ := h219
        refine .q .ro (.idxR s3 rfl rfl (X3 g212) sl51 ty22.sz) rfl (.q .ro (.load_rp p218 mcs rfl ty22 rfl) rfl (.go 10 ?_))
        obtain ⟨u223, h224, r225⟩ := X0 r216
        refine .kR (fun y => y = ⟨[(64, .bool u223)], G :: Fs, [], []⟩) [(12, _), (51, _), (1, _), (2, _), (8, _), (9, _), (10, _), (49, _), (50, _), (14, _)] [_, _, _, _] [0, 1, 2, 3] [_, _] [0, 1] 5 ?_ ?_
        ·rintro _ rfl
         refine .gn 1 ?_
         refine .cB r225 (fun c226 r227 => ?_) (fun c226 r228 => ?_)
         ·refine .go 2 ?_
          refine .store 2 [_] [_, _, _, _] .ro rfl rfl rfl ty9 rfl rfl rfl rfl (.store 1 [_] [_, _, _, _] .ro rfl rfl rfl ty33 rfl rfl rfl rfl (.go 1 ?_))
          cases r227
          refine .drop 0 1 _ [_] rfl rfl ?_
          refine .out (.inr ⟨_, rfl⟩) rfl (Cov.unmarkAll _ _ ?_)
          refine .outSD 4 [.cell 8 9, .cell 9 33] [_, _] Tryz.func48 Tryz.results48 ⟨RV.cell 2 rfl rfl ty9 rfl, RV.cell 1 rfl rfl ty33 rfl, trivial⟩ mcm ⟨rfl, rfl, rfl⟩
         ·refine .go 4 ?_
          obtain ⟨u229, hu229, r230⟩ := X0 r228
          refine .appR (Q := ri) 0 .ro sl22 ty3 rfl rfl rfl rfl rfl o211 rfl rfl s222 rfl mcs hu229 rfl (fun a231 k232 cs233 o234 => ?_)
          refine .go 7 ?_
          exact .arr (hb204 ((i205 + 1), xs215, u229, a231, k232, cs233) ⟨o234, (X4 g212), r230⟩ (Nat.lt_succ_self _)) ⟨rfl, (congrArg (fun z => some (Value.int .i64 z)) (X5 (SlR.len s3) g212)), rfl, rfl, rfl, rfl, rfl, rfl, rfl, trivial⟩
        ·intro hb235
         refine .split 59 rfl (fun c236 => ?_) (fun c236 => ?_)
         ·have r237 := ifT h224 c236
          refine .go 5 ?_
          exact (hb235 _ rfl).ax ⟨sval r237, rfl, rfl, rfl, rfl, rfl, rfl, rfl, rfl, rfl, rfl, trivial⟩
         ·have r238 := ifF h224 c236
          refine .go 5 ?_
          obtain ⟨u239, hu239, r240⟩ := X0 r238
          refine .cV [_, _] Tryz.call73 (X1g mcs s222 hu239) ?_
          refine .go 3 ?_
          exact (hb235 _ rfl).ax ⟨sval r240, rfl, rfl, rfl, rfl, rfl, rfl, rfl, rfl, rfl, rfl, trivial⟩
   ·intro hb21
    refine .split 37 rfl (fun c20 => ?_) (fun c20 => ?_)
    ·refine .go 3 ?_
     exact (hb21 _ rfl).ax ⟨X4y c20, rfl, rfl, rfl, rfl, rfl, rfl, trivial⟩
    ·refine .go 5 ?_
     exact (hb21 _ rfl).ax ⟨X4z c20, rfl, rfl, rfl, rfl, rfl, rfl, trivial⟩
  ·intro hb17
   refine .split_b 33 rfl (fun c16 => ?_) (fun c16 => ?_)
   ·refine .go 3 ?_
    exact (hb17 _ rfl).ax ⟨X4y c16, rfl, rfl, rfl, rfl, rfl, rfl, trivial⟩
   ·refine .go 5 ?_
    exact (hb17 _ rfl).ax ⟨X4z (Xd2 c16), rfl, rfl, rfl, rfl, rfl, rfl, trivial⟩
end Go.Proofs.YtfcicopgdahmcaaGreatDoor
end

section
set_option maxHeartbeats 4000000
set_option maxRecDepth 100000
namespace Go.Proofs.YtfcicopgdahmcaaGreatDoor
open Go.RowKit
set_option linter.unusedSimpArgs false
set_option linter.unusedVariables false
set_option synthInstance.maxSize 2000
set_option synthInstance.maxHeartbeats 400000
variable {Fs : List Hp} {G : Hp} {a0 : Option Addr} {k0 : Nat}
theorem Xdd {x0 : List Int} {x1 : Int} {r : Bool} (hG : G ∈ Fs) (hg0 : Rp G (.pointer (some ⟨0, 0, none⟩)) [ifc233 (some 12)]) (s0 : SlR ri G a0 k0 x0) (h : X8q x0 x1 = some r) : RetS Tryz.prog 6 #[.slice a0 x0.length k0, .int .u8 x1] Fs [] [] (rv (.bool r)) := by
 unfold X8q at h
 try dsimp only at h
 refine RetS.st [(0, _), (1, _)] Tryz.func6 Tryz.ntmps6 hG fun w0 S0 hS0 B0 => ?_
 refine .go 7 ?_
 obtain ⟨u1, hu1, r2⟩ := X0 h
 refine .cV [] Tryz.call7 (Xhl mcs hg0 hu1) ?_
 refine .go 2 ?_
 refine .cB r2 (fun c5 r6 => ?_) (fun c5 r7 => ?_)
 ·refine .go 4 ?_
  cases r6
  refine .rS [.tmp 4] [_] Tryz.func6 Tryz.results6 ⟨rfl, rfl, rfl⟩
 ·refine .go 5 ?_
  obtain ⟨u8, hu8, r9⟩ := X0 r7
  refine .cV [_] Tryz.call8 (Xj9 mcs s0 hu8) ?_
  refine .go 2 ?_
  refine .cB r9 (fun c12 r13 => ?_) (fun c12 r14 => ?_)
  ·refine .go 4 ?_
   cases r13
   refine .rS [.tmp 4] [_] Tryz.func6 Tryz.results6 ⟨rfl, rfl, rfl⟩
  ·refine .go 4 ?_
   obtain ⟨u15, hu15, r16⟩ := X0 r14
   refine .cS [_] Tryz.call9 (Xja mcs s0 hu15) (fun v18 bo so h17 => ?_)
   obtain ⟨a20, k21, b19, rfl, rfl, rfl, s22⟩ := h17
   refine .gn 5 ?_
   obtain ⟨u23, hu23, r24⟩ := X0 r16
   refine .callW (b1 := [_]) (b2 := []) (s1 := []) [_] [] .ro rfl rfl Tryz.call37 rfl rfl (Xhm mcs s22 hu23) rfl B0 (fun v26 bo so G27 e28 B29 h25 => ?_)
   obtain ⟨a31, k32, rfl, rfl, rfl, s33⟩ := h25
   refine .gn 3 ?_
   refine .alloc .ro ty45 rfl (fun b34 hb34 => ?_)
   refine .alloc .ro ty69 rfl (fun b35 hb35 => ?_)
   refine .store 1 [_] [_, _, _] .ro rfl rfl rfl ty45 rfl rfl rfl rfl (.store 0 [_, _] [_, _, _] .ro rfl rfl rfl ty69 rfl rfl rfl rfl (.go 4 ?_))
   obtain ⟨u36, hu36, r37⟩ := X0 r24
   refine .pull 2 rfl [_, _, _] rfl ?_
   refine .callW (b1 := [_]) (b2 := [_, _]) (s1 := []) [_] [] .ro rfl rfl Tryz.call38 rfl rfl (Xex mcs s33 hu36) rfl B29 (fun v39 bo so G40 e41 B42 h38 => ?_)
   obtain ⟨a49, k50, a45, k46, cs47, rfl, rfl, rfl, s51, o48⟩ := h38
   refine .gn 0 ?_
   refine .lit [_] [(0, _)] .ro sl27 ty9 rfl rfl rfl rfl rfl rfl (fun b52 hb52 => ?_)
   have o53 : OL Rep.str G40 [.string ⟨#[108, 97, 115, 116]⟩] ([⟨#[108, 97, 115, 116]⟩] : List ByteArray) := ((OL.cons rfl (Rep.strI ⟨#[108, 97, 115, 116]⟩) (OL.nil (Rp' := Rep.str))) :)
   refine .reval 46 (n' := ([⟨#[108, 97, 115, 116]⟩] : List ByteArray).length) rfl rfl ?_
   obtain ⟨u59, hu59, r60⟩ := X0 r37
   refine .appO (Q := Rep.str) 0 .ro sl27 ty9 rfl rfl rfl rfl rfl rfl o48 o53 rfl rfl rfl B42 hu59 rfl (fun a55 k56 cs57 o58 => ?_)
   refine .go 5 ?_
   obtain ⟨u62, hu62, r63⟩ := X0 r60
   refine .callS (b1 := [_]) (b2 := [_, _]) (s1 := []) [_, _] [] .ro rfl rfl Tryz.call18 rfl rfl (X10 mcs s51 hu62) rfl (fun v65 bo so h64 => ?_)
   obtain ⟨a66, k67, rfl, rfl, rfl, s68⟩ := h64
   refine .gn 5 ?_
   refine .q .ro (.load_own_a 2 [_] rfl rfl ty45 rfl) rfl (.go 2 ?_)
   refine .freezeR 0 rfl rfl o58 [] rfl B42 (fun G69 e70 B71 s72 => ?_)
   obtain ⟨u74, hu74, r75⟩ := X0 r63
   refine .cW [_, _, _] Tryz.call39 (Xea mcs s72 hu74) B71 (fun v77 bo so G78 e79 B80 h76 => ?_)
   obtain ⟨a82, k83, a85, k86, rfl, rfl, rfl, s84, s87⟩ := h76
   refine .gn 4 ?_
   refine .alloc .ro ty96 rfl (fun b88 hb88 => ?_)
   refine .go 1 ?_
   refine .store 0 [_, _] [_, _, _, _] .ro rfl rfl rfl ty96 rfl rfl rfl rfl (.go 4 ?_)
   refine .q .ro (.load_own_a 3 [_] rfl rfl ty45 rfl) rfl (.go 2 ?_)
   obtain ⟨u89, hu89, r90⟩ := X0 r75
   refine .cW [_, _, _, _] Tryz.call40 (Xho mcs s84 hu89) B80 (fun v92 bo so G93 e94 B95 h91 => ?_)
   obtain ⟨a97, k98, rfl, rfl, rfl, s99⟩ := h91
   refine .gn 3 ?_
   refine .alloc .ro ty100 rfl (fun b11 hb11 => ?_)
   refine .store 0 [_, _, _, _] [_, _, _, _, _] .ro rfl rfl rfl ty100 rfl rfl rfl rfl (.go 4 ?_)
   refine .q .ro (.load_own_a 0 [_, _, _, _] rfl rfl ty100 rfl) rfl ?_
   obtain ⟨u30, hu30, r54⟩ := X0 r90
   refine .cV [_] Tryz.call41 (Xgv mcs s99 hu30) ?_
   refine .go 3 ?_
   refine .alloc .ro ty104 rfl (fun b61 hb61 => ?_)
   refine .store 0 [_, _, _, _, _] [_, _, _, _, _, _] .ro rfl rfl rfl ty104 rfl rfl rfl rfl (.go 4 ?_)
   refine .q .ro (.load_own_a 1 [_, _, _, _] rfl rfl ty100 rfl) rfl ?_
   obtain ⟨u73, hu73, r81⟩ := X0 r54
   refine .cS [_] Tryz.call42 (Xbo mcs s99 hu73) (fun v100 bo so h101 => ?_)
   obtain ⟨a102, k103, cs105, rfl, rfl, rfl, o106⟩ := h101
   refine .gn 18 ?_
   refine .freezeR 0 rfl rfl o106 [] rfl B95 (fun G107 e108 B109 s110 => ?_)
   obtain ⟨u111, h112, r113⟩ := X0 r81
   refine .kR (fun y => y = ⟨[(89, .bool u111)], G107 :: Fs, [], []⟩) [(1, _), (5, _), (6, _), (7, _), (8, _), (9, _), (11, _), (10, _), (15, _), (17, _)] [_, _, _, _, _, _] [0, 1, 2, 3, 4, 5] [] [] 5 ?_ ?_
   ·rintro _ rfl
    refine .gn 1 ?_
    refine .kR (fun y => y = ⟨[(94, .bool (decide ((u111 = true) ∨ (60 < (u74.1.length : Int)))))], G107 :: Fs, [], []⟩) [(1, _), (5, _), (6, _), (7, _), (8, _), (9, _), (11, _), (10, _), (15, _), (17, _)] [_, _, _, _, _, _] [0, 1, 2, 3, 4, 5] [] [] 4 ?_ ?_
    ·rintro _ rfl
     refine .gn 1 ?_
     refine .cH r113 (fun c114 r116 => ?_) (fun c114 r117 => ?_)
     ·refine .go 7 ?_
      cases r116
      refine .drop 6 0 [] _ rfl rfl ?_
      refine .rS [.tmp 4] [_] Tryz.func6 Tryz.results6 ⟨rfl, rfl, rfl⟩
     ·refine .go 4 ?_
      refine .q .ro (.convw Tryz.underlying5 Tryz.underlying3 rfl) rfl (.go 2 ?_)
      obtain ⟨u118, hu118, r119⟩ := X0 r117
      refine .q .ro (.remt rfl rfl (X6z hu118)) rfl (.go 4 ?_)
      refine .q .ro (.load_own_a 2 [_, _] rfl rfl ty96 rfl) rfl (.go 3 ?_)
      obtain ⟨u120, hu120, r121⟩ := X0 r119
      refine .cS [_, _, _] Tryz.call44 (Xf1 mcs (SlR.mono (HpLe.trans e94 e108) s87) hu120) (fun v122 bo so h123 => ?_)
      obtain ⟨a124, k125, cs126, rfl, rfl, rfl, o127⟩ := h123
      refine .gn 12 ?_
      obtain ⟨u128, h129, r130⟩ := X0 r121
      refine .kR (fun y => y = ⟨[(119, .bool u128)], G107 :: Fs, [], []⟩) [(5, _), (6, _), (7, _), (8, _), (9, _), (11, _), (10, _), (15, _), (17, _), (19, _), (20, _)] [_, _, _, _, _, _] [0, 1, 2, 3, 4, 5] [_] [0] 6 ?_ ?_
      ·rintro _ rfl
       refine .gn 1 ?_
       refine .cB r130 (fun c131 r132 => ?_) (fun c131 r133 => ?_)
       ·refine .go 4 ?_
        cases r132
        refine .drop 6 0 [] _ rfl rfl (.drop 0 1 _ [] rfl rfl ?_)
        refine .rS [.tmp 4] [_] Tryz.func6 Tryz.results6 ⟨rfl, rfl, rfl⟩
       ·refine .go 12 ?_
        refine .kB (fun y => ∃ (Z0 : _) (Z1 : List (List Int)) (Z2 : _) (Z3 : Nat) (Z4 : _) (Z5 : List Int) (Z6 : _) (Z7 : Nat) (Z8 : _), y = ⟨[(22, .slice Z2 Z1.length Z3)], Z0 :: Fs, [(b19, .cells #[.slice Z6 Z5.length Z7, .int .i64 Z8] 121 (0, 0))], [.s (.slice Z2 Z1.length Z3) 22 1 Z1.length Z4]⟩ ∧ HpLe G107 Z0 ∧ Bd w0 S0 Fs Z0 ∧ OL (Rep.sl ri) Z0 Z4 Z1 ∧ SlR ri Z0 Z6 Z7 Z5 ∧ (X2e u59 (w64 (1 + u62.1)) (Int.tmod (w64 x1) (u59.length : Int)) u74.2.1.2 u23.1) Z1 Z5 Z8 = some r) [(6, _), (8, _), (9, _), (11, _), (19, _)] [_, _, _, _, _] [0, 1, 2, 4, 5] [_] [0] ?_ ?_
        ·rintro _ ⟨G134, v135, a136, k137, cs138, v139, a140, k141, v142, rfl, e143, B144, o145, s146, r147⟩
         refine .gn 0 ?_
         unfold X2e at r147
         try dsimp only at r147
         refine .go 6 ?_
         obtain ⟨u148, hu148, r149⟩ := X0 r147
         obtain ⟨c150, p151, h152⟩ := SlR.get (SlR.mono (HpLe.trans (HpLe.trans e94 e108) e143) s87) hu148
         obtain ⟨_, _, rfl, rfl, _, _, rfl, rfl, rfl⟩ := h152
         refine .q .ro (.idxR (SlR.mono (HpLe.trans (HpLe.trans e94 e108) e143) s87) rfl rfl hu148 sl94 ty115.sz) rfl (.q .ro (.fieldAddr_rp p151 rfl Xfy ty3.sz) rfl (.q .ro (.load_rp (p151.add _) mcs rfl ty3 rfl) rfl (.go 2 ?_)))
         refine .cH r149 (fun c153 r154 => ?_) (fun c153 r155 => ?_)
         ·refine .go 4 ?_
          cases r154
          refine .drop 6 0 [] _ rfl rfl (.drop 0 2 _ [] rfl rfl ?_)
          refine .rS [.tmp 4] [_] Tryz.func6 Tryz.results6 ⟨rfl, rfl, rfl⟩
         ·refine .go 2 ?_
          refine .freezeR 0 rfl rfl o145 [_] rfl B144 (fun G156 e157 B158 s159 => ?_)
          refine .drawL (.q 0 (.q 1 (.q 2 (.q 3 (.q 4 (.q 5 (.q 6 (.q 7 (.e 8 1 (.q 9 (.q 10 (.q 11 (.q 12 (.q 13 .nil)))))))))))))) [_, _, _, _, _, _] (by kernel_rfl) (by kernel_rfl) (X1 [0, 1, 2, 3, 4, 5] rfl) (.dq (.load_own_a 5 [_] rfl rfl ty45 rfl) rfl (.go 3 ?_))
          obtain ⟨u160, hu160, r161⟩ := X0 r155
          obtain ⟨c162, p163, h164⟩ := SlR.get (SlR.mono (HpLe.trans (HpLe.trans (HpLe.trans (HpLe.trans e79 e94) e108) e143) e157) s72) hu160
          obtain rfl := h164
          refine .dq (.idxR (SlR.mono (HpLe.trans (HpLe.trans (HpLe.trans (HpLe.trans e79 e94) e108) e143) e157) s72) rfl rfl hu160 sl27 ty9.sz) rfl (.dq (.load_rp p163 mcs rfl ty9 rfl) rfl (.dq (.len_s rfl Tryz.underlying9) rfl (.go 1 ?_)))
          obtain ⟨u165, hu165, r166⟩ := X0 r161
          refine .cVd [_, _, _, _] Tryz.call48 (Xec mcs s159 hu165) ?_
          refine .clsL (HpLe.refl _) (X1 [0, 1, 2, 3, 4, 5] rfl) (.go 11 ?_)
          obtain ⟨u167, h168, r169⟩ := X0 r166
          refine .kR (fun y => y = ⟨[(208, .bool u167)], G156 :: Fs, [], []⟩) [] [_, _, _, _, _, _] [0, 1, 2, 3, 4, 5] [_] [0] 7 ?_ ?_
          ·rintro _ rfl
           refine .gn 2 ?_
           cases r169
           refine .drop 6 0 [] _ rfl rfl (.drop 0 1 _ [] rfl rfl ?_)
           refine .rS [.tmp 4] [_] Tryz.func6 Tryz.results6 ⟨rfl, rfl, rfl⟩
          ·intro hb170
           refine .split 201 rfl (fun c171 => ?_) (fun c171 => ?_)
           ·have r172 := ifT h168 c171
            refine .go 7 ?_
            obtain ⟨u173, hu173, r174⟩ := X0 r172
            obtain ⟨c175, p176, h177⟩ := SlR.get (SlR.mono (HpLe.trans (HpLe.trans (HpLe.trans (HpLe.trans e79 e94) e108) e143) e157) s72) hu173
            obtain rfl := h177
            refine .q .ro (.idxR (SlR.mono (HpLe.trans (HpLe.trans (HpLe.trans (HpLe.trans e79 e94) e108) e143) e157) s72) rfl rfl hu173 sl27 ty9.sz) rfl (.go 1 ?_)
            refine .q .ro (.load_rp p176 mcs rfl ty9 rfl) rfl (.go 1 ?_)
            refine .q .ro (.eql_s rfl rfl) rfl (.go 1 ?_)
            exact (hb170 _ rfl).ax ⟨sval r174, trivial⟩
           ·have r178 := ifF h168 c171
            refine .go 7 ?_
            exact (hb170 _ rfl).ax ⟨sval r178, trivial⟩
        ·intro hb179
         refine .block (.own_nil 22 1 (.pull 3 rfl [_, _, _, _, _, _] rfl ?_))
         refine .lp (fun y m => ∃ (Z0 : Nat) (Z1 : List Int) (Z2 : _) (Z3 : List (List Int)) (Z4 : _) (Z5 : Nat) (Z6 : _) (Z7 : List Int) (Z8 : _) (Z9 : Nat) (Z10 : _), y = ⟨[(22, .slice Z4 Z3.length Z5), (122, .int .i64 (Z0 : Int))], [Z2], [(b19, .cells #[.slice Z8 Z7.length Z9, .int .i64 Z10] 121 (0, 0))], [.s (.slice Z4 Z3.length Z5) 22 1 Z3.length Z6]⟩ ∧ Z1.length = m ∧ HpLe G107 Z2 ∧ Bd w0 S0 Fs Z2 ∧ OL (Rep.sl ri) Z2 Z6 Z3 ∧ SlR ri Z2 Z8 Z9 Z7 ∧ List.drop Z0 u120.1 = Z1 ∧ X31 (X2e u59 (w64 (1 + u62.1)) (Int.tmod (w64 x1) (u59.length : Int)) u74.2.1.2 u23.1) (w64 (1 + u62.1)) u74.1 u73.1 (Int.tmod (w64 x1) (u59.length : Int)) u30.1.1 u30.1.2.1 u30.1.2.2.1 u30.1.2.2.2.1 u30.1.2.2.2.2 u74.2.1.2 u23.2.1.1 u23.2.1.2 u23.1 Z1 Z0 Z3 Z7 Z10 = some r) [(5, _), (6, _), (7, _), (8, _), (9, _), (11, _), (10, _), (15, _), (17, _), (19, _), (120, _), (121, _)] [_, _, _, _, _] [_] ⟨0, u120.1, G107, ([] : List (List Int)), none, 0, [], u62.2.1, a66, k67, u62.2.2, rfl, rfl, (HpLe.refl _), B109, (OL.nil (Rp' := (Rep.sl ri))), (SlR.mono (HpLe.trans (HpLe.trans (HpLe.trans e70 e79) e94) e108) s68), rfl, r133⟩ (fun y m hI hb180 => ?_)
         obtain ⟨i181, w182, G183, v184, a185, k186, cs187, v188, a189, k190, v191, rfl, rfl, e192, B193, o194, s195, g196, r197⟩ := hI
         refine .gn 0 ?_
         cases w182 with
         | nil =>
          rw [X31] at r197; try dsimp only at r197
          refine .go 5 ?_
          refine .cond_dec rfl (fun c => absurd c (Xl g196)) (fun _ => ?_)
          refine .exit rfl ?_
          exact (hb179 _ ⟨G183, v184, a185, k186, cs187, v188, a189, k190, v191, rfl, e192, B193, o194, s195, r197⟩).ar
         | cons x198 xs199 =>
          have r200 : X6m (X2e u59 (w64 (1 + u62.1)) (Int.tmod (w64 x1) (u59.length : Int)) u74.2.1.2 u23.1) (w64 (1 + u62.1)) u74.1 u73.1 (Int.tmod (w64 x1) (u59.length : Int)) u30.1.1 u30.1.2.1 u30.1.2.2.1 u30.1.2.2.2.1 u30.1.2.2.2.2 u74.2.1.2 u23.2.1.1 u23.2.1.2 u23.1 (X31 (X2e u59 (w64 (1 + u62.1)) (Int.tmod (w64 x1) (u59.length : Int)) u74.2.1.2 u23.1) (w64 (1 + u62.1)) u74.1 u73.1 (Int.tmod (w64 x1) (u59.length : Int)) u30.1.1 u30.1.2.1 u30.1.2.2.1 u30.1.2.2.2.1 u30.1.2.2.2.2 u74.2.1.2 u23.2.1.1 u23.2.1.2 u23.1 xs199 (i181 + 1)) x198 i181 v184 v188 v191 = some r := r197; clear r197; unfold X6m at r200; try dsimp only at r200
          refine .go 5 ?_
          refine .cond_dec rfl (fun _ => ?_) (fun c => absurd (X15 g196) c)
          refine .go 2 ?_
          refine .block (.go 3 ?_)
          obtain ⟨c201, p202, h203⟩ := OL.get (OL.mono e192 o127) (X3 g196)
          obtain rfl := h203
          refine .q .ro (.idxO 1 rfl rfl rfl (X3 g196) sl22 ty3.sz) rfl (.q .ro (.loadO 1 0 rfl (X3 g196) p202 rfl (.inl ⟨rfl, rfl⟩) ty3 rfl) rfl (.go 9 ?_))
          refine .cH r200 (fun c204 r205 => ?_) (fun c204 r206 => ?_)
          ·refine .exit rfl ?_
           exact (hb179 _ ⟨G183, v184, a185, k186, cs187, v188, a189, k190, v191, rfl, e192, B193, o194, s195, r205⟩).ar
          ·refine .go 4 ?_
           refine .q .ro (.load_own_a 4 [_, _] rfl rfl ty69 rfl) rfl ?_
           obtain ⟨u207, hu207, r208⟩ := X0 r206
           refine .callS (b1 := [_]) (b2 := [_, _, _, _, _]) (s1 := []) [_, _] [] .ro rfl rfl Tryz.call46 rfl rfl (Xgw mcs s195 hu207) rfl (fun v209 bo so h210 => ?_)
           obtain ⟨a211, k212, rfl, rfl, rfl, s213⟩ := h210
           refine .gn 9 ?_
           refine .q .ro (.load_own_a 5 [_] rfl rfl ty45 rfl) rfl (.q .ro (.load_own_a 4 [_, _] rfl rfl ty69 rfl) rfl (.go 5 ?_))
           obtain ⟨u214, hu214, r215⟩ := X0 r208
           refine .callW (b1 := [_]) (b2 := [_, _, _, _, _]) (s1 := []) [_, _, _, _, _, _, _, _] [] .ro rfl rfl Tryz.call25 rfl rfl (Xjc mcs (Rp.mono (HpLe.trans (HpLe.trans (HpLe.trans (HpLe.trans (HpLe.trans (HpLe.trans e28 e41) e70) e79) e94) e108) e192) hg0) s213 (SlR.mono (HpLe.trans (HpLe.trans e94 e108) e192) s84) hu214) rfl B193 (fun v216 bo so G217 e218 B219 h220 => ?_)
           obtain ⟨a221, k222, a223, k224, a225, k226, a227, k228, rfl, rfl, rfl, s229, s230, s231, s232⟩ := h220
           refine .gn 4 ?_
           refine .alloc .ro ty65 rfl (fun b234 hb234 => ?_)
           refine .store 0 [_, _] [_, _, _, _, _, _, _] .ro rfl rfl rfl ty65 rfl rfl rfl rfl (.go 9 ?_)
           obtain ⟨u235, h236, r237⟩ := X0 r215
           refine .kR (fun y => y = ⟨[(156, .bool u235)], G217 :: Fs, [], []⟩) [(22, _), (122, _), (5, _), (6, _), (7, _), (8, _), (9, _), (11, _), (10, _), (15, _), (17, _), (19, _), (120, _), (121, _), (23, _), (24, _), (27, _)] [_, _, _, _, _, _, _] [0, 1, 2, 3, 4, 5, 6] [_, _] [0, 1] 6 ?_ ?_
           ·rintro _ rfl
            refine .gn 1 ?_
            obtain ⟨u238, h239, r240⟩ := X0 r237
            refine .kR (fun y => y = ⟨[(165, .bool u238)], G217 :: Fs, [], []⟩) [(22, _), (122, _), (5, _), (6, _), (7, _), (8, _), (9, _), (11, _), (10, _), (15, _), (17, _), (19, _), (120, _), (121, _), (23, _), (27, _)] [_, _, _, _, _, _, _] [0, 1, 2, 3, 4, 5, 6] [_, _] [0, 1] 8 ?_ ?_
            ·rintro _ rfl
             refine .gn 1 ?_
             refine .cB r240 (fun c241 r242 => ?_) (fun c241 r243 => ?_)
             ·refine .go 4 ?_
              cases r242
              refine .drop 7 0 [] _ rfl rfl (.drop 0 2 _ [] rfl rfl ?_)
              refine .rS [.tmp 4] [_] Tryz.func6 Tryz.results6 ⟨rfl, rfl, rfl⟩
             ·refine .go 7 ?_
              obtain ⟨u244, hu244, r245⟩ := X0 r243
              obtain ⟨c246, p247, h248⟩ := SlR.get (SlR.mono (HpLe.trans (HpLe.trans (HpLe.trans e94 e108) e192) e218) s87) hu244
              obtain ⟨_, _, rfl, rfl, _, _, rfl, rfl, rfl⟩ := h248
              refine .q .ro (.idxR (SlR.mono (HpLe.trans (HpLe.trans (HpLe.trans e94 e108) e192) e218) s87) rfl rfl hu244 sl94 ty115.sz) rfl (.q .ro (.fieldAddr_rp p247 rfl Xfy ty3.sz) rfl (.q .ro (.load_rp (p247.add _) mcs rfl ty3 rfl) rfl (.go 2 ?_)))
              refine .cH r245 (fun c249 r250 => ?_) (fun c249 r251 => ?_)
              ·refine .go 4 ?_
               refine .lit [_] [(0, _)] .ro sl51 ty22 rfl rfl rfl rfl rfl rfl (fun b252 hb252 => ?_)
               have o253 : OL (Rep.sl ri) G217 [.slice a221 u214.1.1.length k222] ([u214.1.1] : List (List Int)) := ((OL.cons rfl (Rep.slI s229) (OL.nil (Rp' := (Rep.sl ri)))) :)
               refine .reval 177 (n' := ([u214.1.1] : List (List Int)).length) rfl rfl ?_
               obtain ⟨u254, hu254, r255⟩ := X0 r250
               refine .appO (Q := (Rep.sl ri)) 0 .ro sl51 ty22 rfl rfl rfl rfl rfl rfl (OL.mono e218 o194) o253 rfl rfl rfl B219 hu254 rfl (fun a256 k257 cs258 o259 => ?_)
               refine .go 7 ?_
               refine .drop 1 0 [_, _, _, _, _, _] _ rfl rfl ?_
               exact (hb180 _ _ ⟨(i181 + 1), xs199, G217, u254, a256, k257, cs258, u214.2.2.2.1, a227, k228, u214.2.2.2.2, rfl, rfl, (HpLe.trans e192 e218), B219, o259, s232, (X4 g196), r255⟩ (Nat.lt_succ_self _)).ax ⟨rfl, (congrArg (fun z => some (Value.int .i64 z)) (X5 (OL.len' o127) g196)), rfl, rfl, rfl, rfl, rfl, rfl, rfl, rfl, rfl, rfl, rfl, rfl, trivial⟩
              ·refine .go 6 ?_
               refine .drop 1 0 [_, _, _, _, _, _] _ rfl rfl ?_
               exact (hb180 _ _ ⟨(i181 + 1), xs199, G217, v184, a185, k186, cs187, u214.2.2.2.1, a227, k228, u214.2.2.2.2, rfl, rfl, (HpLe.trans e192 e218), B219, (OL.mono e218 o194), s232, (X4 g196), r251⟩ (Nat.lt_succ_self _)).ax ⟨rfl, (congrArg (fun z => some (Value.int .i64 z)) (X5 (OL.len' o127) g196)), rfl, rfl, rfl, rfl, rfl, rfl, rfl, rfl, rfl, rfl, rfl, rfl, trivial⟩
            ·intro hb260
             refine .split_b 157 rfl (fun c261 => ?_) (fun c261 => ?_)
             ·have r262 := ifT h239 c261
              refine .go 8 ?_
              exact (hb260 _ rfl).ax ⟨sval r262, rfl, rfl, rfl, rfl, rfl, rfl, rfl, rfl, rfl, rfl, rfl, rfl, rfl, rfl, rfl, rfl, trivial⟩
             ·have r263 := ifBF h239 c261
              refine .go 1 ?_
              refine .q .ro (.load_own_a 2 [_, _, _, _, _] rfl rfl ty104 rfl) rfl (.go 9 ?_)
              obtain ⟨u264, hu264, r265⟩ := X0 r263
              refine .cV [_, _, _, _] Tryz.call47 (Xf2 mcs (SlR.mono (HpLe.trans e192 e218) s110) s229 hu264) ?_
              refine .go 3 ?_
              exact (hb260 _ rfl).ax ⟨sval r265, rfl, rfl, rfl, rfl, rfl, rfl, rfl, rfl, rfl, rfl, rfl, rfl, rfl, rfl, rfl, rfl, trivial⟩
           ·intro hb266
            refine .split_b 150 rfl (fun c267 => ?_) (fun c267 => ?_)
            ·have r268 := ifT h236 c267
             refine .go 6 ?_
             exact (hb266 _ rfl).ax ⟨sval r268, rfl, rfl, rfl, rfl, rfl, rfl, rfl, rfl, rfl, rfl, rfl, rfl, rfl, rfl, rfl, rfl, rfl, trivial⟩
            ·have r269 := ifBF h236 c267
             refine .go 7 ?_
             obtain ⟨u270, hu270, r271⟩ := X0 r269
             refine .cV [_, _] Tryz.call31 (Xd3 mcs s230 s231 hu270) ?_
             refine .go 3 ?_
             exact (hb266 _ rfl).ax ⟨sval r271, rfl, rfl, rfl, rfl, rfl, rfl, rfl, rfl, rfl, rfl, rfl, rfl, rfl, rfl, rfl, rfl, rfl, trivial⟩
      ·intro hb272
       refine .split 113 rfl (fun c273 => ?_) (fun c273 => ?_)
       ·have r274 := ifT h129 c273
        refine .go 6 ?_
        exact (hb272 _ rfl).ax ⟨sval r274, rfl, rfl, rfl, rfl, rfl, rfl, rfl, rfl, rfl, rfl, rfl, trivial⟩
       ·have r275 := ifF h129 c273
        refine .go 5 ?_
        refine .q .ro (.load_own_a 2 [_, _] rfl rfl ty96 rfl) rfl (.go 1 ?_)
        obtain ⟨u276, hu276, r277⟩ := X0 r275
        refine .cV [_] Tryz.call45 (Xcl mcs (SlR.mono (HpLe.trans e94 e108) s87) hu276) ?_
        refine .go 3 ?_
        exact (hb272 _ rfl).ax ⟨sval r277, rfl, rfl, rfl, rfl, rfl, rfl, rfl, rfl, rfl, rfl, rfl, trivial⟩
    ·intro hb278
     refine .split_b 90 rfl (fun c279 => ?_) (fun c279 => ?_)
     ·refine .go 4 ?_
      exact (hb278 _ rfl).ax ⟨X4y c279, rfl, rfl, rfl, rfl, rfl, rfl, rfl, rfl, rfl, rfl, trivial⟩
     ·refine .go 7 ?_
      exact (hb278 _ rfl).ax ⟨X4z (Xd2 c279), rfl, rfl, rfl, rfl, rfl, rfl, rfl, rfl, rfl, rfl, trivial⟩
   ·intro hb280
    refine .split 84 rfl (fun c281 => ?_) (fun c281 => ?_)
    ·have r282 := ifT h112 c281
     refine .go 5 ?_
     exact (hb280 _ rfl).ax ⟨sval r282, rfl, rfl, rfl, rfl, rfl, rfl, rfl, rfl, rfl, rfl, trivial⟩
    ·have r283 := ifF h112 c281
     refine .go 1 ?_
     refine .q .ro (.load_own_a 0 [_, _, _, _, _] rfl rfl ty104 rfl) rfl (.go 3 ?_)
     obtain ⟨u284, hu284, r285⟩ := X0 r283
     refine .cV [_, _] Tryz.call43 (Xck mcs s110 hu284) ?_
     refine .go 3 ?_
     exact (hb280 _ rfl).ax ⟨sval r285, rfl, rfl, rfl, rfl, rfl, rfl, rfl, rfl, rfl, rfl, trivial⟩
end Go.Proofs.YtfcicopgdahmcaaGreatDoor
end

section
namespace Go.Proofs.YtfcicopgdahmcaaGreatDoor
theorem Xgx {y : Int} (h : y ≠ 0) : nz y = some () := by unfold nz; rw [if_neg h]
theorem Xed {α : Type} {l : List α} {i : Int} (d : α) (h0 : 0 ≤ i) (h1 : i < l.length) : lidx l i = some (l.getD i.toNat d) := by
  refine Xc5 h0 ?_
  rw [List.getD_eq_getElem?_getD]
  have : i.toNat < l.length := by omega
  simp [this]
theorem X4d {α : Type} {l : List α} {i : Nat} (d : α) (h1 : i < l.length) : lidx l (i : Int) = some (l.getD i d) := by
  rw [Xed d (by omega) (by omega), Int.toNat_natCast]
theorem Xk {α : Type} {l m : List α} (h : l.length + m.length ≤ 16777216) : lapp l m = some (l ++ m) := by unfold lapp; rw [if_pos h]
theorem X5c {α : Type} {l : List α} {i j : Int} (h0 : 0 ≤ i) (h1 : i ≤ j) (h2 : j ≤ l.length) : lsub l i j = some ((l.drop i.toNat).take (j - i).toNat) := by unfold lsub; rw [if_pos ⟨h0, h1, h2⟩]
theorem Xc7 {α : Type} {l : List α} {i : Int} {y : α} (h0 : 0 ≤ i) (h1 : i < l.length) : lupd l i y = some (l.set i.toNat y) := by unfold lupd; rw [if_pos ⟨h0, h1⟩]
theorem Xml (l : List Int) : (ofB l).size = l.length := by simp [ofB, ByteArray.size]
theorem Xr9 {x n : Int} (hn : 1 ≤ n) (hn2 : n ≤ 1000000) : Xaw x n = some (x % n) := by
  unfold Xaw
  rw [Xgx (by omega)]
  simp only [Option.bind_some]
  have h1 := Int.lt_tmod_of_pos x (by omega : 0 < n)
  have h2 := Int.tmod_lt_of_pos x (by omega : 0 < n)
  rw [w64_id (by omega) (by omega), Int.tmod_eq_emod_of_nonneg (by omega), Int.add_emod_right]
  congr 1
  have h3 := Int.tmod_add_mul_tdiv x n
  have h4 : x.tmod n = x - n * x.tdiv n := by omega
  rw [h4, Int.sub_mul_emod_self_left]
theorem Xmm {l : List Int} (hl : l.length ≤ 1000) {p n : Int} (h0 : 0 ≤ p ∧ p ≤ 1000) (hn : 1 ≤ n ∧ n ≤ 1000000) : ∃ v q, Xd (l, p) n = some (v, (l, q)) ∧ 0 ≤ v ∧ v < n ∧ 0 ≤ q ∧ q ≤ 1000 := by
  unfold Xd
  split
  · exact ⟨0, p, rfl, by omega, by omega, h0.1, h0.2⟩
  · rename_i h
    dsimp only at h ⊢
    rw [Xed 0 (by omega) (by omega)]
    simp only [Option.bind_some]
    rw [Xr9 hn.1 hn.2]
    simp only [Option.bind_some]
    refine ⟨_, _, rfl, Int.emod_nonneg _ (by omega), Int.emod_lt_of_pos _ (by omega), ?_⟩
    rw [w64_id (by omega) (by omega)]; omega
def Dk (l : List Int) (d : List Int × Int) : Prop := d.1 = l ∧ 0 ≤ d.2 ∧ d.2 ≤ 1000
theorem X91 {l : List Int} (hl : l.length ≤ 1000) {d : List Int × Int} (hd : Dk l d) {n : Int} (hn : 1 ≤ n ∧ n ≤ 1000000) : ∃ v e, Xd d n = some (v, e) ∧ 0 ≤ v ∧ v < n ∧ Dk l e := by
  obtain ⟨d1, d2⟩ := d
  obtain ⟨rfl, h1, h2⟩ := hd
  obtain ⟨v, q, e, a, b, c, f⟩ := Xmm hl ⟨h1, h2⟩ hn
  exact ⟨v, _, e, a, b, rfl, c, f⟩
end Go.Proofs.YtfcicopgdahmcaaGreatDoor
end

section
namespace Go.Proofs.YtfcicopgdahmcaaGreatDoor.Alg
set_option linter.unusedVariables false
def Cg (p a b : Int) : Prop := ∃ k, a - b = p * k
section
variable {p a b c d x y : Int}
theorem Cg.refl (p a : Int) : Cg p a a := ⟨0, by simp⟩
theorem Cg.of (h : a = b) : Cg p a b := h ▸ Cg.refl p a
theorem Cg.symm (h : Cg p a b) : Cg p b a := by obtain ⟨k, h⟩ := h; exact ⟨-k, by rw [Int.mul_neg]; omega⟩
theorem Cg.trans (h : Cg p a b) (k : Cg p b c) : Cg p a c := by obtain ⟨i, h⟩ := h; obtain ⟨j, k⟩ := k; exact ⟨i + j, by rw [Int.mul_add]; omega⟩
theorem Cg.add (h : Cg p a b) (k : Cg p c d) : Cg p (a + c) (b + d) := by obtain ⟨i, h⟩ := h; obtain ⟨j, k⟩ := k; exact ⟨i + j, by rw [Int.mul_add]; omega⟩
theorem Cg.neg (h : Cg p a b) : Cg p (-a) (-b) := by obtain ⟨i, h⟩ := h; exact ⟨-i, by rw [Int.mul_neg]; omega⟩
theorem Cg.sub (h : Cg p a b) (k : Cg p c d) : Cg p (a - c) (b - d) := by obtain ⟨i, h⟩ := h; obtain ⟨j, k⟩ := k; exact ⟨i - j, by rw [Int.mul_sub]; omega⟩
theorem Cg.mul (h : Cg p a b) (k : Cg p c d) : Cg p (a * c) (b * d) := by
  obtain ⟨i, h⟩ := h; obtain ⟨j, k⟩ := k
  refine ⟨i * c + b * j, ?_⟩
  have e1 : a * c - b * d = (a - b) * c + b * (c - d) := by rw [Int.sub_mul, Int.mul_sub]; omega
  rw [e1, h, k, Int.mul_add, Int.mul_assoc, Int.mul_left_comm b p j]
theorem Cg.emod (p a : Int) : Cg p (a % p) a := ⟨-(a / p), by have := Int.emod_add_mul_ediv a p; rw [Int.mul_neg]; omega⟩
theorem Cg.tmod (p a : Int) : Cg p (Int.tmod a p) a := ⟨-(Int.tdiv a p), by have := Int.tmod_add_mul_tdiv a p; rw [Int.mul_neg]; omega⟩
theorem Cg.p0 (p a : Int) : Cg p (p * a) 0 := ⟨a, by omega⟩
theorem Cg.small (h : Cg p a 0) (h0 : 0 ≤ a) (h1 : a < p) : a = 0 := by
  obtain ⟨k, h⟩ := h
  have hp : 0 < p := by omega
  have : k = 0 := by
    rcases Int.lt_trichotomy k 0 with hk | hk | hk
    · have := Int.mul_le_mul_of_nonneg_left (show k ≤ -1 by omega) (Int.le_of_lt hp)
      omega
    · exact hk
    · have := Int.mul_le_mul_of_nonneg_left (show 1 ≤ k by omega) (Int.le_of_lt hp)
      omega
  subst this; omega
theorem Cg.eq (h : Cg p a b) (ha : 0 ≤ a) (ha' : a < p) (hb : 0 ≤ b) (hb' : b < p) : a = b := by
  rcases Int.le_total b a with hh | hh
  · have h2 : Cg p (a - b) 0 := by obtain ⟨k, h⟩ := h; exact ⟨k, by omega⟩
    have := h2.small (by omega) (by omega); omega
  · have h2 : Cg p (b - a) 0 := by obtain ⟨k, h⟩ := h.symm; exact ⟨k, by omega⟩
    have := h2.small (by omega) (by omega); omega
theorem Cg.sub0 (h : Cg p a b) : Cg p (a - b) 0 := by obtain ⟨k, h⟩ := h; exact ⟨k, by omega⟩
theorem Cg.of_sub0 (h : Cg p (a - b) 0) : Cg p a b := by obtain ⟨k, h⟩ := h; exact ⟨k, by omega⟩
theorem Cg.dvd_iff : Cg p a 0 ↔ p ∣ a := ⟨fun ⟨k, h⟩ => ⟨k, by omega⟩, fun ⟨k, h⟩ => ⟨k, by omega⟩⟩
end
structure Pr (p : Int) : Prop where
  two : 2 ≤ p
  dom : ∀ {a b : Int}, Cg p (a * b) 0 → Cg p a 0 ∨ Cg p b 0
theorem Pr.one {p : Int} (h : Pr p) : ¬ Cg p 1 0 := fun hc => by have := hc.small (by omega) (by have := h.two; omega); omega
def noDiv (n : Nat) : Prop := ∀ d, 2 ≤ d → d * d ≤ n → n % d ≠ 0
theorem Xg4 {n : Nat} (h2 : 2 ≤ n) (h : noDiv n) {a : Nat} (ha : ¬ n ∣ a) : Nat.Coprime n a := by
  -- the gcd divides n; were it neither 1 nor n, it or its cofactor were a divisor up to the root
  have hg := Nat.gcd_dvd_left n a
  have hg2 := Nat.gcd_dvd_right n a
  show Nat.gcd n a = 1
  generalize Nat.gcd n a = g at hg hg2
  obtain ⟨k, hk⟩ := hg
  have hg0 : g ≠ 0 := by rintro rfl; simp at hk; omega
  have hk0 : k ≠ 0 := by rintro rfl; simp at hk; omega
  have hgn : g ≠ n := by rintro rfl; exact ha hg2
  have hk1 : k ≠ 1 := by rintro rfl; rw [Nat.mul_one] at hk; exact hgn hk.symm
  apply Classical.byContradiction
  intro hg1
  rcases Nat.le_total g k with hle | hle
  · have h3 : g * g ≤ n := by rw [hk]; exact Nat.mul_le_mul_left g hle
    exact h g (by omega) h3 (by rw [hk]; exact Nat.mul_mod_right g k)
  · have h3 : k * k ≤ n := by rw [hk]; exact Nat.mul_le_mul_right k hle
    exact h k (by omega) h3 (by rw [hk]; exact Nat.mul_mod_left g k)
theorem Pr.of {n : Nat} (h2 : 2 ≤ n) (h : noDiv n) : Pr (n : Int) := ⟨by omega, fun {a b} hc => by
  rw [Cg.dvd_iff] at hc
  rw [Cg.dvd_iff, Cg.dvd_iff]
  by_cases ha : (n : Int) ∣ a
  · exact .inl ha
  · refine .inr ?_
    have ha' : ¬ n ∣ a.natAbs := fun hd => ha (by exact Int.ofNat_dvd_left.2 hd)
    have hcop := Xg4 h2 h ha'
    rw [Int.ofNat_dvd_left, Int.natAbs_mul] at hc
    rw [Int.ofNat_dvd_left]
    exact hcop.dvd_of_dvd_mul_left hc⟩
def pv : List Int → Int → Int
  | [], _ => 0
  | c :: l, x => pv l x * x + c
def gd (l : List Int) (i : Nat) : Int := l.getD i 0
theorem Xnn (i : Nat) : gd [] i = 0 := rfl
theorem Xee (c : Int) (l : List Int) (i : Nat) : gd (c :: l) (i + 1) = gd l i := rfl
theorem Xcw {l : List Int} {i : Nat} (h : l.length ≤ i) : gd l i = 0 := by simp [gd, List.getD_eq_getElem?_getD, List.getElem?_eq_none h]
theorem Xno {l : List Int} {i : Nat} (h : i < l.length) : gd l i ∈ l := by
  simp only [gd, List.getD_eq_getElem?_getD, List.getElem?_eq_getElem h, Option.getD_some]; exact List.getElem_mem h
def Z0 (p : Int) (l : List Int) : Prop := ∀ i, Cg p (gd l i) 0
theorem Z0.cons {p c : Int} {l : List Int} : Z0 p (c :: l) ↔ Cg p c 0 ∧ Z0 p l :=
  ⟨fun h => ⟨h 0, fun i => h (i + 1)⟩, fun h i => by cases i with | zero => exact h.1 | succ i => exact h.2 i⟩
theorem Z0.nil {p : Int} : Z0 p [] := fun i => Cg.refl p 0
theorem Z0.pv {p : Int} : ∀ {l : List Int}, Z0 p l → ∀ x, Cg p (pv l x) 0
  | [], _, _ => Cg.refl _ _
  | c :: l, h, x => by
    have := ((Z0.pv (Z0.cons.1 h).2 x).mul (Cg.refl p x)).add (Z0.cons.1 h).1
    simpa [Proofs.YtfcicopgdahmcaaGreatDoor.Alg.pv] using this
def syn : List Int → Int → List Int
  | [], _ => []
  | c :: l, a => pv (c :: l) a :: syn l a
theorem Xfc (a : Int) : ∀ l, (syn l a).length = l.length
  | [] => rfl
  | c :: l => by simp [syn, Xfc a l]
theorem Xnp (a x : Int) : ∀ l, pv l x * x - pv l a * a = (x - a) * pv (syn l a) x
  | [] => by simp [pv, syn]
  | c :: l => by
    have ih := Xnp a x l
    simp only [pv, syn] at ih ⊢
    generalize pv l x = u at *
    generalize pv l a = v at *
    generalize pv (syn l a) x = w at *
    have e1 : (x - a) * (w * x + (v * a + c)) = ((x - a) * w) * x + (x - a) * (v * a + c) := by rw [Int.mul_add, Int.mul_assoc]
    rw [e1, ← ih]
    simp only [Int.add_mul, Int.mul_add, Int.sub_mul]
    have e2 : v * a * x = x * (v * a) := Int.mul_comm _ _
    have e3 : v * a * a = a * (v * a) := Int.mul_comm _ _
    have e4 : c * x = x * c := Int.mul_comm _ _
    have e5 : c * a = a * c := Int.mul_comm _ _
    omega
theorem Xnq {p a : Int} : ∀ {l : List Int}, Z0 p (syn l a) → Z0 p l ∧ Cg p (pv l a) 0
  | [], _ => ⟨Z0.nil, Cg.refl _ _⟩
  | c :: l, h => by
    obtain ⟨h1, h2⟩ := Z0.cons.1 h
    obtain ⟨h3, h4⟩ := Xnq h2
    refine ⟨Z0.cons.2 ⟨?_, h3⟩, h1⟩
    have := h1.sub (h4.mul (Cg.refl p a))
    simp only [pv, Int.zero_mul, Int.sub_zero] at this
    exact (Cg.of (by omega)).trans this
def Apart (p : Int) (xs : List Int) : Prop := xs.Pairwise fun x y => ¬ Cg p (x - y) 0
theorem roots {p : Int} (hp : Pr p) : ∀ (l xs : List Int), l.length ≤ xs.length → Apart p xs → (∀ x ∈ xs, Cg p (pv l x) 0) → Z0 p l
  | [], _, _, _, _ => Z0.nil
  | c :: l, [], h, _, _ => by simp at h
  | c :: l, a :: xs, h, ha, hr => by
    have hr0 := hr a List.mem_cons_self
    have hs : Z0 p (syn l a) := by
      refine roots hp (syn l a) xs (by rw [Xfc]; simpa using h) (List.pairwise_cons.1 ha).2 fun x hx => ?_
      have hrx := hr x (List.mem_cons_of_mem _ hx)
      have h1 := (hrx.sub hr0)
      simp only [pv, Int.sub_zero] at h1
      have h2 : Cg p ((x - a) * pv (syn l a) x) 0 := by
        rw [← Xnp]
        exact (Cg.of (by omega)).trans h1
      rcases hp.dom h2 with h3 | h3
      · exfalso
        refine (List.pairwise_cons.1 ha).1 x hx ?_
        have := h3.neg
        exact (Cg.of (by omega)).trans this
      · exact h3
    obtain ⟨h1, h2⟩ := Xnq hs
    refine Z0.cons.2 ⟨?_, h1⟩
    have := hr0.sub (h2.mul (Cg.refl p a))
    simp only [pv, Int.zero_mul, Int.sub_zero] at this
    exact (Cg.of (by omega)).trans this
def padd : List Int → List Int → List Int
  | [], m => m
  | l, [] => l
  | a :: l, b :: m => (a + b) :: padd l m
def psc (c : Int) (l : List Int) : List Int := l.map (c * ·)
def pmul : List Int → List Int → List Int
  | [], _ => []
  | c :: l, m => padd (psc c m) (0 :: pmul l m)
theorem X73 : ∀ l m, (padd l m).length = max l.length m.length
  | [], m => by simp [padd]
  | a :: l, [] => by simp [padd]
  | a :: l, b :: m => by simp [padd, X73 l m]
theorem Xb1 : ∀ (l m : List Int) (i : Nat), gd (padd l m) i = gd l i + gd m i
  | [], m, i => by simp [padd, Xnn]
  | a :: l, [], i => by simp [padd, Xnn]
  | a :: l, b :: m, 0 => rfl
  | a :: l, b :: m, i + 1 => by simp only [padd, Xee]; exact Xb1 l m i
theorem Xb2 (x : Int) : ∀ l m, pv (padd l m) x = pv l x + pv m x
  | [], m => by simp [padd, pv]
  | a :: l, [] => by simp [padd, pv]
  | a :: l, b :: m => by simp only [padd, pv]; rw [Xb2 x l m, Int.add_mul]; omega
theorem X9r (c : Int) (l : List Int) : (psc c l).length = l.length := by simp [psc]
theorem Xd7 (c : Int) (l : List Int) (i : Nat) : gd (psc c l) i = c * gd l i := by
  simp only [gd, psc, List.getD_eq_getElem?_getD, List.getElem?_map]
  cases l[i]? <;> simp
theorem Xcn (c x : Int) : ∀ l, pv (psc c l) x = c * pv l x
  | [] => by simp [psc, pv]
  | a :: l => by
    have := Xcn c x l
    simp only [psc, List.map_cons, pv] at this ⊢
    rw [this, Int.mul_add, Int.mul_assoc]
theorem Xef (x : Int) (m : List Int) : ∀ l, pv (pmul l m) x = pv l x * pv m x
  | [] => by simp [pmul, pv]
  | c :: l => by
    simp only [pmul, Xb2, Xcn, pv]
    rw [Xef x m l, Int.add_mul]
    have : pv l x * x * pv m x = pv l x * pv m x * x := by rw [Int.mul_assoc, Int.mul_comm x, ← Int.mul_assoc]
    omega
theorem Xaa (m : List Int) (hm : m ≠ []) : ∀ l, l ≠ [] → (pmul l m).length + 1 = l.length + m.length
  | [], h => absurd rfl h
  | [c], _ => by
    have : 0 < m.length := List.length_pos_iff.2 hm
    simp only [pmul, X73, X9r, List.length_cons, List.length_nil]; omega
  | c :: d :: l, _ => by
    have := Xaa m hm (d :: l) (by simp)
    have : 0 < m.length := List.length_pos_iff.2 hm
    simp only [pmul, X73, X9r, List.length_cons] at *; omega
theorem Z0.pmul {p : Int} {m : List Int} : ∀ {l : List Int}, Z0 p l → Z0 p (pmul l m)
  | [], _ => Z0.nil
  | c :: l, h => fun i => by
    obtain ⟨h1, h2⟩ := Z0.cons.1 h
    simp only [Proofs.YtfcicopgdahmcaaGreatDoor.Alg.pmul, Xb1, Xd7]
    have h3 : Cg p (gd (0 :: Proofs.YtfcicopgdahmcaaGreatDoor.Alg.pmul l m) i) 0 := by
      cases i with
      | zero => exact Cg.refl _ _
      | succ i => exact Z0.pmul h2 i
    have := (h1.mul (Cg.refl p (gd m i))).add h3
    simpa using this
theorem Xfd {p : Int} {E : List Int} : ∀ (g : List Int), (∀ i, E.length ≤ i → Cg p (gd (pmul g (E ++ [1])) i) 0) → Z0 p g
  | [], _ => Z0.nil
  | c :: g, h => by
    have hz : Z0 p g := Xfd (E := E) g fun i hi => by
      have := h (i + 1) (by omega)
      simp only [pmul, Xb1, Xd7, Xee] at this
      rw [Xcw (l := E ++ [1]) (i := i + 1) (by simp; omega)] at this
      simpa using this
    refine Z0.cons.2 ⟨?_, hz⟩
    have := h E.length (Nat.le_refl _)
    simp only [pmul, Xb1, Xd7] at this
    have e1 : gd (E ++ [1]) E.length = 1 := by simp [gd, List.getD_eq_getElem?_getD]
    have h3 : Cg p (gd (0 :: pmul g (E ++ [1])) E.length) 0 := by
      cases hE : E.length with
      | zero => exact Cg.refl _ _
      | succ i => exact Z0.pmul hz i
    rw [e1, Int.mul_one] at this
    have := this.sub h3
    exact (Cg.of (by omega)).trans this
end Go.Proofs.YtfcicopgdahmcaaGreatDoor.Alg
end

section
namespace Go.Proofs.YtfcicopgdahmcaaGreatDoor.Alg
set_option linter.unusedVariables false
def sm : Nat → (Nat → Int) → Int
  | 0, _ => 0
  | n + 1, f => sm n f + f n
theorem X9k {p : Int} : ∀ {n : Nat} {f g : Nat → Int}, (∀ i, i < n → Cg p (f i) (g i)) → Cg p (sm n f) (sm n g)
  | 0, _, _, _ => Cg.refl _ _
  | n + 1, f, g, h => (X9k fun i hi => h i (by omega)).add (h n (by omega))
theorem Xg5 : ∀ {n : Nat} {f g : Nat → Int}, (∀ i, i < n → f i = g i) → sm n f = sm n g
  | 0, _, _, _ => rfl
  | n + 1, f, g, h => by simp only [sm]; rw [Xg5 fun i hi => h i (by omega), h n (by omega)]
theorem Xk9 (f g : Nat → Int) : ∀ n, sm n (fun i => f i + g i) = sm n f + sm n g
  | 0 => rfl
  | n + 1 => by simp only [sm]; rw [Xk9 f g n]; omega
theorem Xgy (c : Int) (f : Nat → Int) : ∀ n, sm n (fun i => c * f i) = c * sm n f
  | 0 => by simp [sm]
  | n + 1 => by simp only [sm]; rw [Xgy c f n, Int.mul_add]
theorem Xeg : ∀ n, sm n (fun _ => 0) = 0
  | 0 => rfl
  | n + 1 => by simp only [sm]; rw [Xeg n]; rfl
theorem Xdj (f : Nat → Int) (a : Nat) : ∀ b, sm (a + b) f = sm a f + sm b (fun j => f (a + j))
  | 0 => by simp [sm]
  | b + 1 => by rw [← Nat.add_assoc]; simp only [sm]; rw [Xdj f a b]; omega
theorem Xka {p : Int} {f : Nat → Int} {q : Nat} : ∀ {n : Nat}, (∀ i, i < n → i ≠ q → Cg p (f i) 0) → q < n → Cg p (sm n f) (f q)
  | 0, _, h => by omega
  | n + 1, hf, h => by
    rcases Nat.lt_or_ge q n with hq | hq
    · have := (Xka (fun i hi hne => hf i (by omega) hne) hq).add (hf n (by omega) (by omega))
      simpa [sm] using this
    · have hq' : q = n := by omega
      subst hq'
      have := (X9k (n := q) (g := fun _ => 0) fun i hi => hf i (by omega) (by omega)).add (Cg.refl p (f q))
      rw [Xeg] at this
      simpa [sm] using this
theorem Xkb {p : Int} {f : Nat → Int} {n : Nat} (h : ∀ i, i < n → Cg p (f i) 0) : Cg p (sm n f) 0 := by
  have := X9k (g := fun _ => 0) h
  rwa [Xeg] at this
theorem Xi8 (c x : Int) (f : Nat → Int) : ∀ n, sm (n + 1) (fun i => (match i with | 0 => c | j + 1 => f j) * x ^ i) = sm n (fun i => f i * x ^ i) * x + c
  | 0 => by simp [sm]
  | n + 1 => by
    rw [sm, Xi8 c x f n]
    simp only [sm]
    rw [Int.add_mul, Int.pow_succ, Int.mul_assoc (f n) (x ^ n) x]
    omega
theorem Xmn (x : Int) : ∀ l : List Int, pv l x = sm l.length (fun i => gd l i * x ^ i)
  | [] => rfl
  | c :: l => by
    simp only [pv, List.length_cons]
    rw [Xmn x l, ← Xi8 c x (gd l) l.length]
    refine Xg5 fun i _ => ?_
    cases i <;> rfl
theorem Xpn {f : Nat → Int} {a b : Nat} (h : a ≤ b) (h0 : ∀ i, a ≤ i → i < b → f i = 0) : sm b f = sm a f := by
  obtain ⟨d, rfl⟩ : ∃ d, b = a + d := ⟨b - a, by omega⟩
  rw [Xdj]
  have : sm d (fun j => f (a + j)) = sm d (fun _ => 0) := Xg5 fun i hi => h0 _ (by omega) (by omega)
  rw [this, Xeg]; omega
theorem Xi9 (x : Int) {l : List Int} {n : Nat} (h : l.length ≤ n) : pv l x = sm n (fun i => gd l i * x ^ i) := by
  rw [Xmn, Xpn h]
  intro i hi _
  show gd l i * x ^ i = 0
  rw [Xcw hi, Int.zero_mul]
def SolM (p : Int) (n m : Nat) (M : Nat → Nat → Int) (z : Nat → Int) : Prop := ∀ i, i < n → Cg p (sm m (fun j => M i j * z j)) 0
structure GI (p : Int) (n m : Nat) (M0 M : Nat → Nat → Int) (k r : Nat) (L : Nat → Nat) : Prop where
  rn : r ≤ n
  sol : ∀ z, SolM p n m M z ↔ SolM p n m M0 z
  low : ∀ i, r ≤ i → i < n → ∀ j, j < k → Cg p (M i j) 0
  led : ∀ j, j < k → L j ≠ 0 → L j ≤ r ∧ ∀ i, i < n → Cg p (M i j) (if i + 1 = L j then 1 else 0)
  inj : ∀ j j', j < k → j' < k → L j ≠ 0 → L j = L j' → j = j'
  sur : ∀ i, i < r → ∃ j, j < k ∧ L j = i + 1
theorem GI.start (p : Int) (n m : Nat) (M : Nat → Nat → Int) (L : Nat → Nat) : GI p n m M M 0 0 L :=
  ⟨Nat.zero_le _, fun _ => Iff.rfl, fun _ _ _ _ h => absurd h (Nat.not_lt_zero _), fun _ h => absurd h (Nat.not_lt_zero _), fun _ _ h => absurd h (Nat.not_lt_zero _), fun _ h => absurd h (Nat.not_lt_zero _)⟩
section
variable {p : Int} {n m k r : Nat} {M0 M M' : Nat → Nat → Int} {L L' : Nat → Nat}
theorem GI.skip (h : GI p n m M0 M k r L) (h0 : ∀ i, r ≤ i → i < n → Cg p (M i k) 0) (hL : ∀ j, j < k → L' j = L j) (hk : L' k = 0) : GI p n m M0 M (k + 1) r L' := by
  have cs : ∀ j, j < k + 1 → j = k ∨ j < k := fun j hj => by omega
  refine ⟨h.rn, h.sol, fun i hi hn j hj => ?_, fun j hj hne => ?_, fun j j' hj hj' hne he => ?_, fun i hi => ?_⟩
  · rcases cs j hj with rfl | hj
    · exact h0 i hi hn
    · exact h.low i hi hn j hj
  · rcases cs j hj with rfl | hj
    · exact absurd hk hne
    · rw [hL j hj] at hne ⊢; exact h.led j hj hne
  · rcases cs j hj with rfl | hj
    · exact absurd hk hne
    · rcases cs j' hj' with rfl | hj'
      · rw [hk] at he; exact absurd he hne
      · rw [hL j hj] at hne he; rw [hL j' hj'] at he; exact h.inj j j' hj hj' hne he
  · obtain ⟨j, hj, he⟩ := h.sur i hi
    exact ⟨j, by omega, by rw [hL j hj]; exact he⟩
def swp (a b : Nat) (M : Nat → Nat → Int) (i : Nat) : Nat → Int := if i = a then M b else if i = b then M a else M i
theorem GI.lead (h : GI p n m M0 M k r L) (i0 : Nat) (hi0 : r ≤ i0) (hi1 : i0 < n) (by_ : Int) (hby : Cg p (M i0 k * by_) 1)
    (hr : ∀ j, j < m → Cg p (M' r j) (M i0 j * by_))
    (ho : ∀ i, i < n → i ≠ r → ∀ j, j < m → Cg p (M' i j) (swp r i0 M i j - swp r i0 M i k * M' r j))
    (hkm : k < m) (hL : ∀ j, j < k → L' j = L j) (hk : L' k = r + 1) : GI p n m M0 M' (k + 1) (r + 1) L' := by
  have cs : ∀ j, j < k + 1 → j = k ∨ j < k := fun j hj => by omega
  have hrn : r < n := by omega
  -- the swapped rows have the same solutions
  have hsw : ∀ z, SolM p n m (swp r i0 M) z ↔ SolM p n m M z := fun z => by
    refine ⟨fun hs i hi => ?_, fun hs i hi => ?_⟩
    · by_cases e1 : i = r
      · have := hs i0 hi1
        by_cases e2 : i0 = r
        · rw [e1]; rw [e2] at this; simpa [swp, e2] using this
        · have e3 : swp r i0 M i0 = M r := by simp [swp, e2]
          rw [e3] at this; rw [e1]; exact this
      · by_cases e2 : i = i0
        · have := hs r hrn
          have e3 : swp r i0 M r = M i0 := by simp [swp]
          rw [e3] at this; rw [e2]; exact this
        · have := hs i hi
          have e3 : swp r i0 M i = M i := by simp [swp, e1, e2]
          rw [e3] at this; exact this
    · by_cases e1 : i = r
      · have e3 : swp r i0 M i = M i0 := by simp [swp, e1]
        rw [e3]; exact hs i0 hi1
      · by_cases e2 : i = i0
        · have e3 : swp r i0 M i = M r := by unfold swp; rw [if_neg e1, if_pos e2]
          rw [e3]; exact hs r hrn
        · have e3 : swp r i0 M i = M i := by simp [swp, e1, e2]
          rw [e3]; exact hs i hi
  have hsr : swp r i0 M r = M i0 := by simp [swp]
  -- sums of the new rows
  have s1 : ∀ z : Nat → Int, Cg p (sm m (fun j => M' r j * z j)) (by_ * sm m (fun j => M i0 j * z j)) := fun z => by
    rw [← Xgy]
    refine X9k fun j hj => ?_
    have := (hr j hj).mul (Cg.refl p (z j))
    refine this.trans (Cg.of ?_)
    rw [Int.mul_comm (M i0 j), Int.mul_assoc]
  have s2 : ∀ (z : Nat → Int) (i : Nat), i < n → i ≠ r → Cg p (sm m (fun j => M' i j * z j)) (sm m (fun j => swp r i0 M i j * z j) - swp r i0 M i k * sm m (fun j => M' r j * z j)) := fun z i hi hne => by
    have e : sm m (fun j => swp r i0 M i j * z j) - swp r i0 M i k * sm m (fun j => M' r j * z j) = sm m (fun j => (swp r i0 M i j * z j) + (- swp r i0 M i k) * (M' r j * z j)) := by
      rw [Xk9 (fun j => swp r i0 M i j * z j) (fun j => (- swp r i0 M i k) * (M' r j * z j)), Xgy, Int.neg_mul]; omega
    rw [e]
    refine X9k fun j hj => ?_
    refine ((ho i hi hne j hj).mul (Cg.refl p (z j))).trans (Cg.of ?_)
    rw [Int.sub_mul, Int.neg_mul, Int.mul_assoc]; omega
  -- the entries of the new rows in old columns, and in column k
  have hM'r : ∀ j, j < m → Cg p (M' r j) (swp r i0 M r j * by_) := fun j hj => by rw [hsr]; exact hr j hj
  have kr : Cg p (M' r k) 1 := (hr k hkm).trans hby
  have ko : ∀ i, i < n → i ≠ r → Cg p (M' i k) 0 := fun i hi hne => by
    refine (ho i hi hne k hkm).trans ?_
    have := (Cg.refl p (swp r i0 M i k)).sub ((Cg.refl p (swp r i0 M i k)).mul kr)
    refine this.trans (Cg.of ?_)
    rw [Int.mul_one]; omega
  have swlow : ∀ i, r ≤ i → i < n → ∀ j, j < k → Cg p (swp r i0 M i j) 0 := fun i hi hn j hj => by
    unfold swp
    split
    · exact h.low i0 hi0 hi1 j hj
    · split
      · exact h.low r (Nat.le_refl _) hrn j hj
      · exact h.low i hi hn j hj
  have r0 : ∀ j, j < k → Cg p (M' r j) 0 := fun j hj => by
    have := (h.low i0 hi0 hi1 j hj).mul (Cg.refl p by_)
    rw [Int.zero_mul] at this
    exact (hr j (by omega)).trans this
  have oj : ∀ i, i < n → i ≠ r → ∀ j, j < k → Cg p (M' i j) (swp r i0 M i j) := fun i hi hne j hj => by
    refine (ho i hi hne j (by omega)).trans ?_
    have := (Cg.refl p (swp r i0 M i j)).sub ((Cg.refl p (swp r i0 M i k)).mul (r0 j hj))
    refine this.trans (Cg.of ?_)
    rw [Int.mul_zero]; omega
  refine ⟨hrn, fun z => ?_, fun i hi hn j hj => ?_, fun j hj hne => ?_, fun j j' hj hj' hne he => ?_, fun i hi => ?_⟩
  · rw [← h.sol, ← hsw]
    refine ⟨fun hs => ?_, fun hs => ?_⟩
    · have hfirst : Cg p (sm m (fun j => M i0 j * z j)) 0 := by
        -- M i0 = (M i0 k) * M' r
        have h1 := hs r hrn
        have h2 := (Cg.refl p (M i0 k)).mul (h1.symm.trans (s1 z))
        rw [Int.mul_zero, ← Int.mul_assoc] at h2
        have h3 := hby.mul (Cg.refl p (sm m (fun j => M i0 j * z j)))
        rw [Int.one_mul] at h3
        exact (h2.trans h3).symm
      intro i hi
      by_cases e1 : i = r
      · rw [e1, hsr]; exact hfirst
      · have h1 := s2 z i hi e1
        have h2 := (Cg.refl p (swp r i0 M i k)).mul (hs r hrn)
        rw [Int.mul_zero] at h2
        have h3 := (hs i hi).symm.trans h1
        have h4 := h3.symm.add h2
        exact (Cg.of (by omega)).trans h4
    · have h0 : Cg p (sm m (fun j => M' r j * z j)) 0 := by
        have h1 := hs r hrn
        rw [hsr] at h1
        have h2 := (Cg.refl p by_).mul h1
        rw [Int.mul_zero] at h2
        exact (s1 z).trans h2
      intro i hi
      by_cases e1 : i = r
      · rw [e1]; exact h0
      · have h2 := (hs i hi).sub ((Cg.refl p (swp r i0 M i k)).mul h0)
        rw [Int.mul_zero] at h2
        exact (s2 z i hi e1).trans h2
  · rcases cs j hj with rfl | hj
    · exact ko i hn (by omega)
    · exact (oj i hn (by omega) j hj).trans (swlow i (by omega) hn j hj)
  · rcases cs j hj with rfl | hj
    · rw [hk]
      refine ⟨Nat.le_refl _, fun i hi => ?_⟩
      by_cases e1 : i = r
      · rw [e1, if_pos rfl]; exact kr
      · rw [if_neg (by omega)]; exact ko i hi e1
    · rw [hL j hj] at hne ⊢
      obtain ⟨h1, h2⟩ := h.led j hj hne
      refine ⟨by omega, fun i hi => ?_⟩
      by_cases e1 : i = r
      · rw [e1, if_neg (by omega)]; exact r0 j hj
      · refine (oj i hi e1 j hj).trans ?_
        by_cases e2 : i = i0
        · have : ¬ (i + 1 = L j) := by omega
          rw [if_neg this]; exact swlow i (by omega) hi j hj
        · have e3 : swp r i0 M i = M i := by simp [swp, e1, e2]
          rw [e3]; exact h2 i hi
  · rcases cs j hj with rfl | hj
    · rcases cs j' hj' with rfl | hj'
      · rfl
      · rw [hk, hL j' hj'] at he
        have := (h.led j' hj' (by omega)).1
        omega
    · rcases cs j' hj' with rfl | hj'
      · rw [hk, hL j hj] at he
        rw [hL j hj] at hne
        have := (h.led j hj hne).1
        omega
      · rw [hL j hj] at hne he; rw [hL j' hj'] at he; exact h.inj j j' hj hj' hne he
  · by_cases e1 : i = r
    · exact ⟨k, by omega, by rw [hk, e1]⟩
    · obtain ⟨j, hj, he⟩ := h.sur i (by omega)
      exact ⟨j, by omega, by rw [hL j hj]; exact he⟩
theorem GI.right {c : Nat} (h : GI p n (c + 1) M0 M c r L) {x : Nat → Int} (hx : SolM p n (c + 1) M0 x) (h1 : x c = -1) : ∀ i, r ≤ i → i < n → Cg p (M i c) 0 := fun i hi hn => by
  have := (h.sol x).2 hx i hn
  simp only [sm] at this
  have h0 : Cg p (sm c (fun j => M i j * x j)) 0 := Xkb fun j hj => by
    have := (h.low i hi hn j hj).mul (Cg.refl p (x j))
    rwa [Int.zero_mul] at this
  rw [h1] at this
  have h2 := (h0.sub this)
  exact (Cg.of (by omega)).trans h2
theorem GI.solves {c : Nat} (h : GI p n (c + 1) M0 M c r L) (hz : ∀ i, r ≤ i → i < n → Cg p (M i c) 0) {x : Nat → Int} (hx : ∀ j, j < c → Cg p (x j) (if L j = 0 then 0 else M (L j - 1) c)) (h1 : x c = -1) : SolM p n (c + 1) M0 x := by
  rw [← h.sol]
  intro i hi
  simp only [sm]
  rcases Nat.lt_or_ge i r with hr | hr
  · obtain ⟨q, hq, he⟩ := h.sur i hr
    have h0 : Cg p (sm c (fun j => M i j * x j)) (M i q * x q) := Xka (fun j hj hne => by
      by_cases hl : L j = 0
      · have := (Cg.refl p (M i j)).mul (hx j hj)
        rw [if_pos hl, Int.mul_zero] at this; exact this
      · have h2 := (h.led j hj hl).2 i hi
        rw [if_neg (fun e => hne (h.inj j q hj hq hl (by omega)))] at h2
        have := h2.mul (Cg.refl p (x j))
        rw [Int.zero_mul] at this; exact this) hq
    have h2 := (h.led q hq (by omega)).2 i hi
    rw [if_pos he.symm] at h2
    have h3 := hx q hq
    rw [if_neg (by omega), he, Nat.add_sub_cancel] at h3
    have h4 := h0.trans (h2.mul h3)
    rw [h1]
    have h5 := h4.sub (Cg.refl p (M i c))
    exact (Cg.of (by omega)).trans (h5.trans (Cg.of (by omega)))
  · have h0 : Cg p (sm c (fun j => M i j * x j)) 0 := Xkb fun j hj => by
      have := (h.low i hr hi j hj).mul (Cg.refl p (x j))
      rwa [Int.zero_mul] at this
    rw [h1]
    have h5 := h0.sub (hz i hr hi)
    exact (Cg.of (by omega)).trans h5
end
end Go.Proofs.YtfcicopgdahmcaaGreatDoor.Alg
end

section
namespace Go.Proofs.YtfcicopgdahmcaaGreatDoor.Alg
set_option linter.unusedVariables false
theorem Xg6 (c x : Int) : ∀ l : List Int, pv (l ++ [c]) x = pv l x + c * x ^ l.length
  | [] => by simp [pv]
  | a :: l => by
    simp only [List.cons_append, pv, List.length_cons]
    rw [Xg6 c x l, Int.add_mul, Int.pow_succ, Int.mul_assoc]; omega
theorem Xia (x : Int) : ∀ m, pv (List.replicate m 0) x = 0
  | 0 => rfl
  | m + 1 => by simp only [List.replicate_succ, pv, Xia x m]; simp
def lin (a : Int) (E : List Int) : List Int := padd (0 :: E) (psc (-a) (E ++ [1]))
theorem Xfe (a : Int) (E : List Int) : (lin a E).length = E.length + 1 := by simp [lin, X73, X9r]
theorem Xra (a x : Int) (E : List Int) : pv (lin a E ++ [1]) x = (x - a) * pv (E ++ [1]) x := by
  rw [Xg6, Xfe, lin, Xb2, Xcn]
  simp only [pv]
  rw [Xg6, Int.pow_succ, Int.sub_mul]
  generalize pv E x = u
  generalize x ^ E.length = v
  rw [Int.mul_add x u, Int.mul_comm x u, Int.one_mul, Int.neg_mul, Int.mul_comm x v]; omega
def loc (m : Nat) : List Int → List Int
  | [] => List.replicate m 0
  | a :: T => lin a (loc m T)
theorem Xcx (m : Nat) : ∀ T, (loc m T).length = m + T.length
  | [] => by simp [loc]
  | a :: T => by simp [loc, Xfe, Xcx m T]; omega
theorem Xib (m : Nat) {x : Int} : ∀ {T : List Int}, x ∈ T → pv (loc m T ++ [1]) x = 0
  | a :: T, h => by
    rw [loc, Xra]
    rcases List.mem_cons.1 h with rfl | h
    · rw [Int.sub_self, Int.zero_mul]
    · rw [Xib m h, Int.mul_zero]
def bad (p : Int) (f : List Int) (q : Int × Int) : Bool := decide ((pv f q.1 - q.2) % p ≠ 0)
theorem Xco {p : Int} {f : List Int} {q : Int × Int} (h : bad p f q = false) : Cg p (pv f q.1) q.2 := by
  unfold bad at h
  have h : (pv f q.1 - q.2) % p = 0 := by simpa using h
  exact Cg.of_sub0 (Cg.dvd_iff.2 (Int.dvd_of_emod_eq_zero h))
theorem Xg7 {p : Int} {f : List Int} {q : Int × Int} (h : bad p f q = true) : ¬ Cg p (pv f q.1) q.2 := fun hc => by
  unfold bad at h
  have h : (pv f q.1 - q.2) % p ≠ 0 := by simpa using h
  exact h (Int.emod_eq_zero_of_dvd (Cg.dvd_iff.1 hc.sub0))
def keyRow (k v : Nat) (q : Int × Int) (j : Nat) : Int := if j < k + v then q.1 ^ j else if j < k + v + v then -(q.2 * q.1 ^ (j - (k + v))) else q.2 * q.1 ^ v
def keySol (k v : Nat) (Q E : List Int) (j : Nat) : Int := if j < k + v then gd Q j else if j < k + v + v then gd E (j - (k + v)) else -1
theorem Xkc (k v : Nat) (Q E : List Int) (hQ : Q.length ≤ k + v) (hE : E.length = v) (q : Int × Int) :
    sm (k + v + v + 1) (fun j => keyRow k v q j * keySol k v Q E j) = pv Q q.1 - q.2 * pv (E ++ [1]) q.1 := by
  rw [sm, Xdj]
  have e1 : sm (k + v) (fun j => keyRow k v q j * keySol k v Q E j) = pv Q q.1 := by
    rw [Xi9 q.1 hQ]
    refine Xg5 fun j hj => ?_
    simp only [keyRow, keySol, if_pos hj]
    exact Int.mul_comm _ _
  have e2 : sm v (fun j => keyRow k v q (k + v + j) * keySol k v Q E (k + v + j)) = (-q.2) * pv E q.1 := by
    rw [Xmn, hE, ← Xgy]
    refine Xg5 fun j hj => ?_
    have h1 : ¬ (k + v + j < k + v) := by omega
    have h2 : k + v + j < k + v + v := by omega
    have h3 : k + v + j - (k + v) = j := by omega
    simp only [keyRow, keySol, if_neg h1, if_pos h2, h3]
    rw [Int.neg_mul, Int.neg_mul, Int.mul_comm (gd E j), Int.mul_assoc]
  have e3 : keyRow k v q (k + v + v) * keySol k v Q E (k + v + v) = -(q.2 * q.1 ^ v) := by
    have h1 : ¬ (k + v + v < k + v) := by omega
    have h2 : ¬ (k + v + v < k + v + v) := by omega
    simp only [keyRow, keySol, if_neg h1, if_neg h2]
    omega
  rw [e1, e2, e3, Xg6, hE, Int.one_mul, Int.mul_add, Int.neg_mul]; omega
section
variable {p : Int} {f : List Int} {K : List (Int × Int)} {k v : Nat}
theorem Xgz (hf : f.length ≤ k) (hw : (K.filter (bad p f)).length ≤ v) :
    ∃ Q E : List Int, Q.length ≤ k + v ∧ E.length = v ∧ ∀ q ∈ K, Cg p (pv Q q.1 - q.2 * pv (E ++ [1]) q.1) 0 := by
  refine ⟨pmul f (loc (v - (K.filter (bad p f)).length) ((K.filter (bad p f)).map (·.1)) ++ [1]), loc (v - (K.filter (bad p f)).length) ((K.filter (bad p f)).map (·.1)), ?_, ?_, fun q hq => ?_⟩
  · have h1 := Xcx (v - (K.filter (bad p f)).length) ((K.filter (bad p f)).map (·.1))
    rw [List.length_map] at h1
    by_cases hf0 : f = []
    · subst hf0; simp [pmul]
    · have := Xaa (loc (v - (K.filter (bad p f)).length) ((K.filter (bad p f)).map (·.1)) ++ [1]) (by simp) f hf0
      simp only [List.length_append, List.length_cons, List.length_nil] at this
      omega
  · rw [Xcx, List.length_map]; omega
  · rw [Xef]
    cases hb : bad p f q with
    | true =>
      rw [Xib _ (List.mem_map.2 ⟨q, List.mem_filter.2 ⟨hq, hb⟩, rfl⟩)]
      simp; exact Cg.refl _ _
    | false =>
      have := ((Xco hb).mul (Cg.refl p (pv (loc (v - (K.filter (bad p f)).length) ((K.filter (bad p f)).map (·.1)) ++ [1]) q.1))).sub0
      exact this
theorem Xff {α : Type} (b : α → Bool) : ∀ l : List α, (l.filter b).length + (l.filter (fun x => !b x)).length = l.length
  | [] => rfl
  | a :: l => by
    have := Xff b l
    cases h : b a <;> simp [h] <;> omega
theorem Xje (hp : Pr p) (hf : f.length ≤ k) (hw : (K.filter (bad p f)).length ≤ v) (hK : k + 2 * v ≤ K.length) (ha : Apart p (K.map (·.1)))
    {Q E : List Int} (hQ : Q.length ≤ k + v) (hE : E.length = v) (hs : ∀ q ∈ K, Cg p (pv Q q.1 - q.2 * pv (E ++ [1]) q.1) 0) :
    Z0 p (padd Q (psc (-1) (pmul f (E ++ [1])))) := by
  have hlen := Xff (bad p f) K
  have hpl : (pmul f (E ++ [1])).length ≤ k + v := by
    by_cases hf0 : f = []
    · subst hf0; simp [pmul]
    · have := Xaa (E ++ [1]) (by simp) f hf0
      simp only [List.length_append, List.length_cons, List.length_nil] at this
      omega
  refine roots hp _ ((K.filter (fun q => !bad p f q)).map (·.1)) ?_ ?_ fun x hx => ?_
  · rw [X73, X9r, List.length_map]; omega
  · exact List.Pairwise.sublist (List.Sublist.map _ List.filter_sublist) ha
  · obtain ⟨q, hq, rfl⟩ := List.mem_map.1 hx
    obtain ⟨hq1, hq2⟩ := List.mem_filter.1 hq
    have hb : bad p f q = false := by simpa using hq2
    rw [Xb2, Xcn, Xef]
    have h1 := hs q hq1
    have h2 := ((Xco hb).mul (Cg.refl p (pv (E ++ [1]) q.1))).sub0
    have := h1.sub h2
    exact (Cg.of (by omega)).trans this
theorem Xhp (hp : Pr p) (hf : f.length ≤ k) (hK : k + v ≤ K.length) (ha : Apart p (K.map (·.1)))
    {Q E g r : List Int} (hE : E.length = v) (hz : Z0 p (padd Q (psc (-1) (pmul f (E ++ [1])))))
    (hg : g.length ≤ k) (hr : r.length ≤ v) (hd : ∀ x, Cg p (pv Q x) (pv g x * pv (E ++ [1]) x + pv r x)) :
    Z0 p (padd f (psc (-1) g)) ∧ Z0 p r := by
  -- D = (f - g) E - r vanishes everywhere
  have hD : ∀ x, Cg p (pv (padd (pmul (padd f (psc (-1) g)) (E ++ [1])) (psc (-1) r)) x) 0 := fun x => by
    have h1 := (hd x)
    have h2 := hz.pv x
    rw [Xb2, Xcn, Xef] at h2
    rw [Xb2, Xcn, Xef, Xb2, Xcn, Int.add_mul, Int.mul_assoc]
    have h3 := h1.sub h2
    generalize pv f x * pv (E ++ [1]) x = A at *
    generalize pv g x * pv (E ++ [1]) x = B at *
    have h4 := h3.sub0
    exact (Cg.of (by omega)).trans h4
  have hpl : (pmul (padd f (psc (-1) g)) (E ++ [1])).length ≤ k + v := by
    by_cases hf0 : padd f (psc (-1) g) = []
    · rw [hf0]; simp [pmul]
    · have := Xaa (E ++ [1]) (by simp) _ hf0
      rw [X73, X9r] at this
      simp only [List.length_append, List.length_cons, List.length_nil] at this
      omega
  have hZ : Z0 p (padd (pmul (padd f (psc (-1) g)) (E ++ [1])) (psc (-1) r)) := by
    refine roots hp _ (K.map (·.1)) ?_ ha fun x _ => hD x
    rw [X73, X9r, List.length_map]; omega
  have h1 : Z0 p (padd f (psc (-1) g)) := Xfd (E := E) _ fun i hi => by
    have := hZ i
    rw [Xb1, Xd7, Xcw (l := r) (by omega)] at this
    simpa using this
  refine ⟨h1, fun i => ?_⟩
  have h2 := hZ i
  have h3 := Z0.pmul (m := E ++ [1]) h1 i
  rw [Xb1, Xd7] at h2
  have := h3.sub h2
  exact (Cg.of (by omega)).trans this
end
end Go.Proofs.YtfcicopgdahmcaaGreatDoor.Alg
end

section
namespace Go.Proofs.YtfcicopgdahmcaaGreatDoor
open Alg (Cg Pr)
def Fd (p : Int) : Prop := p = 2 ∨ p = 3 ∨ p = 5 ∨ p = 7 ∨ p = 11 ∨ p = 13 ∨ p = 17 ∨ p = 257 ∨ p = 65521
theorem Fd.rng {p : Int} (h : Fd p) : 2 ≤ p ∧ p ≤ 65521 := by unfold Fd at h; omega
theorem of_eq {p : Int} (h : Fd p) : X2w p = some (p, true) := by
  rcases h with rfl | rfl | rfl | rfl | rfl | rfl | rfl | rfl | rfl <;> kernel_rfl
theorem X9l {n : Nat} (h : n < 65536) (hc : (List.range 256).all (fun d => decide (d < 2) || decide (n < d * d) || decide (n % d ≠ 0)) = true) : Alg.noDiv n := fun d h2 hd => by
  have hd2 : d < 256 := by
    rcases Nat.lt_or_ge d 256 with h3 | h3
    · exact h3
    · have := Nat.mul_le_mul h3 h3; omega
  have := List.all_eq_true.1 hc d (List.mem_range.2 hd2)
  simp only [Bool.or_eq_true, decide_eq_true_eq] at this
  omega
theorem Fd.pr {p : Int} (h : Fd p) : Pr p := by
  rcases h with rfl | rfl | rfl | rfl | rfl | rfl | rfl | rfl | rfl
  · exact Pr.of (n := 2) (by omega) (X9l (by omega) (by kernel_rfl))
  · exact Pr.of (n := 3) (by omega) (X9l (by omega) (by kernel_rfl))
  · exact Pr.of (n := 5) (by omega) (X9l (by omega) (by kernel_rfl))
  · exact Pr.of (n := 7) (by omega) (X9l (by omega) (by kernel_rfl))
  · exact Pr.of (n := 11) (by omega) (X9l (by omega) (by kernel_rfl))
  · exact Pr.of (n := 13) (by omega) (X9l (by omega) (by kernel_rfl))
  · exact Pr.of (n := 17) (by omega) (X9l (by omega) (by kernel_rfl))
  · exact Pr.of (n := 257) (by omega) (X9l (by omega) (by kernel_rfl))
  · exact Pr.of (n := 65521) (by omega) (X9l (by omega) (by kernel_rfl))
def E1 (p a : Int) : Prop := 0 ≤ a ∧ a < p
instance (p a : Int) : Decidable (E1 p a) := inferInstanceAs (Decidable (0 ≤ a ∧ a < p))
def El (p : Int) (l : List Int) : Prop := ∀ x ∈ l, E1 p x
instance (p : Int) (l : List Int) : Decidable (El p l) := inferInstanceAs (Decidable (∀ x ∈ l, E1 p x))
theorem El.nil {p : Int} : El p [] := fun x h => by cases h
theorem El.cons {p a : Int} {l : List Int} : El p (a :: l) ↔ E1 p a ∧ El p l := by unfold El; simp
theorem El.app {p : Int} {l m : List Int} (h : El p l) (h2 : El p m) : El p (l ++ m) := fun x hx => (List.mem_append.1 hx).elim (h x) (h2 x)
theorem E1.emod {p : Int} (hp : 2 ≤ p) (a : Int) : E1 p (a % p) := ⟨Int.emod_nonneg _ (by omega), Int.emod_lt_of_pos _ (by omega)⟩
theorem El.gd {p : Int} (hp : 2 ≤ p) {l : List Int} (h : El p l) (i : Nat) : E1 p (Alg.gd l i) := by
  rcases Nat.lt_or_ge i l.length with hi | hi
  · exact h _ (Alg.Xno hi)
  · rw [Alg.Xcw hi]; exact ⟨by omega, by omega⟩
section
variable {p : Int} (hp : 2 ≤ p ∧ p ≤ 65521)
include hp
theorem nzp : nz p = some () := by unfold nz; rw [if_neg (by omega)]
theorem Xpo {a b : Int} (ha : E1 p a) (hb : E1 p b) : 0 ≤ a * b ∧ a * b ≤ 4293001441 := by
  refine ⟨Int.mul_nonneg ha.1 hb.1, ?_⟩
  have h1 : a * b ≤ 65521 * b := Int.mul_le_mul_of_nonneg_right (by have := ha.2; omega) hb.1
  have := hb.2
  omega
theorem Xcp {a b : Int} (ha : E1 p a) (hb : E1 p b) : Xw p a b = some (a * b % p) := by
  unfold Xw
  obtain ⟨h1, h2⟩ := Xpo hp ha hb
  rw [nzp hp, Option.bind_some, w64_id (by omega) (by omega), Int.tmod_eq_emod_of_nonneg h1]
theorem Xkd {a b : Int} (ha : E1 p a) (hb : E1 p b) : X3s p a b = some ((a + b) % p) := by
  unfold X3s
  obtain ⟨a1, a2⟩ := ha; obtain ⟨b1, b2⟩ := hb
  rw [nzp hp, Option.bind_some, w64_id (by omega) (by omega), Int.tmod_eq_emod_of_nonneg (by omega)]
theorem Xh0 {a b : Int} (ha : E1 p a) (hb : E1 p b) : X20 p a b = some ((a - b) % p) := by
  unfold X20
  obtain ⟨a1, a2⟩ := ha; obtain ⟨b1, b2⟩ := hb
  rw [nzp hp, Option.bind_some, w64_id (x := a - b) (by omega) (by omega), w64_id (by omega) (by omega), Int.tmod_eq_emod_of_nonneg (by omega), Int.add_emod_right]
end
theorem Xnr (f : Int → Option Bool) (P : Int → Prop) [DecidablePred P] (hf : ∀ x, f x = some (decide (P x))) : ∀ (l : List Int) (i : Nat), ∃ r : Int, Xc f l i = some r ∧ (0 ≤ r ↔ ∃ x ∈ l, P x)
  | [], i => ⟨-1, rfl, by simp⟩
  | x :: l, i => by
    rw [Xc]
    unfold X16
    rw [hf, Option.bind_some]
    by_cases h : P x
    · rw [if_pos (decide_eq_true h)]
      exact ⟨_, rfl, fun _ => ⟨x, List.mem_cons_self, h⟩, fun _ => by omega⟩
    · rw [if_neg (by simpa using h)]
      obtain ⟨r, h1, h2⟩ := Xnr f P hf l (i + 1)
      refine ⟨r, h1, h2.trans ⟨fun ⟨y, hy, hP⟩ => ⟨y, List.mem_cons_of_mem _ hy, hP⟩, fun ⟨y, hy, hP⟩ => ?_⟩⟩
      rcases List.mem_cons.1 hy with rfl | hy
      · exact absurd hP h
      · exact ⟨y, hy, hP⟩
theorem all_eq (p : Int) (l : List Int) : Xg p l = some (decide (El p l)) := by
  unfold Xg Xq X2a
  obtain ⟨r, h1, h2⟩ := Xnr (fun y0 => X2h y0 p) (fun x => ¬ E1 p x) (fun x => by
    unfold X2h X2b
    simp only [Option.bind_some]
    congr 1
    by_cases h : E1 p x
    · have h' : 0 ≤ x ∧ x < p := h
      simp [h, h']
    · have h' : ¬ (0 ≤ x ∧ x < p) := h
      simp only [h', h, decide_false, Bool.not_false, not_false_eq_true, decide_true]) l 0
  rw [h1]
  simp only [Option.bind_some]
  congr 1
  by_cases h : El p l
  · have : ¬ 0 ≤ r := fun h0 => by obtain ⟨x, hx, hn⟩ := h2.1 h0; exact hn (h x hx)
    simp [h, this]
  · have : 0 ≤ r := h2.2 (by
      unfold El at h
      simp only [Classical.not_forall] at h
      obtain ⟨x, hx, hn⟩ := h; exact ⟨x, hx, hn⟩)
    simp [h, this]
def at_ (p x : Int) (t l : List Int) : List Int := List.zipWith (fun a b => (a + x * b % p) % p) t l
theorem Xeh {p x : Int} {t l : List Int} (h : t.length = l.length) : (at_ p x t l).length = t.length := by simp [at_, h]
theorem Xmo {p x : Int} (hp : 2 ≤ p) (t l : List Int) : El p (at_ p x t l) := fun y hy => by
  unfold at_ at hy
  obtain ⟨i, hi, rfl⟩ := List.getElem_of_mem hy
  rw [List.getElem_zipWith]
  exact E1.emod hp _
theorem Xmp {p x : Int} {t l : List Int} (h : t.length = l.length) (i : Nat) : Cg p (Alg.gd (at_ p x t l) i) (Alg.gd t i + x * Alg.gd l i) := by
  rcases Nat.lt_or_ge i t.length with hi | hi
  · have hi2 : i < l.length := by omega
    have e : Alg.gd (at_ p x t l) i = (t[i] + x * l[i] % p) % p := by
      simp [Alg.gd, at_, List.getD_eq_getElem?_getD, List.getElem?_zipWith, hi, hi2]
    rw [e, show Alg.gd t i = t[i] by simp [Alg.gd, List.getD_eq_getElem?_getD, hi], show Alg.gd l i = l[i] by simp [Alg.gd, List.getD_eq_getElem?_getD, hi2]]
    exact (Cg.emod p _).trans ((Cg.refl p _).add (Cg.emod p _))
  · rw [Alg.Xcw (l := at_ p x t l) (by rw [Xeh h]; exact hi), Alg.Xcw hi, Alg.Xcw (by omega : l.length ≤ i)]
    exact Cg.of (by simp)
theorem at_L {p x : Int} (hp : 2 ≤ p ∧ p ≤ 65521) (hx : E1 p x) {l : List Int} (hl : El p l) {t : List Int} (ht : El p t) (h : t.length = l.length) : ∀ (xs : List Int) (i : Nat), l.drop i = xs →
    Xb p x xs i ((at_ p x t l).take i ++ t.drop i) = some (at_ p x t l)
  | [], i, hd => by
    have hi : l.length ≤ i := by have := congrArg List.length hd; simp at this; omega
    rw [Xb, List.take_of_length_le (by rw [Xeh h]; omega), List.drop_of_length_le (by omega), List.append_nil]
  | y :: xs, i, hd => by
    have hi : i < l.length := by
      rcases Nat.lt_or_ge i l.length with h2 | h2
      · exact h2
      · rw [List.drop_of_length_le h2] at hd; cases hd
    have hy : y = l[i] := by
      have := List.drop_eq_getElem_cons hi
      rw [hd] at this; exact (List.cons.inj this).1
    have hit : i < t.length := by omega
    have hA : (at_ p x t l).length = t.length := Xeh h
    have el : ((at_ p x t l).take i ++ t.drop i).length = t.length := by simp [hA]; omega
    have eg : ((at_ p x t l).take i ++ t.drop i).getD i 0 = t[i] := by
      rw [List.getD_eq_getElem?_getD, List.getElem?_append_right (by rw [List.length_take]; omega), List.length_take, hA, Nat.min_eq_left (by omega), Nat.sub_self, List.getElem?_drop]
      simp [hit]
    rw [Xb]
    unfold X25
    rw [X4d 0 (by rw [el]; exact hit), eg]
    simp only [Option.bind_some]
    rw [hy, Xcp hp hx (hl _ (List.getElem_mem hi))]
    simp only [Option.bind_some]
    rw [Xkd hp (ht _ (List.getElem_mem hit)) (E1.emod hp.1 _)]
    simp only [Option.bind_some]
    rw [Xc7 (by omega) (by rw [el]; omega)]
    simp only [Option.bind_some, Int.toNat_natCast]
    have es : ((at_ p x t l).take i ++ t.drop i).set i ((t[i] + x * l[i] % p) % p) = (at_ p x t l).take (i + 1) ++ t.drop (i + 1) := by
      rw [List.set_append_right _ _ (by simp; omega), List.length_take, hA, Nat.min_eq_left (by omega), Nat.sub_self, List.drop_eq_getElem_cons hit, List.set_cons_zero, List.take_succ_eq_append_getElem (by rw [hA]; exact hit), List.append_assoc]
      simp [at_]
    rw [es]
    exact at_L hp hx hl ht h xs (i + 1) (by rw [← List.drop_drop, hd]; rfl)
theorem Xpp {p x : Int} (hp : 2 ≤ p ∧ p ≤ 65521) (hx : E1 p x) {l : List Int} (hl : El p l) {t : List Int} (ht : El p t) (h : t.length = l.length) : Xe p t x l = some (at_ p x t l) := by
  have := at_L hp hx hl ht h l 0 rfl
  unfold Xe
  simpa using this
def Rw (p : Int) (w : Nat) (R : List (List Int)) : Prop := ∀ r ∈ R, r.length = w ∧ El p r
theorem Rw.cons {p : Int} {w : Nat} {r : List Int} {R : List (List Int)} : Rw p w (r :: R) ↔ (r.length = w ∧ El p r) ∧ Rw p w R := by unfold Rw; simp
def gr (R : List (List Int)) (i : Nat) : List Int := R.getD i []
def comb (p : Int) : List Int → List (List Int) → List Int → List Int
  | _, [], t => t
  | c, r :: R, t => comb p c.tail R (at_ p (Alg.gd c 0) t r)
theorem Xke {p : Int} (hp : 2 ≤ p) {w : Nat} : ∀ (R : List (List Int)) (c t : List Int), Rw p w R → t.length = w → El p t →
    (comb p c R t).length = w ∧ El p (comb p c R t) ∧ ∀ j, Cg p (Alg.gd (comb p c R t) j) (Alg.gd t j + Alg.sm R.length (fun i => Alg.gd c i * Alg.gd (gr R i) j))
  | [], c, t, _, h2, h3 => ⟨h2, h3, fun j => Cg.of (by simp [comb, Alg.sm])⟩
  | r :: R, c, t, h1, h2, h3 => by
    obtain ⟨⟨a, b⟩, h1⟩ := Rw.cons.1 h1
    obtain ⟨i1, i2, i3⟩ := Xke hp (w := w) R c.tail (at_ p (Alg.gd c 0) t r) h1 (by rw [Xeh (by omega)]; exact h2) (Xmo hp _ _)
    refine ⟨i1, i2, fun j => (i3 j).trans ?_⟩
    have e := Alg.Xdj (fun i => Alg.gd c i * Alg.gd (gr (r :: R) i) j) 1 R.length
    rw [show (r :: R).length = 1 + R.length by simp; omega, e]
    have e2 : Alg.sm 1 (fun i => Alg.gd c i * Alg.gd (gr (r :: R) i) j) = Alg.gd c 0 * Alg.gd r j := by simp [Alg.sm, gr]
    have e3 : (fun i => Alg.gd c (1 + i) * Alg.gd (gr (r :: R) (1 + i)) j) = fun i => Alg.gd c.tail i * Alg.gd (gr R i) j := by
      funext i
      have e4 : Alg.gd c (1 + i) = Alg.gd c.tail i := by cases c <;> simp [Alg.gd, Nat.add_comm]
      rw [e4, Nat.add_comm]; rfl
    rw [e2, e3, ← Int.add_assoc]
    exact (Xmp (by omega) j).add (Cg.refl p _)
theorem Xfg {p : Int} (hp : 2 ≤ p ∧ p ≤ 65521) {w : Nat} {c : List Int} (hc : El p c) : ∀ (xs : List (List Int)) (i : Nat) (t : List Int), Rw p w xs → i + xs.length = c.length → t.length = w → El p t →
    X2x c p xs i t = some (comb p (c.drop i) xs t, 0)
  | [], i, t, _, _, _, _ => rfl
  | r :: xs, i, t, h1, h2, h3, h4 => by
    obtain ⟨⟨a, b⟩, h1⟩ := Rw.cons.1 h1
    simp only [List.length_cons] at h2
    rw [X2x]
    unfold X6f
    rw [X4d 0 (by omega)]
    simp only [Option.bind_some]
    have hci : E1 p (c.getD i 0) := El.gd hp.1 hc i
    rw [Xpp hp hci b h4 (by omega)]
    simp only [Option.bind_some]
    rw [Xfg hp hc xs (i + 1) _ h1 (by omega) (by rw [Xeh (by omega)]; exact h3) (Xmo hp.1 _ _)]
    have e1 : (c.drop i).tail = c.drop (i + 1) := by simp
    have e2 : Alg.gd (c.drop i) 0 = c.getD i 0 := by simp [Alg.gd, List.getD_eq_getElem?_getD]
    rw [comb, e1, e2]
theorem Xfh {p : Int} {w : Nat} (kx : Bool → Int → Option (List Int × Int)) (z : Int) : ∀ (xs : List (List Int)) (v : Bool), Rw p w xs → X2z kx (w : Int) p z xs v = kx v z
  | [], v, _ => rfl
  | r :: xs, v, h => by
    obtain ⟨⟨a, b⟩, h⟩ := Rw.cons.1 h
    rw [X2z]
    unfold X6g
    rw [if_neg (by omega), all_eq]
    simp only [Option.bind_some]
    rw [show (if v = true then some (decide (El p r)) else some false) = some v by cases v <;> simp [b], Option.bind_some]
    exact Xfh kx z xs v h
theorem Xcq {p : Int} (hp : 2 ≤ p) (n : Nat) : El p (List.replicate n 0) := fun x hx => by rw [(List.mem_replicate.1 hx).2]; exact ⟨by omega, by omega⟩
theorem Xdk (n i : Nat) : Alg.gd (List.replicate n 0) i = 0 := by
  rcases Nat.lt_or_ge i n with h | h
  · simp [Alg.gd, List.getD_eq_getElem?_getD, h]
  · exact Alg.Xcw (by simpa using h)
theorem Xfi {α : Type} {n : Nat} (x : α) (h : n ≤ 16777216) : lmk (n : Int) x = some (List.replicate n x) := by unfold lmk; rw [if_pos ⟨by omega, by omega⟩]; simp
theorem Xkf {p : Int} (hf : Fd p) {w : Nat} (hw : w ≤ 64) {R : List (List Int)} (hR : Rw p w R) {c : List Int} (hc : El p c) (hl : c.length = R.length) :
    ∃ a, X4i p (w : Int) R c = some (a, 0) ∧ a.length = w ∧ El p a ∧ ∀ j, Cg p (Alg.gd a j) (Alg.sm R.length (fun i => Alg.gd c i * Alg.gd (gr R i) j)) := by
  have hp := hf.rng
  obtain ⟨h1, h2, h3⟩ := Xke hp.1 (w := w) R c (List.replicate w 0) hR (by simp) (Xcq hp.1 w)
  refine ⟨comb p c R (List.replicate w 0), ?_, h1, h2, fun j => by have := h3 j; rwa [Xdk, Int.zero_add] at this⟩
  unfold X4i X8j
  rw [of_eq hf]
  simp only [Option.bind_some]
  rw [if_neg (by simp), if_neg (by omega), if_neg (by omega), all_eq]
  simp only [Option.bind_some]
  rw [Xfh _ _ R _ hR]
  unfold X2y
  rw [if_neg (by simp [hc]), Xfi _ (by omega)]
  simp only [Option.bind_some]
  rw [Xfg hp hc R 0 _ hR (by omega) (by simp) (Xcq hp.1 w)]
  rfl
end Go.Proofs.YtfcicopgdahmcaaGreatDoor
end

section
namespace Go.Proofs.YtfcicopgdahmcaaGreatDoor
open Alg (Cg Pr)
theorem Xmq {x n : Int} (hn : 1 ≤ n) (hn2 : n ≤ 4294967296) : Xaw x n = some (x % n) := by
  unfold Xaw
  rw [Xgx (by omega)]
  simp only [Option.bind_some]
  have h1 := Int.lt_tmod_of_pos x (by omega : 0 < n)
  have h2 := Int.tmod_lt_of_pos x (by omega : 0 < n)
  rw [w64_id (by omega) (by omega), Int.tmod_eq_emod_of_nonneg (by omega), Int.add_emod_right]
  congr 1
  have h3 := Int.tmod_add_mul_tdiv x n
  have h4 : x.tmod n = x - n * x.tdiv n := by omega
  rw [h4, Int.sub_mul_emod_self_left]
theorem Xkg {l : List Int} (hl : l.length ≤ 1000) {d : List Int × Int} (hd : Dk l d) {n : Int} (hn : 1 ≤ n ∧ n ≤ 4294967296) : ∃ v e, Xd d n = some (v, e) ∧ 0 ≤ v ∧ v < n ∧ Dk l e := by
  obtain ⟨d1, d2⟩ := d
  obtain ⟨rfl, h1, h2⟩ := hd
  dsimp only at h1 h2 hl
  unfold Xd
  split
  · exact ⟨0, (d1, d2), rfl, by omega, by omega, rfl, h1, h2⟩
  · rename_i h
    dsimp only at h ⊢
    rw [Xed 0 (by omega) (by omega)]
    simp only [Option.bind_some]
    rw [Xmq hn.1 hn.2]
    simp only [Option.bind_some]
    refine ⟨_, _, rfl, Int.emod_nonneg _ (by omega), Int.emod_lt_of_pos _ (by omega), rfl, ?_⟩
    dsimp only
    rw [w64_id (by omega) (by omega)]; omega
theorem Xkh (kx : Int → Option ((List Int × Int) × Int)) {p : Int} (hp : 2 ≤ p ∧ p ≤ 65521) : ∀ m : Nat, X43 kx (List.replicate m p) = kx 0
  | 0 => rfl
  | m + 1 => by
    rw [List.replicate_succ, X43]
    unfold X7u
    rw [if_neg (by omega)]
    exact Xkh kx hp m
theorem Xki {p : Int} (hp : 2 ≤ p ∧ p ≤ 65521) (z : Int) : ∀ (m : Nat) (v : Int) (acc : List Int), 0 ≤ v ∧ v ≤ 2147483647 → acc.length + m ≤ 100000 → El p acc →
    ∃ T, X41 X40 z (List.replicate m p) v acc = some ((T, 0), 0) ∧ T.length = acc.length + m ∧ El p T
  | 0, v, acc, _, _, h => ⟨acc, rfl, rfl, h⟩
  | m + 1, v, acc, h1, h2, h3 => by
    rw [List.replicate_succ, X41]
    unfold X7t
    rw [nzp hp, Option.bind_some, Xk (by simp; omega), Option.bind_some]
    rw [w64_id (x := v * 48271) (by omega) (by omega), Int.tmod_eq_emod_of_nonneg (by omega : 0 ≤ v * 48271)]
    have h4 := Int.emod_nonneg (v * 48271) (by omega : (2147483647 : Int) ≠ 0)
    have h5 := Int.emod_lt_of_pos (v * 48271) (by omega : (0 : Int) < 2147483647)
    rw [Int.tmod_eq_emod_of_nonneg h4]
    obtain ⟨T, e, a, b⟩ := Xki hp z m (v * 48271 % 2147483647) (acc ++ [v * 48271 % 2147483647 % p]) (by omega) (by simp; omega) (h3.app (El.cons.2 ⟨E1.emod hp.1 _, El.nil⟩))
    exact ⟨T, e, by rw [a]; simp; omega, b⟩
theorem Xpq {l : List Int} (hl : l.length ≤ 1000) {d : List Int × Int} (hd : Dk l d) {p : Int} (hp : 2 ≤ p ∧ p ≤ 65521) {m : Nat} (hm : m ≤ 16384) : ∃ T e, Xbd d (List.replicate m p) = some ((T, 0), e) ∧ T.length = m ∧ El p T ∧ Dk l e := by
  obtain ⟨v, e, h1, h2, h3, h4⟩ := Xkg hl hd (n := 2147483646) (by omega)
  unfold Xbd
  rw [h1]
  simp only [Option.bind_some]
  rw [w64_id (by omega) (by omega)]
  unfold Xa6
  rw [if_neg (by omega), if_neg (by simp; omega), Xkh _ hp]
  unfold X42
  obtain ⟨T, e1, a, b⟩ := Xki hp 0 m (1 + v) [] (by omega) (by simp; omega) El.nil
  rw [e1]
  exact ⟨T, e, rfl, by simpa using a, b, h4⟩
theorem Xns {p : Int} {T : List Int} (hT : El p T) {n at0 : Nat} (h : at0 + n ≤ T.length) (hl : T.length ≤ 16384) : ∀ (f c : Nat), c ≤ n → n - c < f →
    X2i p (n : Int) T f (c : Int) ((at0 + c : Nat) : Int) ((T.drop at0).take c) = some (0, ((at0 + n : Nat) : Int), (T.drop at0).take n)
  | 0, c, _, h2 => by omega
  | f + 1, c, h1, h2 => by
    rw [X2i]
    unfold X54
    by_cases hc : c < n
    · rw [if_pos (by omega)]
      unfold X66
      dsimp only
      have hx : E1 p (T.getD (at0 + c) 0) := hT _ (by rw [List.getD_eq_getElem?_getD]; simp [show at0 + c < T.length by omega])
      rw [if_neg (by omega), X4d 0 (by omega)]
      simp only [Option.bind_some]
      rw [if_neg (by have := hx.1; have := hx.2; omega)]
      simp only [Option.bind_some]
      rw [if_neg (by simp), Xk (by simp; omega)]
      simp only [Option.bind_some]
      rw [w64_id (x := (c : Int) + 1) (by omega) (by omega), w64_id (by omega) (by omega), show (c : Int) + 1 = ((c + 1 : Nat) : Int) by omega, show ((at0 + c : Nat) : Int) + 1 = ((at0 + (c + 1) : Nat) : Int) by omega]
      have e : (T.drop at0).take c ++ [T.getD (at0 + c) 0] = (T.drop at0).take (c + 1) := by
        rw [List.take_add_one, List.getElem?_drop, List.getD_eq_getElem?_getD]
        simp [show at0 + c < T.length by omega]
      rw [e]
      exact Xns hT h hl f (c + 1) (by omega) (by omega)
    · rw [if_neg (by omega), show c = n by omega]
theorem Xic {p : Int} (hp : 2 ≤ p ∧ p ≤ 65521) {T : List Int} (hT : El p T) {n at0 : Nat} (h : at0 + n ≤ T.length) (hl : T.length ≤ 16384) : X9o (T, (at0 : Int)) p (n : Int) = some ((T, ((at0 + n : Nat) : Int)), (T.drop at0).take n, 0) := by
  unfold X9o Xbq Xbr
  simp only [Option.bind_some]
  rw [if_neg (by simp; omega), if_neg (by simp; omega)]
  unfold X6h
  dsimp only
  have := Xns hT h hl big 0 (by omega) (by simp only [big]; omega)
  rw [show (((at0 + 0 : Nat)) : Int) = (at0 : Int) by simp, List.take_zero] at this
  rw [show (0 : Int) = ((0 : Nat) : Int) from rfl, this]
  simp only [Option.bind_some]
  rw [if_neg (by simp)]
  unfold X8
  rw [Xk (by simp; omega)]
  rfl
theorem Xkj (f : Nat → Nat → Int) (b : Nat) : ∀ a, Alg.sm a (fun k => Alg.sm b (fun i => f k i)) = Alg.sm b (fun i => Alg.sm a (fun k => f k i))
  | 0 => by simp [Alg.sm, Alg.Xeg]
  | a + 1 => by
    have := Xkj f b a
    simp only [Alg.sm]
    rw [this, Alg.Xk9]
theorem Xd8 (c : Int) (f : Nat → Int) (n : Nat) : Alg.sm n (fun i => f i * c) = Alg.sm n f * c := by
  rw [Int.mul_comm, ← Alg.Xgy]
  exact Alg.Xg5 fun i _ => Int.mul_comm _ _
structure Ans (p : Int) (w : Nat) (R qs As : List (List Int)) : Prop where
  len : As.length = qs.length
  rw : Rw p w As
  ans : ∀ k, k < qs.length → X4i p (w : Int) R (gr qs k) = some (gr As k, 0)
  sum : ∀ k, k < qs.length → ∀ j, Cg p (Alg.gd (gr As k) j) (Alg.sm R.length (fun i => Alg.gd (gr qs k) i * Alg.gd (gr R i) j))
theorem Xnt {p : Int} (hf : Fd p) {w : Nat} (hw : w ≤ 64) {R : List (List Int)} (hR : Rw p w R) : ∀ {qs : List (List Int)}, Rw p R.length qs → ∃ As, Ans p w R qs As
  | [], _ => ⟨[], { len := rfl, rw := (fun r hr => by cases hr), ans := fun k hk => absurd hk (by simp), sum := fun k hk => absurd hk (by simp) }⟩
  | q :: qs, h => by
    obtain ⟨⟨a, b⟩, h⟩ := Rw.cons.1 h
    obtain ⟨As, hA⟩ := Xnt hf hw hR h
    obtain ⟨x, x1, x2, x3, x4⟩ := Xkf hf hw hR b a
    refine ⟨x :: As, { len := by simp [hA.len], rw := Rw.cons.2 ⟨⟨x2, x3⟩, hA.rw⟩, ans := fun k hk => ?_, sum := fun k hk j => ?_ }⟩
    · cases k with
      | zero => exact x1
      | succ k => exact hA.ans k (by simpa using hk)
    · cases k with
      | zero => exact x4 j
      | succ k => exact hA.sum k (by simpa using hk) j
theorem Xnu {l : List Int} : ∀ (xs : List Int) (i : Nat), l.drop i = xs → X5h l xs i = some true
  | [], _, _ => rfl
  | x :: xs, i, h => by
    have hi : i < l.length := by
      rcases Nat.lt_or_ge i l.length with h2 | h2
      · exact h2
      · rw [List.drop_of_length_le h2] at h; cases h
    have hx : x = l.getD i 0 := by
      have := List.drop_eq_getElem_cons hi
      rw [h] at this
      rw [(List.cons.inj this).1]; simp [List.getD_eq_getElem?_getD, hi]
    rw [X5h]
    unfold X95
    rw [X4d 0 hi, Option.bind_some, if_neg (fun h2 => h2 hx)]
    exact Xnu xs (i + 1) (by rw [← List.drop_drop, h]; rfl)
theorem Xkk (l : List Int) : X9n l l = some true := by
  unfold X9n
  rw [if_neg (by simp)]
  exact Xnu l 0 rfl
end Go.Proofs.YtfcicopgdahmcaaGreatDoor
end

section
namespace Go.Proofs.YtfcicopgdahmcaaGreatDoor
open Alg (Cg Pr)
def ibk (L : List Int) : Nat → List (Int × Int)
  | 0 => []
  | n + 1 => ((n : Int), L.getD n 0) :: ibk L n
theorem Xrb (L : List Int) (hL : L.length ≤ 100000) : ∀ (f m : Nat), m ≤ L.length → m < f → Xa L f ((m : Int) - 1) = some (ibk L m)
  | 0, m, _, h => by omega
  | f + 1, m, h1, h2 => by
    show X9 L (Xa L f) _ = _
    unfold X9
    cases m with
    | zero => rw [if_neg (by omega)]; rfl
    | succ m =>
      rw [if_pos (by omega), show ((m + 1 : Nat) : Int) - 1 = (m : Int) by omega, X4d 0 (by omega), Option.bind_some, w64_id (by omega) (by omega), Xrb L hL f m (by omega) (by omega)]
      rfl
theorem Xmr (L : List Int) (hL : L.length ≤ 100000) : X11 L = some (ibk L L.length) := by
  unfold X11 X22
  rw [w64_id (by omega) (by omega), Xrb L hL big L.length (Nat.le_refl _) (by simp only [big]; omega)]
  rfl
theorem Xkl {p : Int} (hp : 2 ≤ p ∧ p ≤ 65521) {L : List Int} (hl : El p L) {x : Int} (hx : E1 p x) : ∀ (m : Nat) (v : Int), m ≤ L.length → E1 p v → Cg p v (Alg.pv (L.drop m) x) →
    ∃ r, X1m X1l p x (ibk L m) v = some r ∧ E1 p r ∧ Cg p r (Alg.pv L x)
  | 0, v, _, hv, hc => ⟨v, rfl, hv, by simpa using hc⟩
  | m + 1, v, h, hv, hc => by
    rw [ibk, X1m]
    unfold X4a
    rw [Xcp hp hv hx, Option.bind_some]
    have he : E1 p (L.getD m 0) := El.gd hp.1 hl m
    rw [Xkd hp (E1.emod hp.1 _) he, Option.bind_some]
    refine Xkl hp hl hx m _ (by omega) (E1.emod hp.1 _) ?_
    rw [List.drop_eq_getElem_cons (by omega : m < L.length), Alg.pv]
    have e : L.getD m 0 = L[m] := by simp [List.getD_eq_getElem?_getD, show m < L.length by omega]
    rw [e]
    refine (Cg.emod p _).trans ?_
    have h1 := ((Cg.emod p (v * x)).trans (hc.mul (Cg.refl p x))).add (Cg.refl p L[m])
    refine h1.trans (Cg.of ?_)
    omega
theorem Xdl {p : Int} (hp : 2 ≤ p ∧ p ≤ 65521) {L : List Int} (hl : El p L) (hL : L.length ≤ 100000) {x : Int} (hx : E1 p x) : ∃ r, X1s p L x = some r ∧ E1 p r ∧ Cg p r (Alg.pv L x) := by
  unfold X1s
  rw [Xmr L hL, Option.bind_some]
  refine Xkl hp hl hx L.length 0 (Nat.le_refl _) ⟨by omega, by omega⟩ ?_
  rw [List.drop_of_length_le (Nat.le_refl _)]; exact Cg.refl p _
theorem Xrc {p : Int} (hp : 2 ≤ p ∧ p ≤ 65521) (hpr : Pr p) {a : Int} : ∀ (f : Nat) (r s X Y sg : Int), s.toNat < f → 0 ≤ s → s < r → r ≤ p → (s = 0 → r < p) → 0 ≤ X → 0 ≤ Y → r * Y + s * X = p → (sg = 1 ∨ sg = -1) →
    Cg p r (a * (-sg * X)) → Cg p s (a * (sg * Y)) → ∃ b, X17 p f r s (-sg * X) (sg * Y) = some b ∧ E1 p b ∧ Cg p (a * b) 1
  | 0, r, s, X, Y, sg, h, _, _, _, _, _, _, _, _, _, _ => by omega
  | f + 1, r, s, X, Y, sg, hf, h0, h1, h2, h3, hX, hY, hs, hsg, c1, c2 => by
    rw [X17]
    unfold X2c
    have hr1 : 1 ≤ r := by omega
    have hsX : 0 ≤ s * X := Int.mul_nonneg h0 hX
    have hrY : 0 ≤ r * Y := Int.mul_nonneg (by omega) hY
    have hYp : Y ≤ p := by
      have : 1 * Y ≤ r * Y := Int.mul_le_mul_of_nonneg_right hr1 hY
      omega
    by_cases hs0 : s = 0
    · subst hs0
      rw [if_neg (by simp)]
      rw [nzp hp]
      simp only [Option.bind_some]
      have hr0 : r * Y = p := by omega
      have hrp := h3 rfl
      have hc : Cg p (r * Y) 0 := by rw [hr0]; exact ⟨1, by omega⟩
      have hr : r = 1 := by
        rcases hpr.dom hc with hc | hc
        · have := hc.small (by omega) hrp; omega
        · rcases Int.lt_or_le Y p with hlt | hge
          · have := hc.small hY hlt
            subst this; omega
          · have : Y = p := by omega
            subst this
            rcases Int.lt_or_le 1 r with h | h
            · have := Int.mul_le_mul_of_nonneg_right (show 2 ≤ r by omega) hY
              omega
            · omega
      subst hr
      have hm := Int.tmod_lt_of_pos (-sg * X) (by omega : 0 < p)
      have hm2 := Int.lt_tmod_of_pos (-sg * X) (by omega : 0 < p)
      rw [w64_id (by omega) (by omega), Int.tmod_eq_emod_of_nonneg (by omega), Int.add_emod_right]
      refine ⟨_, rfl, E1.emod hp.1 _, ?_⟩
      have h4 : Cg p ((-sg * X).tmod p % p) (-sg * X) := (Cg.emod p _).trans (Cg.tmod p _)
      exact ((Cg.refl p a).mul h4).trans c1.symm
    · rw [if_pos hs0]
      have hs1 : 1 ≤ s := by omega
      have hXp : X ≤ p := by
        have : 1 * X ≤ s * X := Int.mul_le_mul_of_nonneg_right hs1 hX
        omega
      rw [Xgx hs0]
      simp only [Option.bind_some]
      have eq : Int.tdiv r s = r / s := Int.tdiv_eq_ediv_of_nonneg (by omega)
      have hq0 : 0 ≤ r / s := Int.ediv_nonneg (by omega) h0
      have hem := Int.emod_add_mul_ediv r s
      have hm0 := Int.emod_nonneg r hs0
      have hm1 := Int.emod_lt_of_pos r (by omega : 0 < s)
      have hqr : r / s ≤ r := Int.ediv_le_self _ (by omega)
      have hqY : 0 ≤ (r / s) * Y := Int.mul_nonneg hq0 hY
      -- the next ones
      have hsum : s * (X + (r / s) * Y) + (r % s) * Y = p := by
        have : r * Y = (r % s + s * (r / s)) * Y := by rw [hem]
        rw [Int.add_mul, Int.mul_assoc] at this
        rw [Int.mul_add]; omega
      have hnb : X + (r / s) * Y ≤ p := by
        have a1 : 1 * (X + (r / s) * Y) ≤ s * (X + (r / s) * Y) := Int.mul_le_mul_of_nonneg_right hs1 (by omega)
        have a2 : 0 ≤ (r % s) * Y := Int.mul_nonneg hm0 hY
        omega
      have hqs : s * (r / s) ≤ r := by omega
      have hqs0 : 0 ≤ s * (r / s) := Int.mul_nonneg h0 hq0
      rw [eq, w64_id (x := r / s) (by omega) (by omega), Int.mul_comm (r / s) s, w64_id (x := s * (r / s)) (by omega) (by omega), show r - s * (r / s) = r % s by omega, w64_id (x := r % s) (by omega) (by omega)]
      have e1 : (r / s) * (sg * Y) = sg * ((r / s) * Y) := by rw [← Int.mul_assoc, Int.mul_comm (r / s), Int.mul_assoc]
      have e2 : -sg * X - sg * ((r / s) * Y) = -sg * (X + (r / s) * Y) := by rw [Int.mul_add, Int.neg_mul, Int.neg_mul]; omega
      have hb1 : -9223372036854775808 ≤ sg * ((r / s) * Y) ∧ sg * ((r / s) * Y) ≤ 9223372036854775807 := by
        rcases hsg with rfl | rfl <;> omega
      have hb2 : -9223372036854775808 ≤ -sg * (X + (r / s) * Y) ∧ -sg * (X + (r / s) * Y) ≤ 9223372036854775807 := by
        rcases hsg with rfl | rfl <;> omega
      rw [e1, w64_id (x := sg * ((r / s) * Y)) hb1.1 hb1.2, e2, w64_id hb2.1 hb2.2]
      have e3 : sg * Y = - -sg * Y := by rw [Int.neg_neg]
      rw [e3]
      refine Xrc hp hpr f s (r % s) Y (X + (r / s) * Y) (-sg) (by omega) hm0 hm1 (by omega) (fun _ => by omega) hY (by omega) hsum (by omega) (by rw [← e3]; exact c2) ?_
      -- r % s is r - (r / s) s
      have h5 := c1.sub (c2.mul (Cg.refl p (r / s)))
      refine (Cg.of (by omega : r % s = r - s * (r / s))).trans (h5.trans (Cg.of ?_))
      rw [← e2, Int.mul_sub, ← e1, Int.mul_assoc a, Int.mul_comm (sg * Y)]
theorem Xcy {p : Int} (hf : Fd p) {a : Int} (ha : E1 p a) (h0 : a ≠ 0) : ∃ b, Xn p a = some b ∧ E1 p b ∧ Cg p (a * b) 1 := by
  have hp := hf.rng
  obtain ⟨a1, a2⟩ := ha
  have := Xrc hp hf.pr (a := a) big p a 0 1 1 (by simp only [big]; omega) a1 a2 (by omega) (fun h => absurd h h0) (by omega) (by omega) (by omega) (Or.inl rfl) ⟨1, by simp⟩ (Cg.of (by simp))
  unfold Xn
  simpa using this
theorem Xpr {p : Int} (hf : Fd p) : ∃ b, Xn p 1 = some b ∧ E1 p b ∧ Cg p b 1 := by
  obtain ⟨b, h1, h2, h3⟩ := Xcy hf (a := 1) ⟨by omega, by have := hf.rng; omega⟩ (by omega)
  exact ⟨b, h1, h2, by rwa [Int.one_mul] at h3⟩
def tn : List Int → Nat
  | [] => 0
  | a :: l => if tn l = 0 then (if a = 0 then 0 else 1) else tn l + 1
theorem Xei : ∀ l : List Int, tn l ≤ l.length
  | [] => Nat.le_refl _
  | a :: l => by
    have := Xei l
    unfold tn; simp only [List.length_cons]; split
    · split <;> omega
    · omega
theorem Xcz : ∀ (l : List Int) (i : Nat), tn l ≤ i → Alg.gd l i = 0
  | [], i, _ => rfl
  | a :: l, i, h => by
    unfold tn at h
    cases i with
    | zero =>
      split at h
      · split at h
        · rename_i h2; simpa [Alg.gd] using h2
        · omega
      · omega
    | succ i =>
      rw [Alg.Xee]
      refine Xcz l i ?_
      split at h
      · omega
      · omega
theorem Xg8 : ∀ l : List Int, 0 < tn l → Alg.gd l (tn l - 1) ≠ 0
  | [], h => by simp [tn] at h
  | a :: l, h => by
    have ih := Xg8 l
    unfold tn at h ⊢
    split
    · rename_i h2
      rw [if_pos h2] at h
      split
      · rename_i h3; rw [if_pos h3] at h; omega
      · rename_i h3; simpa [Alg.gd] using h3
    · rename_i h2
      have : tn l + 1 - 1 = (tn l - 1) + 1 := by omega
      rw [this, Alg.Xee]
      exact ih (by omega)
theorem Xps (l : List Int) {a : Int} (h : a ≠ 0) : tn (l ++ [a]) = l.length + 1 := by
  have h1 := Xei (l ++ [a])
  have h2 : Alg.gd (l ++ [a]) l.length = a := by simp [Alg.gd, List.getD_eq_getElem?_getD]
  rcases Nat.lt_or_ge l.length (tn (l ++ [a])) with h3 | h3
  · simp at h1; omega
  · rw [Xcz _ _ h3] at h2; exact absurd h2.symm h
def trim (l : List Int) : List Int := l.take (tn l)
theorem Xbu (l : List Int) : (trim l).length = tn l := by unfold trim; rw [List.length_take]; exact Nat.min_eq_left (Xei l)
theorem Xc8 (l : List Int) (i : Nat) : Alg.gd (trim l) i = Alg.gd l i := by
  rcases Nat.lt_or_ge i (tn l) with h | h
  · simp [trim, Alg.gd, List.getD_eq_getElem?_getD, List.getElem?_take, h]
  · rw [Xcz l i h, Alg.Xcw (by rw [Xbu]; exact h)]
theorem Xkm {p : Int} {l : List Int} (h : El p l) : El p (trim l) := fun x hx => h x (List.mem_of_mem_take hx)
theorem Xkn (l : List Int) {a : Int} (h : a ≠ 0) : trim (l ++ [a]) = l ++ [a] := by
  unfold trim; rw [Xps l h, List.take_of_length_le (by simp)]
theorem Xko {l : List Int} (hl : l.length ≤ 100000) (kx : Int → Option (List Int)) : ∀ (f m : Nat), tn l ≤ m → m ≤ l.length → m - tn l < f → X56 kx l f (m : Int) = kx (tn l : Int)
  | 0, m, _, _, h => by omega
  | f + 1, m, h1, h2, h3 => by
    rw [X56]
    unfold X7j
    by_cases h0 : 0 < m
    · rw [if_pos (by omega), w64_id (by omega) (by omega), show (m : Int) - 1 = ((m - 1 : Nat) : Int) by omega, X4d 0 (by omega)]
      simp only [Option.bind_some]
      by_cases hm : m = tn l
      · have := Xg8 l (by omega)
        rw [if_neg (by rw [hm]; unfold Alg.gd at this; simpa using this), hm]
      · have := Xcz l (m - 1) (by omega)
        unfold Alg.gd at this
        rw [if_pos (by rw [this]; rfl)]
        exact Xko hl kx f (m - 1) (by omega) (by omega) (by omega)
    · have : m = 0 := by omega
      subst this
      have h4 : tn l = 0 := by omega
      rw [if_neg (by omega), h4]
      simp
theorem Xkp {l : List Int} (hl : l.length ≤ 100000) : X75 l = some (trim l) := by
  unfold X75
  rw [Xko hl _ big l.length (Xei l) (Nat.le_refl _) (by simp only [big]; omega)]
  unfold X3v
  have := Xei l
  unfold lsub
  rw [if_pos ⟨by omega, by omega, by omega⟩]
  simp [trim]
theorem Xkq {l : List Int} (hl : l.length ≤ 100000) (kx : Int → Option ((Int × Int) × List Int)) : ∀ (f m : Nat), tn l ≤ m → m ≤ l.length → m - tn l < f → X3t kx l f (m : Int) = kx (tn l : Int)
  | 0, m, _, _, h => by omega
  | f + 1, m, h1, h2, h3 => by
    rw [X3t]
    unfold X6j
    by_cases h0 : 0 < m
    · rw [if_pos (by omega), w64_id (by omega) (by omega), show (m : Int) - 1 = ((m - 1 : Nat) : Int) by omega, X4d 0 (by omega)]
      simp only [Option.bind_some]
      by_cases hm : m = tn l
      · have := Xg8 l (by omega)
        rw [if_neg (by rw [hm]; unfold Alg.gd at this; simpa using this), hm]
      · have := Xcz l (m - 1) (by omega)
        unfold Alg.gd at this
        rw [if_pos (by rw [this]; rfl)]
        exact Xkq hl kx f (m - 1) (by omega) (by omega) (by omega)
    · have : m = 0 := by omega
      subst this
      have h4 : tn l = 0 := by omega
      rw [if_neg (by omega), h4]
      simp
theorem Xms {l : List Int} (hl : l.length ≤ 100000) : X6n l = some ((0, (tn l : Int)), l) := by
  unfold X6n
  rw [Xkq hl _ big l.length (Xei l) (Nat.le_refl _) (by simp only [big]; omega)]
  unfold X30
  have := Xei l
  unfold psub
  rw [if_pos ⟨by omega, by omega, by omega, by omega⟩]
  simp
theorem Xid {l : List Int} (hl : l.length ≤ 100000) : Xa4 l = some (trim l) := by
  have := Xei l
  unfold Xa4
  rw [Xkp hl, Option.bind_some, Xk (by simp [Xbu]; omega)]
  simp
theorem Xnv {p : Int} (kx : Bool → Int → Option (Int × Int)) (z : Int) : ∀ (L : List (List Int)), (∀ l ∈ L, El p l ∧ l.length ≤ 512) → X68 kx p z L false = kx false z
  | [], _ => rfl
  | l :: L, h => by
    obtain ⟨⟨h1, h2⟩, h⟩ := List.forall_mem_cons.1 h
    rw [X68]
    unfold Xa3
    rw [all_eq, Option.bind_some, if_neg (by simp [h1]), decide_eq_false (by simp; omega)]
    exact Xnv kx z L h
theorem Xkr {p : Int} (hf : Fd p) {L : List (List Int)} (h : ∀ l ∈ L, El p l ∧ l.length ≤ 512) : Xaf p L = some (p, 0) := by
  unfold Xaf
  rw [of_eq hf, Option.bind_some, if_neg (by simp), Xnv _ _ L h]
  rfl
end Go.Proofs.YtfcicopgdahmcaaGreatDoor
end

section
namespace Go.Proofs.YtfcicopgdahmcaaGreatDoor
open Alg (Cg Pr)
theorem Xh1 {α β : Type} [DecidableEq α] (k : α) (v : β) (k' : α) : ∀ l : List (α × β), mget (mput l k v) k' = if k = k' then some v else mget l k'
  | [] => by simp [mput, mget]
  | (a, b) :: l => by
    have ih := Xh1 k v k' l
    by_cases h1 : a = k
    · subst h1
      simp only [mput, if_pos, mget]
      by_cases h2 : a = k'
      · simp [h2]
      · simp [h2]
    · simp only [mput, if_neg h1, mget]
      by_cases h2 : a = k'
      · subst h2; rw [if_pos rfl, if_pos rfl, if_neg (fun e => h1 e.symm)]
      · rw [if_neg h2, if_neg h2, ih]
theorem Xrd {p x : Int} (hp : 2 ≤ p ∧ p ≤ 65521) (hx : E1 p x) : ∀ (xs : List Int) (i : Nat) (t : List Int), El p xs → El p t → i + xs.length ≤ t.length →
    ∃ r, Xb p x xs i t = some r ∧ El p r ∧ r.length = t.length
  | [], i, t, _, h, _ => ⟨t, rfl, h, rfl⟩
  | y :: xs, i, t, h1, h2, h3 => by
    obtain ⟨hy, h1⟩ := El.cons.1 h1
    simp only [List.length_cons] at h3
    rw [Xb]
    unfold X25
    rw [X4d 0 (by omega)]
    simp only [Option.bind_some]
    rw [Xcp hp hx hy]
    simp only [Option.bind_some]
    rw [Xkd hp (show E1 p (t.getD i 0) from El.gd hp.1 h2 i) (E1.emod hp.1 _)]
    simp only [Option.bind_some]
    rw [Xc7 (by omega) (by omega)]
    simp only [Option.bind_some]
    obtain ⟨r, a, b, c⟩ := Xrd hp hx xs (i + 1) (t.set (i : Int).toNat ((t.getD i 0 + x * y % p) % p)) h1 (fun z hz => by
      rcases List.mem_or_eq_of_mem_set hz with hz | rfl
      · exact h2 z hz
      · exact E1.emod hp.1 _) (by simp; omega)
    exact ⟨r, a, b, by rw [c]; simp⟩
theorem Xnw {p x : Int} (hp : 2 ≤ p ∧ p ≤ 65521) (hx : E1 p x) {t l : List Int} (hl : El p l) (ht : El p t) (h : l.length ≤ t.length) :
    ∃ r, Xe p t x l = some r ∧ El p r ∧ r.length = t.length := by
  unfold Xe
  exact Xrd hp hx l 0 t hl ht (by omega)
theorem Xnx {p : Int} {l s : List Int} (hl : El p l) (hs : El p s) (i : Int) (n : Nat) : El p (lcpy l i n s) := fun z hz => by
  unfold lcpy at hz
  simp only [List.mem_append] at hz
  rcases hz with (hz | hz) | hz
  · exact hl z (List.mem_of_mem_take hz)
  · exact hs z (List.mem_of_mem_take hz)
  · exact hl z (List.mem_of_mem_drop hz)
theorem Xhq {α : Type} {l s : List α} {i : Int} {n : Nat} (h0 : 0 ≤ i) (h : i.toNat + n ≤ l.length) : (lcpy l i n s).length = l.length := by
  unfold lcpy
  simp only [List.length_append, List.length_take, List.length_drop]
  omega
theorem Xks {p : Int} (hp : 2 ≤ p ∧ p ≤ 65521) {b : List Int} (hb : El p b) (hb1 : 1 ≤ b.length) : ∀ (xs : List Int) (i : Nat) (v : List Int), El p xs → El p v → i + xs.length + b.length ≤ v.length + 1 → v.length ≤ 1000 →
    ∃ r, X5i p b xs i v = some r ∧ El p r ∧ r.length = v.length
  | [], i, v, _, h, _, _ => ⟨v, rfl, h, rfl⟩
  | x :: xs, i, v, h1, h2, h3, h4 => by
    obtain ⟨hx, h1⟩ := El.cons.1 h1
    simp only [List.length_cons] at h3
    rw [X5i]
    unfold X98 psub
    rw [if_pos ⟨by omega, by omega, by omega, by omega⟩]
    simp only [Option.bind_some]
    rw [X5c (by omega) (by omega) (by omega)]
    simp only [Option.bind_some]
    have hdl : ((v.drop (0 + (i : Int)).toNat).take (0 + ((v.length : Int) - 0) - (0 + (i : Int))).toNat).length = v.length - i := by
      rw [List.length_take, List.length_drop]; omega
    obtain ⟨r, a, c, d⟩ := Xnw hp hx (t := (v.drop (0 + (i : Int)).toNat).take (0 + ((v.length : Int) - 0) - (0 + (i : Int))).toNat) hb (fun z hz => h2 z (List.mem_of_mem_drop (List.mem_of_mem_take hz))) (by rw [hdl]; omega)
    rw [a]
    simp only [Option.bind_some]
    have hl : (lcpy v (0 + (i : Int)) ((v.drop (0 + (i : Int)).toNat).take (0 + ((v.length : Int) - 0) - (0 + (i : Int))).toNat).length r).length = v.length := Xhq (by omega) (by rw [hdl]; omega)
    obtain ⟨r2, a2, c2, d2⟩ := Xks hp hb hb1 xs (i + 1) _ h1 (Xnx h2 c (0 + (i : Int)) ((v.drop (0 + (i : Int)).toNat).take (0 + ((v.length : Int) - 0) - (0 + (i : Int))).toNat).length) (by rw [hl]; omega) (by rw [hl]; exact h4)
    exact ⟨r2, a2, c2, by rw [d2, hl]⟩
theorem Xmt {p : Int} (hp : 2 ≤ p ∧ p ≤ 65521) {a b : List Int} (ha : El p a) (hb : El p b) (ha1 : 1 ≤ a.length) (hb1 : 1 ≤ b.length) (h : a.length + b.length ≤ 1000) :
    ∃ r, Xag p a b = some r ∧ El p r ∧ r.length = a.length + b.length - 1 := by
  unfold Xag
  rw [w64_id (x := (a.length : Int) + b.length) (by omega) (by omega), w64_id (by omega) (by omega), show (a.length : Int) + b.length - 1 = ((a.length + b.length - 1 : Nat) : Int) by omega, Xfi _ (by omega), Option.bind_some]
  obtain ⟨r, e1, e2, e3⟩ := Xks hp hb hb1 a 0 (List.replicate (a.length + b.length - 1) 0) ha (Xcq hp.1 _) (by simp; omega) (by simp; omega)
  exact ⟨r, e1, e2, by rw [e3]; simp⟩
theorem Xpt {p : Int} (hf : Fd p) {a : Int} (ha : E1 p a) : ∃ b, Xn p a = some b ∧ E1 p b := by
  have hp := hf.rng
  by_cases h : a = 0
  · subst h
    refine ⟨0, ?_, by omega, by omega⟩
    unfold Xn
    rw [show big = (big - 1) + 1 from rfl, X17]
    unfold X2c
    rw [if_neg (by simp), nzp hp]
    simp only [Option.bind_some, Int.zero_tmod, Int.zero_add]
    rw [w64_id (by omega) (by omega), Int.tmod_self]
  · obtain ⟨b, h1, h2, _⟩ := Xcy hf ha h
    exact ⟨b, h1, h2⟩
theorem Xh2 {p : Int} (hf : Fd p) {vs : List Int} (hvs : El p vs) (m : List (Int × Bool)) (z : Int) : ∀ (xs : List Int) (i : Nat) (P N : List Int), El p xs → El p P → El p N → N.length = i + 1 → P.length ≤ N.length → i + xs.length = vs.length → vs.length ≤ 400 →
    ∃ r, X1u X1t vs p m z xs i P N = some (r, 0)
  | [], i, P, N, _, hP, _, h1, h2, _, h4 => by
    rw [X1u]
    unfold X1t
    rw [Xid (by omega)]
    exact ⟨_, rfl⟩
  | x :: xs, i, P, N, hxs, hP, hN, h1, h2, h3, h4 => by
    have hp := hf.rng
    obtain ⟨hx, hxs⟩ := El.cons.1 hxs
    simp only [List.length_cons] at h3
    rw [X1u]
    unfold X5j
    rw [X4d 0 (by omega)]
    simp only [Option.bind_some]
    obtain ⟨a, a1, a2, _⟩ := Xdl hp hP (by omega) hx
    rw [a1, Option.bind_some, Xh0 hp (show E1 p (vs.getD i 0) from El.gd hp.1 hvs i) a2, Option.bind_some]
    obtain ⟨b, b1, b2, _⟩ := Xdl hp hN (by omega) hx
    rw [b1, Option.bind_some]
    obtain ⟨c, c1, c2⟩ := Xpt hf b2
    rw [c1, Option.bind_some, Xcp hp (E1.emod hp.1 _) c2, Option.bind_some, Xfi _ (by omega), Option.bind_some, X5c (by omega) (by simp) (by simp), Option.bind_some]
    have hdl : ((List.drop (0 : Int).toNat (List.replicate N.length (0 : Int))).take (((List.replicate N.length (0 : Int)).length : Int) - 0).toNat).length = N.length := by simp
    obtain ⟨r, r1, r2, r3⟩ := Xnw hp (x := ((vs.getD i 0 - a) % p * c) % p) (E1.emod hp.1 _) hN (Xnx (Xcq hp.1 N.length) hP 0 ((List.drop (0 : Int).toNat (List.replicate N.length (0 : Int))).take (((List.replicate N.length (0 : Int)).length : Int) - 0).toNat).length) (by rw [Xhq (by omega) (by rw [hdl]; simp)]; simp)
    rw [r1, Option.bind_some]
    rw [Xhq (by omega) (by rw [hdl]; simp)] at r3
    rw [Xh0 hp ⟨by omega, by omega⟩ hx, Option.bind_some]
    obtain ⟨t, t1, t2, t3⟩ := Xmt hp hN (b := [(0 - x) % p, 1]) (El.cons.2 ⟨E1.emod hp.1 _, El.cons.2 ⟨⟨by omega, by omega⟩, El.nil⟩⟩) (by omega) (by simp) (by simp; omega)
    rw [t1, Option.bind_some]
    simp only [List.length_replicate] at r3
    simp only [List.length_cons, List.length_nil] at t3
    exact Xh2 hf hvs m z xs (i + 1) r t hxs r2 t2 (by omega) (by omega) (by omega) h4
theorem Xh3 (kx : List (Int × Bool) → Int → Option (List Int × Int)) (z : Int) : ∀ (xs : List Int) (m : List (Int × Bool)), xs.Nodup → (∀ x ∈ xs, mget m x = none) → ∃ m', X28 kx z xs m = kx m' z
  | [], m, _, _ => ⟨m, rfl⟩
  | x :: xs, m, h1, h2 => by
    obtain ⟨h3, h1⟩ := List.nodup_cons.1 h1
    rw [X28]
    unfold X5k
    rw [h2 x List.mem_cons_self, if_neg (by simp)]
    refine Xh3 kx z xs _ h1 fun y hy => ?_
    rw [Xh1, if_neg (fun e => h3 (by rw [e]; exact hy))]
    exact h2 y (List.mem_cons_of_mem _ hy)
theorem Xh4 (kx : List Int → List Int → Int → Option (List Int × Int)) (z : Int) : ∀ (l : List (Int × Int)) (a b : List Int), a.length + l.length ≤ 1000 → b.length = a.length → X1w kx z l a b = kx (a ++ l.map (·.1)) (b ++ l.map (·.2)) z
  | [], a, b, _, _ => by simp [X1w]
  | x :: l, a, b, h1, h2 => by
    simp only [List.length_cons] at h1
    rw [X1w]
    unfold X5l
    rw [Xk (by simp; omega), Option.bind_some, Xk (by simp; omega), Option.bind_some, Xh4 kx z l _ _ (by simp; omega) (by simp; omega)]
    simp
theorem Xkt {p : Int} (hf : Fd p) {l : List (Int × Int)} (h1 : El p (l.map (·.1))) (h2 : El p (l.map (·.2))) (hl : l.length ≤ 400) (hn : (l.map (·.1)).Nodup) : ∃ r, X5u p l = some (r, 0) := by
  unfold X5u
  rw [Xh4 _ _ l [] [] (by simp; omega) rfl]
  simp only [List.nil_append]
  unfold X29
  rw [Xkr hf (by
    intro x hx
    simp only [List.mem_cons, List.not_mem_nil, or_false] at hx
    rcases hx with rfl | rfl
    · exact ⟨h1, by simp; omega⟩
    · exact ⟨h2, by simp; omega⟩)]
  simp only [Option.bind_some]
  rw [if_neg (by simp)]
  obtain ⟨m, hm⟩ := Xh3 (X1v (l.map (·.1)) (l.map (·.2)) p) p (l.map (·.1)) [] hn (fun _ _ => rfl)
  rw [hm]
  unfold X1v
  exact Xh2 hf h2 m p (l.map (·.1)) 0 [] [1] h1 El.nil (El.cons.2 ⟨⟨by omega, by have := hf.rng; omega⟩, El.nil⟩) rfl (by simp) (by simp) (by simp; omega)
def kn : List (Int × Bool) → Nat → List (Int × Int)
  | [], _ => []
  | c :: l, i => if c.2 = true then ((i : Int) + 1, c.1) :: kn l (i + 1) else kn l (i + 1)
theorem Xh5 : ∀ (l : List (Int × Bool)) (i : Nat), (kn l i).length ≤ l.length
  | [], _ => Nat.le_refl _
  | c :: l, i => by
    have := Xh5 l (i + 1)
    unfold kn; split <;> simp only [List.length_cons] <;> omega
theorem Xh6 : ∀ (l : List (Int × Bool)) (i : Nat) (q : Int × Int), q ∈ kn l i → (i : Int) + 1 ≤ q.1 ∧ q.1 ≤ i + l.length
  | [], _, q, h => by cases h
  | c :: l, i, q, h => by
    have ih := Xh6 l (i + 1) q
    unfold kn at h
    simp only [List.length_cons]
    split at h
    · rcases List.mem_cons.1 h with rfl | h
      · simp only; omega
      · have := ih h; omega
    · have := ih h; omega
theorem Xpu : ∀ (l : List (Int × Bool)) (i : Nat), ((kn l i).map (·.1)).Pairwise (· < ·)
  | [], _ => List.Pairwise.nil
  | c :: l, i => by
    have ih := Xpu l (i + 1)
    unfold kn
    split
    · rw [List.map_cons]
      refine List.Pairwise.cons (fun x hx => ?_) ih
      obtain ⟨q, hq, rfl⟩ := List.mem_map.1 hx
      have := Xh6 l (i + 1) q hq
      omega
    · exact ih
theorem Xku : ∀ (l : List (Int × Bool)) (i : Nat), i + l.length ≤ 100000 → X3g l i = some (kn l i)
  | [], i, _ => rfl
  | c :: l, i, h => by
    simp only [List.length_cons] at h
    have ih := Xku l (i + 1) (by omega)
    rw [X3g]
    unfold X6t kn
    split
    · rw [ih, w64_id (by omega) (by omega)]; rfl
    · exact ih
theorem Xie {l : List (Int × Bool)} (h : l.length ≤ 100000) : X9p l = some (kn l 0) := by
  unfold X9p X96
  rw [Xku l 0 (by omega)]; rfl
theorem Xkv {p : Int} (kx : Int → Option (Int × Int × Int)) : ∀ (K : List (Int × Int)) (n : Nat), n + K.length ≤ 100000 → El p (K.map (·.2)) → X4k kx p K (n : Int) = kx ((n + K.length : Nat) : Int)
  | [], n, _, _ => by simp [X4k]
  | q :: K, n, h, hE => by
    rw [List.map_cons] at hE
    obtain ⟨h1, hE⟩ := El.cons.1 hE
    simp only [List.length_cons] at h
    rw [X4k]
    unfold X97 X2b
    simp only [Option.bind_some]
    rw [if_neg (by have := h1.1; have := h1.2; simp; omega), w64_id (by omega) (by omega), show (n : Int) + 1 = ((n + 1 : Nat) : Int) by omega, Xkv kx K (n + 1) (by omega) hE]
    congr 2; simp only [List.length_cons]; omega
theorem Xmu {p : Int} (hf : Fd p) {l : List (Int × Bool)} (hl : l.length ≤ 32) (hlp : (l.length : Int) < p) (hE : El p ((kn l 0).map (·.2))) : Xae p l = some (p, ((kn l 0).length : Int), 0) := by
  have := Xh5 l 0
  unfold Xae
  rw [of_eq hf]
  simp only [Option.bind_some]
  rw [if_neg (by simp), if_neg (by omega), Xie (by omega), Option.bind_some]
  have := Xkv (p := p) (X4j p) (kn l 0) 0 (by omega) hE
  rw [show (0 : Int) = ((0 : Nat) : Int) from rfl, this]
  unfold X4j
  simp
theorem Xif (k : Nat) : ∀ (K : List (Int × Int)) (acc : List (Int × Int)), acc.length ≤ k → acc.length + K.length ≤ 100000 → ∃ j, X4l X33 (k : Int) K acc = some (acc ++ K.take j)
  | [], acc, _, _ => ⟨0, by simp [X4l, X33]⟩
  | q :: K, acc, h1, h2 => by
    simp only [List.length_cons] at h2
    rw [X4l]
    unfold X99
    split
    · exact ⟨0, by simp [X33]⟩
    · rw [Xk (by simp; omega), Option.bind_some]
      obtain ⟨j, hj⟩ := Xif k K (acc ++ [q]) (by simp; omega) (by simp; omega)
      exact ⟨j + 1, by rw [hj]; simp⟩
theorem Xkw {p : Int} (hf : Fd p) {l : List (Int × Bool)} (hl : l.length ≤ 32) (hlp : (l.length : Int) < p) (hE : El p ((kn l 0).map (·.2))) {k : Nat} (hk : 1 ≤ k) (hk2 : k ≤ (kn l 0).length) : ∃ r, Xah p l (k : Int) = some (r, 0) := by
  have hkl := Xh5 l 0
  unfold Xah
  rw [Xmu hf hl hlp hE]
  simp only [Option.bind_some]
  rw [if_neg (by simp), if_neg (by omega), if_neg (by omega)]
  unfold Xbs
  rw [Xie (by omega), Option.bind_some]
  obtain ⟨j, hj⟩ := Xif k (kn l 0) [] (by simp) (by simp; omega)
  rw [hj, List.nil_append, Option.bind_some]
  have hsub : ∀ {f : Int × Int → Int}, El p ((kn l 0).map f) → El p (((kn l 0).take j).map f) := fun {f} h x hx => by
    obtain ⟨q, hq, rfl⟩ := List.mem_map.1 hx
    exact h _ (List.mem_map.2 ⟨q, List.mem_of_mem_take hq, rfl⟩)
  obtain ⟨r, hr⟩ := Xkt hf (l := (kn l 0).take j) (hsub (fun x hx => by
    obtain ⟨q, hq, rfl⟩ := List.mem_map.1 hx
    have := Xh6 l 0 q hq
    exact ⟨by omega, by omega⟩)) (hsub hE) (by rw [List.length_take]; omega) (by
    have h1 := Xpu l 0
    have h2 : (((kn l 0).take j).map (·.1)).Pairwise (· < ·) := List.Pairwise.sublist (List.Sublist.map _ (List.take_sublist _ _)) h1
    exact h2.imp (fun h => by omega))
  rw [hr]
  exact ⟨r, rfl⟩
theorem Xhr : ∀ (l : List (Int × Bool)) (i n : Nat), n + l.length ≤ 100000 → X3a l (n : Int) = some ((n + (kn l i).length : Nat) : Int)
  | [], i, n, _ => by simp [X3a, kn]
  | c :: l, i, n, h => by
    simp only [List.length_cons] at h
    rw [X3a]
    unfold X7k kn
    split
    · rw [w64_id (by omega) (by omega), show (n : Int) + 1 = ((n + 1 : Nat) : Int) by omega, Xhr l (i + 1) (n + 1) (by omega)]
      simp only [List.length_cons]; congr 2; omega
    · exact Xhr l (i + 1) n (by omega)
theorem Xmv {l : List (Int × Bool)} (h : l.length ≤ 32) : X8s l = some ((kn l 0).length : Int) := by
  have := Xhr l 0 0 (by omega)
  unfold X8s
  simpa using this
end Go.Proofs.YtfcicopgdahmcaaGreatDoor
end

section
namespace Go.Proofs.YtfcicopgdahmcaaGreatDoor
open Alg (Cg Pr)
def KR (p : Int) (k v : Nat) : List (Int × Int) → List (List Int) → List Int → Prop
  | [], [], [] => True
  | q :: K, c :: C, r :: Rt => (c.length = k + v + v ∧ El p c ∧ E1 p r ∧ (∀ j, j < k + v + v → Cg p (Alg.gd c j) (Alg.keyRow k v q j)) ∧ Cg p r (Alg.keyRow k v q (k + v + v))) ∧ KR p k v K C Rt
  | _, _, _ => False
theorem KR.len {p : Int} {k v : Nat} : ∀ {K : List (Int × Int)} {C : List (List Int)} {Rt : List Int}, KR p k v K C Rt → C.length = K.length ∧ Rt.length = K.length
  | [], [], [], _ => ⟨rfl, rfl⟩
  | q :: K, c :: C, r :: Rt, h => by
    obtain ⟨h1, h2⟩ := KR.len h.2
    simp [h1, h2]
  | [], [], _ :: _, h => h.elim
  | [], _ :: _, _, h => h.elim
  | _ :: _, [], _, h => h.elim
  | _ :: _, _ :: _, [], h => h.elim
theorem KR.rw {p : Int} {k v : Nat} : ∀ {K : List (Int × Int)} {C : List (List Int)} {Rt : List Int}, KR p k v K C Rt → Rw p (k + v + v) C ∧ El p Rt
  | [], [], [], _ => ⟨fun r h => (by cases h), El.nil⟩
  | q :: K, c :: C, r :: Rt, h => by
    obtain ⟨h1, h2⟩ := KR.rw h.2
    exact ⟨Rw.cons.2 ⟨⟨h.1.1, h.1.2.1⟩, h1⟩, El.cons.2 ⟨h.1.2.2.1, h2⟩⟩
  | [], [], _ :: _, h => h.elim
  | [], _ :: _, _, h => h.elim
  | _ :: _, [], _, h => h.elim
  | _ :: _, _ :: _, [], h => h.elim
theorem KR.get {p : Int} {k v : Nat} : ∀ {K : List (Int × Int)} {C : List (List Int)} {Rt : List Int}, KR p k v K C Rt → ∀ (i : Nat) (hi : i < K.length), (∀ j, j < k + v + v → Cg p (Alg.gd (gr C i) j) (Alg.keyRow k v K[i] j)) ∧ Cg p (Alg.gd Rt i) (Alg.keyRow k v K[i] (k + v + v))
  | [], [], [], _, i, hi => absurd hi (by simp)
  | q :: K, c :: C, r :: Rt, h, i, hi => by
    cases i with
    | zero => exact ⟨h.1.2.2.2.1, h.1.2.2.2.2⟩
    | succ i => exact KR.get h.2 i (by simpa using hi)
  | [], [], _ :: _, h, _, _ => h.elim
  | [], _ :: _, _, h, _, _ => h.elim
  | _ :: _, [], _, h, _, _ => h.elim
  | _ :: _, _ :: _, [], h, _, _ => h.elim
theorem Xig {l m : List Int} (i : Nat) (h : i < l.length) : Alg.gd (l ++ m) i = Alg.gd l i := by
  unfold Alg.gd
  rw [List.getD_eq_getElem?_getD, List.getD_eq_getElem?_getD, List.getElem?_append_left h]
theorem Xej (l : List Int) (a : Int) : Alg.gd (l ++ [a]) l.length = a := by simp [Alg.gd, List.getD_eq_getElem?_getD]
theorem Xhs {l m : List Int} (i : Nat) : Alg.gd (l ++ m) (l.length + i) = Alg.gd m i := by
  unfold Alg.gd
  rw [List.getD_eq_getElem?_getD, List.getD_eq_getElem?_getD, List.getElem?_append_right (by omega), Nat.add_sub_cancel_left]
theorem Xbp {l : List Int} {n : Nat} (i : Nat) (h : i < n) : Alg.gd (l.take n) i = Alg.gd l i := by
  unfold Alg.gd
  rw [List.getD_eq_getElem?_getD, List.getD_eq_getElem?_getD, List.getElem?_take_of_lt h]
theorem Xkx {l : List Int} {n : Nat} (i : Nat) : Alg.gd (l.drop n) i = Alg.gd l (n + i) := by
  unfold Alg.gd
  rw [List.getD_eq_getElem?_getD, List.getD_eq_getElem?_getD, List.getElem?_drop]
section
variable {p : Int} (hp : 2 ≤ p ∧ p ≤ 65521) {i : Nat} (hi : (i : Int) + 1 < p)
include hp hi
theorem Xny {y : Int} {b : Bool} {z0 z1 z2 z3 z4 z5 z6 : Int} (kx : List Int → Int → Bool → Int → Int → Int → Int → Int → Int → Int → Option ((Int × Int × Int × (List Int) × (List Int)) × Int)) {m : Nat} (hm : m ≤ 100) : ∀ (f : Nat) (pw : Int) (acc : List Int), m - acc.length < f → acc.length ≤ m → El p acc → (∀ j, j < acc.length → Cg p (Alg.gd acc j) (((i : Int) + 1) ^ j)) → E1 p pw → Cg p pw (((i : Int) + 1) ^ acc.length) →
    ∃ P, X6k kx (i : Int) p (m : Int) y b z0 z1 z2 z3 z4 z5 z6 f pw acc (acc.length : Int) = kx P y b z0 z1 z2 z3 z4 z5 z6 ∧ P.length = m ∧ El p P ∧ ∀ j, j < m → Cg p (Alg.gd P j) (((i : Int) + 1) ^ j)
  | 0, pw, acc, h, _, _, _, _, _ => by omega
  | f + 1, pw, acc, h, h1, h2, h3, h4, h5 => by
    rw [X6k]
    unfold X9c
    by_cases hc : acc.length < m
    · rw [if_pos (by omega), Xk (by simp; omega), Option.bind_some, w64_id (x := (i : Int) + 1) (by omega) (by omega), Xcp hp h4 ⟨by omega, hi⟩, Option.bind_some, w64_id (by omega) (by omega), show (acc.length : Int) + 1 = ((acc ++ [pw]).length : Int) by simp]
      refine Xny kx hm f _ (acc ++ [pw]) (by simp; omega) (by simp; omega) (h2.app (El.cons.2 ⟨h4, El.nil⟩)) (fun j hj => ?_) (E1.emod hp.1 _) ?_
      · rcases Nat.lt_or_ge j acc.length with h6 | h6
        · rw [Xig j h6]; exact h3 j h6
        · have : j = acc.length := by simp at hj; omega
          subst this
          rw [Xej]; exact h5
      · rw [show (acc ++ [pw]).length = acc.length + 1 by simp, Int.pow_succ]
        exact (Cg.emod p _).trans (h5.mul (Cg.refl p _))
    · rw [if_neg (by omega)]
      have : acc.length = m := by omega
      subst this
      exact ⟨acc, rfl, rfl, h2, h3⟩
end
theorem Xnz {p : Int} (hp : 2 ≤ p ∧ p ≤ 65521) {y : Int} (hy : E1 p y) {b : Bool} {z0 z1 z2 z3 z4 z5 z6 : Int} (kx : Int → Bool → Int → Int → Int → (List Int) → Int → Int → Int → Int → Option ((Int × Int × Int × (List Int) × (List Int)) × Int)) : ∀ (P acc : List Int), El p P → acc.length + P.length ≤ 10000 →
    ∃ W, X4n kx p z0 z1 z2 y b z3 z4 z5 z6 P acc = kx y b z0 z1 z2 (acc ++ W) z3 z4 z5 z6 ∧ W.length = P.length ∧ El p W ∧ ∀ j, Cg p (Alg.gd W j) (-(y * Alg.gd P j))
  | [], acc, _, _ => ⟨[], by simp [X4n], rfl, El.nil, fun j => Cg.of (by simp [Alg.gd])⟩
  | x :: P, acc, h, h2 => by
    obtain ⟨hx, h⟩ := El.cons.1 h
    simp only [List.length_cons] at h2
    rw [X4n]
    unfold X9b
    rw [Xcp hp hy hx, Option.bind_some, Xh0 hp ⟨by omega, by omega⟩ (E1.emod hp.1 _), Option.bind_some, Xk (by simp; omega), Option.bind_some]
    obtain ⟨W, a, c, d, e⟩ := Xnz hp hy kx P (acc ++ [(0 - y * x % p) % p]) h (by simp; omega)
    refine ⟨(0 - y * x % p) % p :: W, by rw [a]; simp, by simp [c], El.cons.2 ⟨E1.emod hp.1 _, d⟩, fun j => ?_⟩
    cases j with
    | zero =>
      have := (Cg.emod p (0 - y * x % p)).trans ((Cg.refl p 0).sub (Cg.emod p (y * x)))
      simpa [Alg.gd] using this
    | succ j => simpa [Alg.Xee] using e j
theorem Xpv {p : Int} (hp : 2 ≤ p ∧ p ≤ 65521) {k v : Nat} (hkv : k + v + v ≤ 32) (kx : Int → Int → Int → (List Int) → (List Int) → Int → Int → Int → Int → Option ((Int × Int × Int × (List Int) × (List Int)) × Int)) (z1 z2 z3 z4 z5 z6 : Int) : ∀ (l : List (Int × Bool)) (i : Nat) (n : Nat) (cs Rt : List Int), ((i + l.length : Nat) : Int) < p → El p ((kn l i).map (·.2)) → n + l.length ≤ 32 → cs.length = n * (k + v + v) → Rt.length = n →
    ∃ C R', Xs kx (k : Int) (v : Int) p l i z1 (n : Int) z2 cs Rt z3 z4 z5 z6 = kx z1 ((n + C.length : Nat) : Int) z2 (cs ++ C.flatten) (Rt ++ R') z3 z4 z5 z6 ∧ KR p k v (kn l i) C R'
  | [], i, n, cs, Rt, _, _, _, _, _ => ⟨[], [], by simp [Xs], trivial⟩
  | c :: l, i, n, cs, Rt, h1, h2, h3, h4, h5 => by
    simp only [List.length_cons] at h1 h3
    rw [Xs]
    unfold X9d
    have hmul : n * (k + v + v) ≤ 32 * 32 := Nat.mul_le_mul (by omega) hkv
    by_cases hk : c.2 = true
    · have ek : kn (c :: l) i = ((i : Int) + 1, c.1) :: kn l (i + 1) := by rw [kn, if_pos hk]
      rw [ek] at h2 ⊢
      obtain ⟨hy, h2⟩ := El.cons.1 h2
      dsimp only at hy
      rw [if_neg (by simp [hk]), w64_id (x := (k : Int) + v) (by omega) (by omega), w64_id (x := (k : Int) + v + 1) (by omega) (by omega), show (k : Int) + v + 1 = ((k + v + 1 : Nat) : Int) by omega]
      obtain ⟨P, e1, e2, e3, e4⟩ := Xny hp (i := i) (by omega) (y := c.1) (b := c.2) (z0 := z1) (z1 := (n : Int)) (z2 := z2) (z3 := z3) (z4 := z4) (z5 := z5) (z6 := z6) (X4o (Xs kx (k : Int) (v : Int) p l (i + 1)) (k : Int) (v : Int) p cs Rt) (m := k + v + 1) (by omega) big 1 [] (by simp [big]; omega) (by simp) El.nil (fun j hj => absurd hj (by simp)) ⟨by omega, by omega⟩ (Cg.of (by simp))
      rw [show ((([] : List Int).length : Nat) : Int) = 0 from rfl] at e1
      rw [e1]
      unfold X4o
      rw [w64_id (x := (k : Int) + v) (by omega) (by omega), X5c (by omega) (by omega) (by omega)]
      simp only [Option.bind_some]
      have ea : ((P.drop (0 : Int).toNat).take ((k : Int) + v - 0).toNat) = P.take (k + v) := by
        rw [show ((k : Int) + v - 0).toNat = k + v by omega]; simp
      rw [ea, Xk (by rw [List.length_take]; omega)]
      simp only [Option.bind_some]
      rw [X5c (by omega) (by omega) (by omega)]
      simp only [Option.bind_some]
      have eb : ((P.drop (0 : Int).toNat).take ((v : Int) - 0).toNat) = P.take v := by
        rw [show ((v : Int) - 0).toNat = v by omega]; simp
      rw [eb]
      have hPt : ∀ m, El p (P.take m) := fun m x hx => e3 x (List.mem_of_mem_take hx)
      obtain ⟨W, w1, w2, w3, w4⟩ := Xnz hp hy (X4m (Xs kx (k : Int) (v : Int) p l (i + 1)) P (v : Int) p Rt) (b := c.2) (z0 := z1) (z1 := (n : Int)) (z2 := z2) (z3 := z3) (z4 := z4) (z5 := z5) (z6 := z6) (P.take v) (cs ++ P.take (k + v)) (hPt v) (by simp; omega)
      rw [w1]
      unfold X4m
      rw [X4d 0 (by omega)]
      simp only [Option.bind_some]
      have hPv : E1 p (P.getD v 0) := El.gd hp.1 e3 v
      rw [Xcp hp hy hPv, Option.bind_some, Xk (by simp; omega), Option.bind_some, w64_id (x := (n : Int) + 1) (by omega) (by omega), show (n : Int) + 1 = ((n + 1 : Nat) : Int) by omega]
      rw [List.length_take] at w2
      obtain ⟨C, R', g1, g2⟩ := Xpv hp hkv kx z1 z2 z3 z4 z5 z6 l (i + 1) (n + 1) (cs ++ P.take (k + v) ++ W) (Rt ++ [c.1 * P.getD v 0 % p]) (by rw [show i + 1 + l.length = i + (l.length + 1) by omega]; exact h1) h2 (by omega) (by
        rw [List.length_append, List.length_append, List.length_take, h4, Nat.add_mul, Nat.one_mul]; omega) (by simp; omega)
      refine ⟨(P.take (k + v) ++ W) :: C, c.1 * P.getD v 0 % p :: R', ?_, ⟨?_, hPt _ |>.app w3, E1.emod hp.1 _, fun j hj => ?_, ?_⟩, g2⟩
      · rw [g1]
        simp only [List.flatten_cons, List.append_assoc, List.cons_append, List.nil_append, List.length_cons]
        congr 2; omega
      · rw [List.length_append, List.length_take]; omega
      · unfold Alg.keyRow
        by_cases hj1 : j < k + v
        · rw [if_pos hj1, Xig j (by rw [List.length_take]; omega), Xbp j hj1]
          exact e4 j (by omega)
        · rw [if_neg hj1, if_pos hj]
          obtain ⟨d, rfl⟩ : ∃ d, j = k + v + d := ⟨j - (k + v), by omega⟩
          have : Alg.gd (P.take (k + v) ++ W) (k + v + d) = Alg.gd W d := by
            have := Xhs (l := P.take (k + v)) (m := W) d
            rwa [List.length_take, Nat.min_eq_left (by omega)] at this
          rw [this, Nat.add_sub_cancel_left]
          refine (w4 d).trans ((Cg.refl p c.1).mul ?_).neg
          rw [Xbp d (by omega)]
          exact e4 d (by omega)
      · unfold Alg.keyRow
        rw [if_neg (by omega), if_neg (by omega)]
        exact (Cg.emod p _).trans ((Cg.refl p c.1).mul (e4 v (by omega)))
    · have ek : kn (c :: l) i = kn l (i + 1) := by rw [kn, if_neg hk]
      rw [ek] at h2 ⊢
      have hk' : c.2 = false := by simpa using hk
      rw [if_pos (by simp [hk'])]
      exact Xpv hp hkv kx z1 z2 z3 z4 z5 z6 l (i + 1) n cs Rt (by rw [show i + 1 + l.length = i + (l.length + 1) by omega]; exact h1) h2 (by omega) h4 h5
theorem Xre {p : Int} (hf : Fd p) {l : List (Int × Bool)} (hl : l.length ≤ 32) (hlp : (l.length : Int) < p) (hE : El p ((kn l 0).map (·.2))) {k v : Nat} (hk : 1 ≤ k) (hk2 : k ≤ (kn l 0).length) (hkv : k + v + v ≤ 32) :
    ∃ C R, Xai p l (k : Int) (v : Int) = some ((p, (C.length : Int), ((k + v + v : Nat) : Int), C.flatten, R), 0) ∧ KR p k v (kn l 0) C R := by
  obtain ⟨r, hr⟩ := Xkw hf hl hlp hE hk hk2
  have hp := hf.rng
  unfold Xai
  rw [hr]
  simp only [Option.bind_some]
  rw [if_neg (by simp), w64_id (x := 2 * (v : Int)) (by omega) (by omega), w64_id (x := (k : Int) + 2 * (v : Int)) (by omega) (by omega), if_neg (by omega), show (k : Int) + 2 * (v : Int) = ((k + v + v : Nat) : Int) by omega]
  obtain ⟨C, R, h1, h2⟩ := Xpv hp hkv X14 p ((k + v + v : Nat) : Int) 0 0 0 p l 0 0 [] [] (by simpa using hlp) hE (by omega) (by simp) rfl
  refine ⟨C, R, ?_, h2⟩
  rw [show (((0 : Nat)) : Int) = 0 from rfl] at h1
  rw [h1]
  unfold X14
  simp
end Go.Proofs.YtfcicopgdahmcaaGreatDoor
end

section
namespace Go.Proofs.YtfcicopgdahmcaaGreatDoor
open Alg (Cg Pr)
theorem Xf3 {R : List (List Int)} {i : Nat} (h : i < R.length) : gr R i = R[i] := by simp [gr, List.getD_eq_getElem?_getD, h]
theorem Xfj {R : List (List Int)} {i j : Nat} {x : List Int} (h : i < R.length) : gr (R.set i x) j = if j = i then x else gr R j := by
  unfold gr
  rw [List.getD_eq_getElem?_getD, List.getD_eq_getElem?_getD, List.getElem?_set]
  by_cases e : i = j
  · subst e; simp [h]
  · rw [if_neg e, if_neg (Ne.symm e)]
theorem Rw.gr {p : Int} {m : Nat} {R : List (List Int)} (h : Rw p m R) {i : Nat} (hi : i < R.length) : (gr R i).length = m ∧ El p (gr R i) := by
  rw [Xf3 hi]; exact h _ (List.getElem_mem hi)
theorem Rw.set {p : Int} {m : Nat} {R : List (List Int)} (h : Rw p m R) {i : Nat} {x : List Int} (hx : x.length = m) (he : El p x) : Rw p m (R.set i x) := fun r hr => by
  rcases List.mem_or_eq_of_mem_set hr with hr | rfl
  · exact h r hr
  · exact ⟨hx, he⟩
theorem Xac {R : List (List Int)} {i : Nat} (h : i < R.length) : lidx R (i : Int) = some (gr R i) := X4d [] h
theorem X53 {l : List Int} {i : Nat} (h : i < l.length) : lidx l (i : Int) = some (Alg.gd l i) := X4d 0 h
theorem X9m {α : Type} {l : List α} {i : Nat} {y : α} (h : i < l.length) : lupd l (i : Int) y = some (l.set i y) := by rw [Xc7 (by omega) (by omega), Int.toNat_natCast]
theorem Xh7 {p : Int} {m k : Nat} (hk : k < m) {R : List (List Int)} (hR : Rw p m R) (hn : R.length ≤ 1000) (kx : Int → Option (List (List Int) × Int × List Int)) : ∀ (f r : Nat), r ≤ R.length → R.length - r < f →
    ∃ i, X2d kx (k : Int) R f (r : Int) = kx (i : Nat) ∧ r ≤ i ∧ i ≤ R.length ∧ (∀ j, r ≤ j → j < i → Alg.gd (gr R j) k = 0) ∧ (i < R.length → Alg.gd (gr R i) k ≠ 0)
  | 0, r, _, h => by omega
  | f + 1, r, h1, h2 => by
    rw [X2d]
    unfold X4s
    by_cases hr : r < R.length
    · rw [if_pos (by omega), Xac hr]
      simp only [Option.bind_some]
      rw [X53 (by rw [(hR.gr hr).1]; exact hk)]
      simp only [Option.bind_some]
      by_cases h0 : Alg.gd (gr R r) k = 0
      · rw [if_pos (by simp [h0]), w64_id (by omega) (by omega), show (r : Int) + 1 = ((r + 1 : Nat) : Int) by omega]
        obtain ⟨i, a, b, c, d, e⟩ := Xh7 hk hR hn kx f (r + 1) (by omega) (by omega)
        refine ⟨i, a, by omega, c, fun j hj1 hj2 => ?_, e⟩
        by_cases hjr : j = r
        · rw [hjr]; exact h0
        · exact d j (by omega) hj2
      · rw [if_neg (by simp [h0])]
        exact ⟨r, rfl, Nat.le_refl _, by omega, fun j _ _ => by omega, fun _ => h0⟩
    · rw [if_neg (by omega)]
      simp only [Option.bind_some]
      rw [if_neg (by simp)]
      exact ⟨r, rfl, Nat.le_refl _, by omega, fun j _ _ => by omega, fun h => absurd h hr⟩
def scl (p by_ : Int) (l : List Int) : List Int := l.map fun x => x * by_ % p
theorem Xrf {p b : Int} (l : List Int) (j : Nat) : Cg p (Alg.gd (scl p b l) j) (Alg.gd l j * b) := by
  unfold scl Alg.gd
  rw [List.getD_eq_getElem?_getD, List.getD_eq_getElem?_getD, List.getElem?_map]
  cases l[j]? with
  | none => exact Cg.of (by simp)
  | some x => exact Cg.emod p _
theorem Xrg {p b : Int} (hp : 2 ≤ p) (l : List Int) : El p (scl p b l) := fun x hx => by
  obtain ⟨y, _, rfl⟩ := List.mem_map.1 hx
  exact E1.emod hp _
theorem Xky {p : Int} (hp : 2 ≤ p ∧ p ≤ 65521) {b : Int} (hb : E1 p b) {r : Nat} {l : List Int} (hl : El p l) (kx : List (List Int) → Option (List (List Int) × Int × List Int)) {R : List (List Int)} (hr : r < R.length) : ∀ (xs : List Int) (i : Nat), l.drop i = xs →
    X1d kx (r : Int) b p xs i (R.set r ((scl p b l).take i ++ l.drop i)) = kx (R.set r (scl p b l))
  | [], i, hd => by
    have hi : l.length ≤ i := by have := congrArg List.length hd; simp at this; omega
    rw [X1d, hd, List.take_of_length_le (by simp [scl]; exact hi), List.append_nil]
  | y :: xs, i, hd => by
    have hi : i < l.length := by
      rcases Nat.lt_or_ge i l.length with h2 | h2
      · exact h2
      · rw [List.drop_of_length_le h2] at hd; cases hd
    have hy : l[i] = y := by
      have := List.drop_eq_getElem_cons hi
      rw [hd] at this; exact (List.cons.inj this).1.symm
    have hsl : (scl p b l).length = l.length := by simp [scl]
    have el : ((scl p b l).take i ++ l.drop i).length = l.length := by simp [hsl]; omega
    have eg : Alg.gd ((scl p b l).take i ++ l.drop i) i = y := by
      have := Xhs (l := (scl p b l).take i) (m := l.drop i) 0
      rw [List.length_take, hsl, Nat.min_eq_left (by omega), Nat.add_zero] at this
      rw [this, hd]; rfl
    have eR : gr (R.set r ((scl p b l).take i ++ l.drop i)) r = (scl p b l).take i ++ l.drop i := by rw [Xfj hr, if_pos rfl]
    rw [X1d]
    unfold X4q
    rw [Xac (by simpa using hr), eR]
    simp only [Option.bind_some]
    rw [X53 (by rw [el]; exact hi), eg]
    simp only [Option.bind_some]
    rw [Xcp hp (by rw [← hy]; exact hl _ (List.getElem_mem hi)) hb]
    simp only [Option.bind_some]
    rw [X9m (by rw [el]; exact hi), Option.bind_some, X9m (by simpa using hr), Option.bind_some, List.set_set]
    have es : ((scl p b l).take i ++ l.drop i).set i (y * b % p) = (scl p b l).take (i + 1) ++ l.drop (i + 1) := by
      rw [List.set_append_right _ _ (by simp [hsl]; omega), List.length_take, hsl, Nat.min_eq_left (by omega), Nat.sub_self, List.drop_eq_getElem_cons hi, List.set_cons_zero, List.take_succ_eq_append_getElem (by rw [hsl]; exact hi), List.append_assoc]
      simp [scl, hy]
    rw [es]
    exact Xky hp hb hl kx hr xs (i + 1) (by rw [← List.drop_drop, hd]; rfl)
def elim (p : Int) (k r : Nat) (R : List (List Int)) (i : Nat) : List Int := if i ≠ r ∧ Alg.gd (gr R i) k ≠ 0 then at_ p ((0 - Alg.gd (gr R i) k) % p) (gr R i) (gr R r) else gr R i
def elims (p : Int) (k r : Nat) (R : List (List Int)) (i : Nat) : List (List Int) := (List.range i).map (elim p k r R) ++ R.drop i
theorem Xek {p : Int} {k r : Nat} {R : List (List Int)} {i : Nat} (h : i ≤ R.length) : (elims p k r R i).length = R.length := by simp [elims]; omega
theorem Xg9 {p : Int} {k r : Nat} {R : List (List Int)} {i j : Nat} : gr (elims p k r R i) j = if j < i then elim p k r R j else gr R j := by
  unfold elims gr
  rw [List.getD_eq_getElem?_getD, List.getD_eq_getElem?_getD]
  split
  · rename_i h
    rw [List.getElem?_append_left (by simpa using h)]
    simp [h, gr]
  · rename_i h
    rw [List.getElem?_append_right (by simp; omega)]
    simp only [List.length_map, List.length_range, List.getElem?_drop]
    rw [show i + (j - i) = j by omega]
theorem Xkz {p : Int} {k r : Nat} {R : List (List Int)} {i : Nat} (h : i < R.length) : (elims p k r R i).set i (elim p k r R i) = elims p k r R (i + 1) := by
  unfold elims
  rw [List.set_append_right _ _ (by simp), List.length_map, List.length_range, Nat.sub_self, List.drop_eq_getElem_cons h, List.set_cons_zero, List.range_succ, List.map_append, List.append_assoc]
  rfl
theorem Xfk {p : Int} {k r : Nat} {R : List (List Int)} {i : Nat} (h : i < R.length) (he : elim p k r R i = gr R i) : elims p k r R (i + 1) = elims p k r R i := by
  unfold elims
  rw [List.drop_eq_getElem_cons h, List.range_succ, List.map_append, List.append_assoc, List.map_cons, List.map_nil, he, Xf3 h]
  rfl
theorem Xpw {p : Int} (hp : 2 ≤ p) {m k r : Nat} {R : List (List Int)} (hR : Rw p m R) (hr : r < R.length) {i : Nat} (hi : i < R.length) : (elim p k r R i).length = m ∧ El p (elim p k r R i) := by
  unfold elim
  split
  · exact ⟨by rw [Xeh (by rw [(hR.gr hi).1, (hR.gr hr).1]), (hR.gr hi).1], Xmo hp _ _⟩
  · exact hR.gr hi
theorem Xl0 {p : Int} (hp : 2 ≤ p ∧ p ≤ 65521) {m k r : Nat} (hk : k < m) {R : List (List Int)} (hR : Rw p m R) (hr : r < R.length) (kx : List (List Int) → Option (List (List Int) × Int × List Int)) : ∀ (xs : List (List Int)) (i : Nat), i + xs.length = R.length →
    X1b kx (k : Int) (r : Int) p xs i (elims p k r R i) = kx (elims p k r R R.length)
  | [], i, h => by simp only [List.length_nil, Nat.add_zero] at h; rw [X1b, h]
  | x :: xs, i, h => by
    simp only [List.length_cons] at h
    have hi : i < R.length := by omega
    have el := Xek (p := p) (k := k) (r := r) (R := R) (i := i) (by omega)
    rw [X1b]
    unfold X4p
    rw [Xac (by rw [el]; exact hi), Xg9, if_neg (by omega)]
    simp only [Option.bind_some]
    have hgi := hR.gr hi
    have hgr := hR.gr hr
    have ih := Xl0 hp hk hR hr kx xs (i + 1) (by omega)
    by_cases hir : i = r
    · subst hir
      rw [if_neg (by simp)]
      simp only [Option.bind_some]
      rw [if_neg (by simp)]
      rw [← Xfk hi (by unfold elim; rw [if_neg (by simp)])]; exact ih
    · rw [if_pos (by omega), X53 (by rw [hgi.1]; exact hk)]
      simp only [Option.bind_some]
      by_cases h0 : Alg.gd (gr R i) k = 0
      · rw [if_neg (by simp [h0])]
        rw [← Xfk hi (by unfold elim; rw [if_neg (by simp [h0])])]; exact ih
      · rw [if_pos (by simp [h0])]
        rw [Xh0 hp ⟨by omega, by omega⟩ (El.gd hp.1 hgi.2 k), Option.bind_some]
        have e2 : gr (elims p k r R i) r = gr R r := by
          rw [Xg9]
          split
          · unfold elim; rw [if_neg (by simp)]
          · rfl
        rw [Xac (by rw [el]; exact hr), e2]
        simp only [Option.bind_some]
        unfold lne
        rw [if_neg (by omega)]
        simp only [Option.bind_some]
        rw [Xpp hp (E1.emod hp.1 _) hgr.2 hgi.2 (by rw [hgi.1, hgr.1])]
        simp only [Option.bind_some]
        rw [X9m (by rw [el]; exact hi), Option.bind_some]
        have e3 : at_ p ((0 - Alg.gd (gr R i) k) % p) (gr R i) (gr R r) = elim p k r R i := by unfold elim; rw [if_pos ⟨hir, h0⟩]
        rw [e3, Xkz hi]
        exact ih
theorem Xpx {R : List (List Int)} {a b : Nat} (ha : a < R.length) (hb : b < R.length) (i : Nat) : gr ((R.set a (gr R b)).set b (gr R a)) i = if i = b then gr R a else if i = a then gr R b else gr R i := by
  rw [Xfj (by simpa using hb), Xfj ha]
structure RI (p : Int) (n m : Nat) (M0 : Nat → Nat → Int) (k r : Nat) (R : List (List Int)) (ld : List Int) : Prop where
  len : R.length = n
  rw : Rw p m R
  ll : ld.length = 32
  ln : ∀ j, 0 ≤ Alg.gd ld j ∧ Alg.gd ld j ≤ n
  z : ∀ j, k ≤ j → Alg.gd ld j = 0
  gi : Alg.GI p n m M0 (fun i j => Alg.gd (gr R i) j) k r (fun j => (Alg.gd ld j).toNat)
theorem Xpy {p : Int} (hf : Fd p) {n m : Nat} {M0 : Nat → Nat → Int} (hn : n ≤ 1000) {k r : Nat} (hk : k < m) (hk2 : k < 32) {R : List (List Int)} {ld : List Int} (h : RI p n m M0 k r R ld) (c : Int) :
    ∃ R' r' ld', X4t (p, c, R, (r : Int), ld) (k : Int) = some (R', ((r' : Nat) : Int), ld') ∧ RI p n m M0 (k + 1) r' R' ld' := by
  have hp := hf.rng
  have hlen := h.len
  have hrn := h.gi.rn
  unfold X4t
  dsimp only
  obtain ⟨i, e1, h1, h2, h3, h4⟩ := Xh7 hk h.rw (by omega) (X1e (k : Int) p (r : Int) ld R) big r (by omega) (by simp only [big]; omega)
  rw [e1]
  unfold X1e
  by_cases hi : i = R.length
  · rw [if_pos (by omega)]
    refine ⟨R, r, ld, rfl, h.len, h.rw, h.ll, h.ln, fun j hj => h.z j (by omega), h.gi.skip (fun j hj1 hj2 => Cg.of (h3 j hj1 (by omega))) (fun _ _ => rfl) ?_⟩
    rw [h.z k (Nat.le_refl _)]; rfl
  · have hi : i < R.length := by omega
    have hr : r < R.length := by omega
    rw [if_neg (by omega), Xac hi, Xac hr]
    simp only [Option.bind_some]
    rw [X9m hr]
    simp only [Option.bind_some]
    rw [X9m (by simpa using hi)]
    simp only [Option.bind_some]
    generalize hRs : (R.set r (gr R i)).set i (gr R r) = Rs
    have gs : ∀ j, gr Rs j = if j = i then gr R r else if j = r then gr R i else gr R j := fun j => by rw [← hRs]; exact Xpx hr hi j
    have ls : Rs.length = R.length := by rw [← hRs]; simp
    have ws : Rw p m Rs := by
      rw [← hRs]
      exact (h.rw.set (h.rw.gr hi).1 (h.rw.gr hi).2).set (h.rw.gr hr).1 (h.rw.gr hr).2
    have gsr : gr Rs r = gr R i := by
      rw [gs]
      by_cases e : r = i
      · rw [if_pos e, e]
      · rw [if_neg e, if_pos rfl]
    have hrs : r < Rs.length := by omega
    unfold X4r
    rw [Xac hrs, gsr]
    simp only [Option.bind_some]
    have hgi := h.rw.gr hi
    rw [X53 (by rw [hgi.1]; exact hk)]
    simp only [Option.bind_some]
    obtain ⟨b, b1, b2, b3⟩ := Xcy hf (El.gd hp.1 hgi.2 k) (h4 hi)
    rw [b1, Option.bind_some]
    have l4 := Xky hp b2 (r := r) hgi.2 (X1c (k : Int) (r : Int) p ld) (R := Rs) hrs (gr R i) 0 rfl
    rw [List.take_zero, List.nil_append, List.drop_zero] at l4
    have e5 : Rs.set r (gr R i) = Rs := by
      rw [← gsr, Xf3 hrs]; exact List.set_getElem_self hrs
    rw [e5] at l4
    rw [show ((0 : Nat)) = 0 from rfl, l4]
    unfold X1c
    generalize hRt : Rs.set r (scl p b (gr R i)) = Rt
    have gt : ∀ j, gr Rt j = if j = r then scl p b (gr R i) else gr Rs j := fun j => by rw [← hRt]; exact Xfj hrs
    have lt : Rt.length = R.length := by rw [← hRt]; simp [ls]
    have wt : Rw p m Rt := by rw [← hRt]; exact ws.set (by simp [scl, hgi.1]) (Xrg hp.1 _)
    have l2 := Xl0 hp hk wt (r := r) (by omega) (X1a (k : Int) (r : Int) ld) Rt 0 (by omega)
    have e6 : elims p k r Rt 0 = Rt := by simp [elims]
    rw [e6] at l2
    rw [l2]
    unfold X1a
    have hk3 : k < ld.length := by have := h.ll; omega
    rw [X53 hk3, Option.bind_some, X9m hk3, Option.bind_some, w64_id (by omega) (by omega), show (r : Int) + 1 = ((r + 1 : Nat) : Int) by omega]
    have gd' : ∀ j, Alg.gd (ld.set k ((r + 1 : Nat) : Int)) j = if j = k then ((r + 1 : Nat) : Int) else Alg.gd ld j := fun j => by
      unfold Alg.gd
      rw [List.getD_eq_getElem?_getD, List.getD_eq_getElem?_getD, List.getElem?_set]
      by_cases e : k = j
      · subst e; simp [hk3]
      · rw [if_neg e, if_neg (Ne.symm e)]
    have gfin : ∀ j, j < Rt.length → gr (elims p k r Rt Rt.length) j = elim p k r Rt j := fun j hj => by rw [Xg9, if_pos hj]
    have gtr : gr Rt r = scl p b (gr R i) := by rw [gt, if_pos rfl]
    refine ⟨_, r + 1, _, rfl, by rw [Xek (Nat.le_refl _), lt, hlen], ?_, by simp [h.ll], fun j => ?_, fun j hj => ?_, ?_⟩
    · intro x hx
      obtain ⟨j, hj, rfl⟩ := List.getElem_of_mem hx
      have hj' : j < Rt.length := by rwa [Xek (Nat.le_refl _)] at hj
      rw [← Xf3 hj, gfin j hj']
      exact Xpw hp.1 wt (by omega) hj'
    · rw [gd']
      split
      · omega
      · exact h.ln j
    · rw [gd', if_neg (by omega)]; exact h.z j (by omega)
    · refine h.gi.lead i h1 (by omega) b b3 (fun j hj => ?_) (fun i' hi' hne j hj => ?_) hk (fun j hj => ?_) ?_
      · rw [gfin r (by omega)]
        have : elim p k r Rt r = scl p b (gr R i) := by unfold elim; rw [if_neg (by simp), gtr]
        rw [this]; exact Xrf _ _
      · rw [gfin i' (by omega), gfin r (by omega)]
        have er : elim p k r Rt r = gr Rt r := by unfold elim; rw [if_neg (by simp)]
        have es : gr Rt i' = gr Rs i' := by rw [gt, if_neg hne]
        have ew : ∀ q, Alg.swp r i (fun i j => Alg.gd (gr R i) j) i' q = Alg.gd (gr Rs i') q := fun q => by
          unfold Alg.swp
          rw [if_neg hne, gs]
          by_cases e : i' = i
          · rw [if_pos e, if_pos e]
          · rw [if_neg e, if_neg e, if_neg hne]
        rw [er, ew, ew]
        have hi2 : i' < Rt.length := by omega
        unfold elim
        by_cases h0 : Alg.gd (gr Rt i') k = 0
        · rw [if_neg (by simp [h0]), ← es, h0]
          exact Cg.of (by simp)
        · rw [if_pos ⟨hne, h0⟩]
          refine (Xmp (by rw [(wt.gr hi2).1, (wt.gr (i := r) (by omega)).1]) j).trans ?_
          rw [es]
          have := (Cg.refl p (Alg.gd (gr Rs i') j)).add ((Cg.emod p (0 - Alg.gd (gr Rs i') k)).mul (Cg.refl p (Alg.gd (gr Rt r) j)))
          refine this.trans (Cg.of ?_)
          rw [Int.sub_mul]; omega
      · rw [gd', if_neg (by omega)]
      · rw [gd', if_pos rfl]; rfl
end Go.Proofs.YtfcicopgdahmcaaGreatDoor
end

section
namespace Go.Proofs.YtfcicopgdahmcaaGreatDoor
open Alg (Cg Pr)
def aug : List (List Int) → List Int → List (List Int) := List.zipWith fun c r => c ++ [r]
theorem Xga {C : List (List Int)} {Rt : List Int} (h : Rt.length = C.length) : (aug C Rt).length = C.length := by simp [aug, h]
theorem Xl1 {C : List (List Int)} {Rt : List Int} (h : Rt.length = C.length) {i : Nat} (hi : i < C.length) : gr (aug C Rt) i = gr C i ++ [Alg.gd Rt i] := by
  rw [Xf3 (by rw [Xga h]; exact hi), Xf3 hi]
  simp [aug, Alg.gd, List.getD_eq_getElem?_getD, show i < Rt.length by omega]
theorem Xrh {p : Int} {c : Nat} {C : List (List Int)} {Rt : List Int} (h : Rt.length = C.length) (hC : Rw p c C) (hR : El p Rt) : Rw p (c + 1) (aug C Rt) := fun x hx => by
  obtain ⟨i, hi, rfl⟩ := List.getElem_of_mem hx
  rw [Xga h] at hi
  rw [← Xf3, Xl1 h hi]
  have := hC.gr hi
  exact ⟨by simp [this.1], this.2.app (El.cons.2 ⟨hR _ (Alg.Xno (by omega)), El.nil⟩)⟩
theorem Xh8 {p : Int} {c : Nat} : ∀ (C : List (List Int)) (i : Nat), Rw p c C → i < C.length → (C.flatten.drop (i * c)).take c = gr C i
  | [], i, _, h => absurd h (by simp)
  | x :: C, i, h, hi => by
    obtain ⟨⟨h1, h2⟩, h⟩ := Rw.cons.1 h
    rw [List.flatten_cons]
    cases i with
    | zero => rw [Nat.zero_mul, List.drop_zero, ← h1, List.take_left']; rfl; rfl
    | succ i =>
      rw [Nat.add_mul, Nat.one_mul, Nat.add_comm, ← List.drop_drop]
      have : List.drop c (x ++ C.flatten) = C.flatten := by rw [← h1, List.drop_left']; rfl
      rw [this, Xh8 C i h (by simpa using hi)]
      rfl
theorem Xel {p : Int} {c : Nat} : ∀ (C : List (List Int)), Rw p c C → C.flatten.length = C.length * c
  | [], _ => by simp
  | x :: C, h => by
    obtain ⟨⟨h1, h2⟩, h⟩ := Rw.cons.1 h
    rw [List.flatten_cons, List.length_append, Xel C h, List.length_cons, Nat.add_mul, Nat.one_mul, h1, Nat.add_comm]
theorem Xpz {p : Int} {c : Nat} {C : List (List Int)} (h : Rw p c C) : El p C.flatten := fun x hx => by
  obtain ⟨r, hr, hx⟩ := List.mem_flatten.1 hx
  exact (h r hr).2 x hx
theorem Xh9 {p : Int} {c : Nat} {C : List (List Int)} {Rt : List Int} (hC : Rw p c C) (h : Rt.length = C.length) (hn : C.length ≤ 32) (hc : c ≤ 32) (kx : Int → Int → (List (List Int)) → Int → (List Int) → Int → Int → Int → Option (Int × Int × (List (List Int)) × Int × (List Int))) (ld : List Int) : ∀ (f i : Nat), i ≤ C.length → C.length - i < f →
    X58 kx (C.length : Int) p (c : Int) ld C.flatten Rt f (i : Int) ((aug C Rt).take i) = kx p (c : Int) (aug C Rt) 0 ld p (C.length : Int) (c : Int)
  | 0, i, _, h => by omega
  | f + 1, i, h1, h2 => by
    have hal := Xga h
    rw [X58]
    unfold X7m
    by_cases hi : i < C.length
    · have hm1 : i * c ≤ 32 * 32 := Nat.mul_le_mul (by omega) hc
      have hm2 : (i + 1) * c ≤ C.length * c := Nat.mul_le_mul_right _ hi
      have hm3 : C.length * c ≤ 32 * 32 := Nat.mul_le_mul hn hc
      have hm4 : (i + 1) * c = i * c + c := by rw [Nat.add_mul, Nat.one_mul]
      rw [if_pos (by omega), w64_id (x := (i : Int) + 1) (by omega) (by omega), show (i : Int) * (c : Int) = ((i * c : Nat) : Int) by simp, show ((i : Int) + 1) * (c : Int) = (((i + 1) * c : Nat) : Int) by simp, w64_id (x := ((i * c : Nat) : Int)) (by omega) (by omega), w64_id (x := (((i + 1) * c : Nat) : Int)) (by omega) (by omega), X5c (by omega) (by omega) (by rw [Xel C hC]; omega)]
      simp only [Option.bind_some]
      have e1 : ((C.flatten.drop ((i * c : Nat) : Int).toNat).take ((((i + 1) * c : Nat) : Int) - ((i * c : Nat) : Int)).toNat) = gr C i := by
        rw [Int.toNat_natCast, show ((((i + 1) * c : Nat) : Int) - ((i * c : Nat) : Int)).toNat = c by omega]
        exact Xh8 C i hC hi
      have hg := hC.gr hi
      rw [e1, Xk (by simp; omega), Option.bind_some, X53 (by omega), Option.bind_some, List.nil_append, Xk (by simp; omega), Option.bind_some, Xk (by simp; omega), Option.bind_some, show (i : Int) + 1 = ((i + 1 : Nat) : Int) by omega]
      have e2 : (aug C Rt).take i ++ [gr C i ++ [Alg.gd Rt i]] = (aug C Rt).take (i + 1) := by
        rw [List.take_succ_eq_append_getElem (by omega), ← Xf3 (by omega), Xl1 h hi]
      rw [e2]
      exact Xh9 hC h hn hc kx ld f (i + 1) (by omega) (by omega)
    · rw [if_neg (by omega), List.take_of_length_le (by omega)]
theorem Xha {p : Int} (hf : Fd p) {n c : Nat} (hn : n ≤ 32) (hc : c ≤ 32) {M0 : Nat → Nat → Int} : ∀ (f k r : Nat) (R : List (List Int)) (ld : List Int), k ≤ c → c - k < f → RI p n (c + 1) M0 k r R ld →
    ∃ R' r' ld', X57 (c : Int) p (c : Int) f (k : Int) R (r : Int) ld = some (p, (c : Int), R', ((r' : Nat) : Int), ld') ∧ RI p n (c + 1) M0 c r' R' ld'
  | 0, k, r, R, ld, _, h, _ => by omega
  | f + 1, k, r, R, ld, h1, h2, h3 => by
    rw [X57]
    unfold X7l
    by_cases hk : k < c
    · rw [if_pos (by omega)]
      obtain ⟨R', r', ld', e, h4⟩ := Xpy hf (by omega) (by omega) (by omega) h3 (c : Int)
      rw [e, Option.bind_some, w64_id (by omega) (by omega), show (k : Int) + 1 = ((k + 1 : Nat) : Int) by omega]
      exact Xha hf hn hc f (k + 1) r' R' ld' (by omega) (by omega) h4
    · rw [if_neg (by omega)]
      have : k = c := by omega
      subst this
      exact ⟨R, r, ld, rfl, h3⟩
theorem Xo0 {p : Int} {c : Nat} : ∀ (xs : List (List Int)), Rw p (c + 1) xs → (∀ x ∈ xs, Alg.gd x c = 0) → X12 (c : Int) xs = some true
  | [], _, _ => rfl
  | x :: xs, h, h2 => by
    obtain ⟨⟨a, b⟩, h⟩ := Rw.cons.1 h
    rw [X12]
    unfold X34
    rw [X53 (by omega), Option.bind_some, h2 x List.mem_cons_self, if_neg (by simp)]
    exact Xo0 xs h fun y hy => h2 y (List.mem_cons_of_mem _ hy)
def rdy (R : List (List Int)) (ld : List Int) (c j : Nat) : Int := if 0 < Alg.gd ld j then Alg.gd (gr R ((Alg.gd ld j).toNat - 1)) c else 0
theorem Xo1 {p : Int} {c : Nat} (hc : c ≤ 32) {R : List (List Int)} {ld : List Int} (hR : Rw p (c + 1) R) (hl : ld.length = 32) (hn : R.length ≤ 1000) (hld : ∀ j, 0 ≤ Alg.gd ld j ∧ Alg.gd ld j ≤ R.length) : ∀ (xs : List Int) (i : Nat), i + xs.length = c →
    X3q R ld (c : Int) xs i ((List.range i).map (rdy R ld c) ++ List.replicate (c - i) 0) = some ((List.range c).map (rdy R ld c), 0)
  | [], i, h => by
    simp only [List.length_nil, Nat.add_zero] at h
    rw [X3q, h]; simp
  | x :: xs, i, h => by
    simp only [List.length_cons] at h
    have ih := Xo1 hc hR hl hn hld xs (i + 1) (by omega)
    rw [X3q]
    unfold X8l
    rw [X53 (by omega), Option.bind_some]
    have hln : ((List.range i).map (rdy R ld c) ++ List.replicate (c - i) (0 : Int)).length = c := by simp; omega
    have hset : ∀ y : Int, ((List.range i).map (rdy R ld c) ++ List.replicate (c - i) (0 : Int)).set i y = (List.range i).map (rdy R ld c) ++ y :: List.replicate (c - (i + 1)) 0 := fun y => by
      rw [List.set_append_right _ _ (by simp), List.length_map, List.length_range, Nat.sub_self, show c - i = (c - (i + 1)) + 1 by omega, List.replicate_succ, List.set_cons_zero]
    have hr1 : (List.range (i + 1)).map (rdy R ld c) = (List.range i).map (rdy R ld c) ++ [rdy R ld c i] := by rw [List.range_succ, List.map_append]; rfl
    by_cases h0 : 0 < Alg.gd ld i
    · have h1 := hld i
      have ey : rdy R ld c i = Alg.gd (gr R ((Alg.gd ld i).toNat - 1)) c := by unfold rdy; rw [if_pos h0]
      have hlt : (Alg.gd ld i).toNat - 1 < R.length := by omega
      rw [if_pos h0, w64_id (by omega) (by omega), show Alg.gd ld i - 1 = (((Alg.gd ld i).toNat - 1 : Nat) : Int) by omega, Xac hlt, Option.bind_some, X53 (by have := (hR.gr hlt).1; omega), Option.bind_some, X53 (by rw [hln]; omega), Option.bind_some, X9m (by rw [hln]; omega), Option.bind_some, hset, ← ey]
      rw [hr1, List.append_assoc] at ih
      exact ih
    · rw [if_neg h0]
      have ey : rdy R ld c i = 0 := by unfold rdy; rw [if_neg h0]
      rw [hr1, List.append_assoc, ey] at ih
      rw [show c - i = (c - (i + 1)) + 1 by omega, List.replicate_succ]
      exact ih
theorem Xmw {p : Int} (hf : Fd p) {c : Nat} {C : List (List Int)} {Rt : List Int} (hC : Rw p c C) (hRt : El p Rt) (h : Rt.length = C.length) (hn : C.length ≤ 32) (hc : c ≤ 32) {x0 : Nat → Int} (hx : Alg.SolM p C.length (c + 1) (fun i j => Alg.gd (gr (aug C Rt) i) j) x0) (hx1 : x0 c = -1) :
    ∃ x, X9t (p, (C.length : Int), (c : Int), C.flatten, Rt) = some (x, 0) ∧ x.length = c ∧ El p x ∧ Alg.SolM p C.length (c + 1) (fun i j => Alg.gd (gr (aug C Rt) i) j) (fun j => if j < c then Alg.gd x j else -1) := by
  have hp := hf.rng
  have hfl := Xel C hC
  have hm3 : C.length * c ≤ 32 * 32 := Nat.mul_le_mul hn hc
  unfold X9t Xau
  dsimp only
  rw [of_eq hf]
  simp only [Option.bind_some]
  rw [if_neg (by simp), if_neg (by omega), show (C.length : Int) * (c : Int) = ((C.length * c : Nat) : Int) by simp, w64_id (by omega) (by omega), if_neg (by omega), all_eq, all_eq]
  simp only [Option.bind_some, Xpz hC, hRt, decide_true, Bool.not_true]
  rw [if_neg (by simp)]
  simp only [Option.bind_some]
  rw [if_neg (by simp)]
  simp only [Option.bind_some]
  rw [if_neg (by simp)]
  unfold Xa5
  dsimp only
  have l3 := Xh9 hC h hn hc X3b (List.replicate 32 (0 : Int)) big 0 (by omega) (by simp only [big]; omega)
  rw [List.take_zero, show (((0 : Nat)) : Int) = 0 from rfl] at l3
  rw [l3]
  unfold X3b
  have hal := Xga h
  obtain ⟨R, r, ld, e1, hI⟩ := Xha hf hn hc (M0 := fun i j => Alg.gd (gr (aug C Rt) i) j) big 0 0 (aug C Rt) (List.replicate 32 0) (by omega) (by simp only [big]; omega) ⟨hal, Xrh h hC hRt, by simp, fun j => by rw [Xdk]; omega, fun j _ => Xdk 32 j, Alg.GI.start _ _ _ _ _⟩
  rw [show (((0 : Nat)) : Int) = 0 from rfl] at e1
  rw [e1]
  simp only [Option.bind_some]
  have hlen := hI.len
  have hrn := hI.gi.rn
  have hright := hI.gi.right hx hx1
  have hz : ∀ i, r ≤ i → i < C.length → Alg.gd (gr R i) c = 0 := fun i h1 h2 => by
    have := El.gd hp.1 (hI.rw.gr (i := i) (by omega)).2 c
    exact (hright i h1 h2).small this.1 this.2
  unfold X4b
  dsimp only
  rw [X5c (by omega) (by omega) (by omega)]
  simp only [Option.bind_some]
  rw [Xo0 (p := p) _ (fun x hx => hI.rw x (List.mem_of_mem_drop (List.mem_of_mem_take hx))) (fun x hx => by
    have hx := List.mem_of_mem_take hx
    obtain ⟨i, hi, rfl⟩ := List.getElem_of_mem hx
    rw [List.getElem_drop, ← Xf3]
    simp only [List.length_drop, Int.toNat_natCast] at hi
    exact hz _ (by simp) (by rw [Int.toNat_natCast]; omega))]
  simp only [Option.bind_some]
  rw [if_neg (by simp), Xfi _ (by omega), Option.bind_some]
  have l1 := Xo1 hc hI.rw hI.ll (by omega) (fun j => by have := hI.ln j; omega) (List.replicate c (0 : Int)) 0 (by simp)
  simp only [List.range_zero, List.map_nil, List.nil_append, Nat.sub_zero] at l1
  rw [l1]
  have gy : ∀ j, j < c → Alg.gd ((List.range c).map (rdy R ld c)) j = rdy R ld c j := fun j hj => by
    simp [Alg.gd, List.getD_eq_getElem?_getD, hj]
  refine ⟨_, rfl, by simp, fun y hy => ?_, ?_⟩
  · obtain ⟨j, hj, rfl⟩ := List.mem_map.1 hy
    unfold rdy
    have := hI.ln j
    split
    · exact El.gd hp.1 (hI.rw.gr (by omega)).2 c
    · exact ⟨by omega, by omega⟩
  · refine hI.gi.solves hright (fun j hj => ?_) (by simp)
    rw [if_pos hj, gy j hj]
    unfold rdy
    have := hI.ln j
    by_cases h0 : 0 < Alg.gd ld j
    · rw [if_pos h0, if_neg (by omega)]; exact Cg.refl p _
    · rw [if_neg h0, if_pos (by omega)]; exact Cg.refl p _
end Go.Proofs.YtfcicopgdahmcaaGreatDoor
end

section
namespace Go.Proofs.YtfcicopgdahmcaaGreatDoor
open Alg (Cg Pr)
theorem Xq0 {p : Int} {l m : List Int} (h : ∀ i, Cg p (Alg.gd l i) (Alg.gd m i)) (x : Int) : Cg p (Alg.pv l x) (Alg.pv m x) := by
  have hz : Alg.Z0 p (Alg.padd l (Alg.psc (-1) m)) := fun i => by
    rw [Alg.Xb1, Alg.Xd7]
    exact (Cg.of (by omega)).trans (h i).sub0
  have := hz.pv x
  rw [Alg.Xb2, Alg.Xcn] at this
  exact Cg.of_sub0 ((Cg.of (by omega)).trans this)
theorem Xl2 (x : Int) (m : List Int) : ∀ l : List Int, Alg.pv (l ++ m) x = Alg.pv l x + x ^ l.length * Alg.pv m x
  | [] => by simp [Alg.pv]
  | a :: l => by
    rw [List.cons_append, Alg.pv, Alg.pv, Xl2 x m l, List.length_cons, Int.pow_succ, Int.add_mul]
    have : x ^ l.length * Alg.pv m x * x = x ^ l.length * x * Alg.pv m x := by rw [Int.mul_assoc, Int.mul_comm (Alg.pv m x), ← Int.mul_assoc]
    omega
theorem Xs5 {p c : Int} {t l : List Int} (h : t.length = l.length) (x : Int) : Cg p (Alg.pv (at_ p c t l) x) (Alg.pv t x + c * Alg.pv l x) := by
  have := Xq0 (p := p) (l := at_ p c t l) (m := Alg.padd t (Alg.psc c l)) (fun i => by rw [Alg.Xb1, Alg.Xd7]; exact Xmp h i) x
  rwa [Alg.Xb2, Alg.Xcn] at this
theorem Xht {p : Int} (l : List Int) (x : Int) : Cg p (Alg.pv (trim l) x) (Alg.pv l x) := Xq0 (fun i => Cg.of (Xc8 l i)) x
theorem Xih {l m : List Int} (h : ∀ i, Alg.gd l i = Alg.gd m i) : trim l = trim m := by
  have key : ∀ {a b : List Int}, (∀ i, Alg.gd a i = Alg.gd b i) → tn a ≤ tn b := fun {a b} h => by
    rcases Nat.lt_or_ge (tn b) (tn a) with h1 | h1
    · have h2 := Xg8 a (by omega)
      rw [h] at h2
      exact absurd (Xcz b _ (by omega)) h2
    · exact h1
  have hn : tn l = tn m := Nat.le_antisymm (key h) (key fun i => (h i).symm)
  refine List.ext_getElem (by rw [Xbu, Xbu, hn]) fun i h1 h2 => ?_
  have := Xc8 l i
  have h3 := Xc8 m i
  have e1 : Alg.gd (trim l) i = (trim l)[i] := by simp [Alg.gd, List.getD_eq_getElem?_getD, h1]
  have e2 : Alg.gd (trim m) i = (trim m)[i] := by simp [Alg.gd, List.getD_eq_getElem?_getD, h2]
  rw [← e1, ← e2, this, h3, h i]
theorem Xmx {l : List Int} (h : ∀ i, Alg.gd l i = 0) : trim l = [] := by
  rw [Xih (m := []) (fun i => by rw [h i]; rfl)]; rfl
theorem Xo2 (x : Int) : ∀ (l : List Int) (i : Nat) (a : Int), i < l.length → Alg.gd l i = 0 → Alg.pv (l.set i a) x = Alg.pv l x + a * x ^ i
  | [], i, a, h, _ => absurd h (by simp)
  | b :: l, 0, a, _, h => by
    have : b = 0 := h
    subst this
    simp [Alg.pv]
  | b :: l, i + 1, a, h, h0 => by
    rw [List.set_cons_succ, Alg.pv, Alg.pv, Xo2 x l i a (by simpa using h) h0, Int.add_mul, Int.pow_succ]
    rw [Int.mul_assoc]; omega
theorem Xmy {α : Type} {l : List α} {n : Nat} (h : n ≤ l.length) : lcpy l 0 n (l.take n) = l := by
  unfold lcpy
  have e : ((0 : Int).toNat + min (l.take n).length n) = n := by simp; omega
  rw [e, List.take_take, Nat.min_self]
  simp
theorem Xri {α : Type} {l s : List α} {i n : Nat} (hs : s.length = n) (h : i + n ≤ l.length) : lcpy l (i : Int) n s = l.take i ++ s ++ l.drop (i + n) := by
  unfold lcpy
  rw [Int.toNat_natCast, hs, Nat.min_self, List.take_of_length_le (l := s) (by omega)]
theorem Xrj {p : Int} (hp : 2 ≤ p ∧ p ≤ 65521) {E a : List Int} (hE : El p (E ++ [1])) {by_ : Int} (hb : E1 p by_) (hby : Cg p by_ 1) {la : Nat} (hla : la ≤ 1000) (hEl : E.length ≤ 1000) : ∀ (f : Nat) (A Q : List Int) (hi : Nat), hi < f → A.length = la → hi ≤ la → El p A → El p Q → Q.length = la + 1 - (E.length + 1) →
    (∀ j, j + (E.length + 1) ≤ hi → Alg.gd Q j = 0) → (∀ x, Cg p (Alg.pv a x) (Alg.pv Q x * Alg.pv (E ++ [1]) x + Alg.pv (A.take hi) x)) →
    ∃ Q' r, X50 X35 (E ++ [1]) p ((E.length + 1 : Nat) : Int) by_ f A 0 (hi : Int) Q = some (trim Q', trim r, 0) ∧ El p Q' ∧ El p r ∧ Q'.length = la + 1 - (E.length + 1) ∧ r.length ≤ E.length ∧ ∀ x, Cg p (Alg.pv a x) (Alg.pv Q' x * Alg.pv (E ++ [1]) x + Alg.pv r x)
  | 0, A, Q, hi, h, _, _, _, _, _, _, _ => by omega
  | f + 1, A, Q, hi, h1, h2, h3, h4, h5, h6, h7, h8 => by
    rw [X50]
    unfold X8n
    have e0 : (((hi : Int) - 0).toNat : Int) = (hi : Int) := by omega
    rw [e0]
    by_cases hc : E.length + 1 ≤ hi
    · rw [if_pos (by omega), w64_id (x := (hi : Int) - 1) (by omega) (by omega)]
      unfold pidx
      rw [if_pos ⟨by omega, by omega, by omega⟩]
      simp only [Option.bind_some]
      rw [show (0 : Int) + ((hi : Int) - 1) = ((hi - 1 : Nat) : Int) by omega, X53 (by omega)]
      simp only [Option.bind_some]
      have hlast := El.gd hp.1 h4 (hi - 1)
      rw [Xcp hp hlast hb, Option.bind_some, w64_id (x := (hi : Int) - ((E.length + 1 : Nat) : Int)) (by omega) (by omega)]
      generalize hq : Alg.gd A (hi - 1) * by_ % p = q
      have hq1 : E1 p q := by rw [← hq]; exact E1.emod hp.1 _
      have hqc : Cg p q (Alg.gd A (hi - 1)) := by
        rw [← hq]
        exact (Cg.emod p _).trans (((Cg.refl p _).mul hby).trans (Cg.of (by omega)))
      generalize hn : hi - (E.length + 1) = at0
      have hat : hi = at0 + (E.length + 1) := by omega
      rw [show (hi : Int) - ((E.length + 1 : Nat) : Int) = (at0 : Int) by omega, X53 (by omega), Option.bind_some, X9m (by omega), Option.bind_some]
      unfold psub
      rw [if_pos ⟨by omega, by omega, by omega, by omega⟩]
      simp only [Option.bind_some]
      rw [Xh0 hp ⟨by omega, by omega⟩ hq1, Option.bind_some, X5c (by omega) (by omega) (by omega)]
      simp only [Option.bind_some]
      have epart : ((A.drop ((0 : Int) + (at0 : Int)).toNat).take ((0 : Int) + ((hi : Int) - 0) - (0 + (at0 : Int))).toNat) = (A.drop at0).take (E.length + 1) := by
        rw [show ((0 : Int) + (at0 : Int)).toNat = at0 by omega, show ((0 : Int) + ((hi : Int) - 0) - (0 + (at0 : Int))).toNat = E.length + 1 by omega]
      rw [epart]
      generalize hpt : (A.drop at0).take (E.length + 1) = part
      have lpt : part.length = E.length + 1 := by rw [← hpt, List.length_take, List.length_drop]; omega
      have Ept : El p part := fun x hx => by rw [← hpt] at hx; exact h4 x (List.mem_of_mem_drop (List.mem_of_mem_take hx))
      rw [Xpp hp (E1.emod hp.1 _) hE Ept (by rw [lpt]; simp), Option.bind_some]
      generalize hnp : at_ p ((0 - q) % p) part (E ++ [1]) = np
      have lnp : np.length = E.length + 1 := by rw [← hnp, Xeh (by rw [lpt]; simp), lpt]
      have Enp : El p np := by rw [← hnp]; exact Xmo hp.1 _ _
      rw [show (0 : Int) + (at0 : Int) = (at0 : Int) by omega, lpt, Xri lnp (by omega)]
      generalize hA' : A.take at0 ++ np ++ A.drop (at0 + (E.length + 1)) = A'
      have lA' : A'.length = la := by rw [← hA']; simp [lnp]; omega
      have EA' : El p A' := by
        rw [← hA']
        exact (El.app (fun x hx => h4 x (List.mem_of_mem_take hx)) Enp).app (fun x hx => h4 x (List.mem_of_mem_drop hx))
      have tA' : A'.take hi = A.take at0 ++ np := by
        rw [← hA', hat]
        have : (A.take at0 ++ np).length = at0 + (E.length + 1) := by simp [lnp]; omega
        rw [← this, List.take_left']; rfl
      have tA : A.take hi = A.take at0 ++ part := by
        rw [hat, List.take_add, hpt]
      -- the next rest
      have hpv : ∀ x, Cg p (Alg.pv (A'.take hi) x) (Alg.pv (A.take hi) x - q * x ^ at0 * Alg.pv (E ++ [1]) x) := fun x => by
        have hl0 : (A.take at0).length = at0 := by rw [List.length_take]; omega
        rw [tA', tA, Xl2, Xl2, hl0]
        have h9 := Xs5 (p := p) (c := (0 - q) % p) (t := part) (l := E ++ [1]) (by rw [lpt]; simp) x
        rw [hnp] at h9
        have h10 := h9.trans ((Cg.refl p (Alg.pv part x)).add ((Cg.emod p (0 - q)).mul (Cg.refl p (Alg.pv (E ++ [1]) x))))
        have h11 := (Cg.refl p (Alg.pv (A.take at0) x)).add ((Cg.refl p (x ^ at0)).mul h10)
        refine h11.trans (Cg.of ?_)
        rw [Int.mul_add]
        generalize Alg.pv (E ++ [1]) x = u
        generalize Alg.pv part x = v
        have e : x ^ at0 * ((0 - q) * u) = -(q * x ^ at0 * u) := by
          rw [Int.zero_sub, Int.neg_mul, Int.mul_neg, ← Int.mul_assoc, Int.mul_comm (x ^ at0) q]
        rw [e]; omega
      have hz : Alg.gd A' (hi - 1) = 0 := by
        have e1 : Alg.gd A' (hi - 1) = Alg.gd np E.length := by
          rw [← Xbp (n := hi) (hi - 1) (by omega), tA']
          have := Xhs (l := A.take at0) (m := np) E.length
          rw [List.length_take, Nat.min_eq_left (by omega)] at this
          rw [show hi - 1 = at0 + E.length by omega]; exact this
        have e2 : Alg.gd part E.length = Alg.gd A (hi - 1) := by
          rw [← hpt, Xbp _ (by omega), Xkx, show at0 + E.length = hi - 1 by omega]
        have e3 := Xmp (p := p) (x := (0 - q) % p) (t := part) (l := E ++ [1]) (by rw [lpt]; simp) E.length
        rw [hnp, e2, Xej] at e3
        rw [e1]
        have e4 := El.gd hp.1 Enp E.length
        refine Cg.small ?_ e4.1 e4.2
        refine e3.trans (((Cg.refl p _).add ((Cg.emod p (0 - q)).mul (Cg.refl p 1))).trans ?_)
        have := hqc.symm.sub0
        exact (Cg.of (by omega)).trans this
      have hpv2 : ∀ x, Cg p (Alg.pv (A'.take (hi - 1)) x) (Alg.pv (A'.take hi) x) := fun x => Xq0 (fun i => by
        rcases Nat.lt_or_ge i (hi - 1) with h9 | h9
        · rw [Xbp i h9, Xbp i (by omega)]; exact Cg.refl p _
        · rw [Alg.Xcw (l := A'.take (hi - 1)) (by rw [List.length_take]; omega)]
          by_cases h10 : i = hi - 1
          · rw [Xbp i (by omega), h10, hz]; exact Cg.refl p _
          · rw [Alg.Xcw (l := A'.take hi) (by rw [List.length_take]; omega)]; exact Cg.refl p _) x
      unfold X8m psub3
      rw [e0, w64_id (x := (hi : Int) - 1) (by omega) (by omega), if_pos ⟨by omega, by omega⟩]
      unfold psub
      rw [if_pos ⟨by omega, by omega, by omega, by omega⟩]
      simp only [Option.bind_some]
      rw [X5c (by omega) (by omega) (by omega)]
      simp only [Option.bind_some]
      have er : ((A'.drop ((0 : Int) + 0).toNat).take ((0 : Int) + ((hi : Int) - 1) - (0 + 0)).toNat) = A'.take (hi - 1) := by
        rw [show ((0 : Int) + 0).toNat = 0 by omega, show ((0 : Int) + ((hi : Int) - 1) - (0 + 0)).toNat = hi - 1 by omega, List.drop_zero]
      rw [er, Xms (by rw [List.length_take]; omega)]
      simp only [Option.bind_some]
      have htn := Xei (A'.take (hi - 1))
      rw [List.length_take] at htn
      rw [if_pos ⟨by omega, by omega, by omega, by omega⟩]
      simp only [Option.bind_some]
      have elt : (A'.take (hi - 1)).length = hi - 1 := by rw [List.length_take]; omega
      rw [elt, show ((0 : Int) + 0) = 0 by omega, Xmy (by omega), show ((0 : Int) + (tn (A'.take (hi - 1)) : Int)) = (tn (A'.take (hi - 1)) : Int) by omega]
      have ht2 : A'.take (tn (A'.take (hi - 1))) = trim (A'.take (hi - 1)) := by
        unfold trim
        rw [List.take_take, Nat.min_eq_left (by omega)]
      refine Xrj hp hE hb hby hla hEl f A' (Q.set at0 q) (tn (A'.take (hi - 1))) (by omega) lA' (by omega) EA' ?_ (by simp [h6]) (fun j hj => ?_) (fun x => ?_)
      · intro y hy
        rcases List.mem_or_eq_of_mem_set hy with hy | rfl
        · exact h5 y hy
        · exact hq1
      · have := h7 j (by omega)
        unfold Alg.gd at this ⊢
        rw [List.getD_eq_getElem?_getD, List.getElem?_set_ne (by omega), ← List.getD_eq_getElem?_getD]
        exact this
      · rw [ht2, Xo2 x Q at0 q (by omega) (h7 at0 (by omega))]
        refine (h8 x).trans ?_
        have h9 := ((Xht (p := p) (A'.take (hi - 1)) x).trans (hpv2 x)).trans (hpv x)
        refine Cg.symm (((Cg.refl p _).add h9).trans (Cg.of ?_))
        rw [Int.add_mul]; omega
    · rw [if_neg (by omega)]
      unfold X35
      rw [Xid (by omega), Option.bind_some, X5c (by omega) (by omega) (by omega)]
      simp only [Option.bind_some]
      have er : ((A.drop (0 : Int).toNat).take ((hi : Int) - 0).toNat) = A.take hi := by
        rw [show ((hi : Int) - 0).toNat = hi by omega]; simp
      rw [er, Xid (by rw [List.length_take]; omega)]
      exact ⟨Q, A.take hi, rfl, h5, fun x hx => h4 x (List.mem_of_mem_take hx), h6, by rw [List.length_take]; omega, h8⟩
theorem Xl3 {p : Int} (hf : Fd p) {E a : List Int} (ha : El p a) (hal : a.length ≤ 500) (hE : El p E) (hEl : E.length ≤ 500) :
    ∃ Q r, X9u p a (E ++ [1]) = some (trim Q, trim r, 0) ∧ El p Q ∧ El p r ∧ Q.length ≤ a.length - E.length ∧ r.length ≤ E.length ∧ ∀ x, Cg p (Alg.pv a x) (Alg.pv Q x * Alg.pv (E ++ [1]) x + Alg.pv r x) := by
  have hp := hf.rng
  have hE1 : El p (E ++ [1]) := hE.app (El.cons.2 ⟨⟨by omega, by omega⟩, El.nil⟩)
  have htl := Xbu a
  have htn := Xei a
  unfold X9u
  rw [Xkr hf (by
    intro x hx
    simp only [List.mem_cons, List.not_mem_nil, or_false] at hx
    rcases hx with rfl | rfl
    · exact ⟨ha, by omega⟩
    · exact ⟨hE1, by simp; omega⟩)]
  simp only [Option.bind_some]
  rw [if_neg (by simp), Xid (by omega), Option.bind_some, Xkp (by simp; omega), Option.bind_some, Xkn E (by omega), if_neg (by simp; omega)]
  rw [show ((E ++ [1] : List Int).length : Int) = ((E.length + 1 : Nat) : Int) by simp, w64_id (x := ((trim a).length : Int) - ((E.length + 1 : Nat) : Int)) (by omega) (by omega), w64_id (x := ((trim a).length : Int) - ((E.length + 1 : Nat) : Int) + 1) (by omega) (by omega)]
  have em : max 0 (((trim a).length : Int) - ((E.length + 1 : Nat) : Int) + 1) = (((trim a).length + 1 - (E.length + 1) : Nat) : Int) := by omega
  rw [em, Xfi _ (by omega), Option.bind_some, w64_id (by omega) (by omega), show ((E.length + 1 : Nat) : Int) - 1 = (E.length : Int) by omega, X53 (by simp), Option.bind_some, Xej]
  obtain ⟨b, b1, b2, b3⟩ := Xpr hf
  rw [b1, Option.bind_some]
  obtain ⟨Q, r, e1, e2, e3, e4, e5, e6⟩ := Xrj hp (a := a) hE1 b2 b3 (la := (trim a).length) (by omega) (by omega) big (trim a) (List.replicate ((trim a).length + 1 - (E.length + 1)) 0) (trim a).length (by simp only [big]; omega) rfl (Nat.le_refl _) (Xkm ha) (Xcq hp.1 _) (by simp) (fun j _ => Xdk _ j) (fun x => by
    rw [List.take_of_length_le (Nat.le_refl _), Alg.Xia, Int.zero_mul, Int.zero_add]
    exact (Xht a x).symm)
  exact ⟨Q, r, e1, e2, e3, by omega, e5, e6⟩
theorem Xii {p : Int} (hp : 2 ≤ p ∧ p ≤ 65521) {f g : List Int} (hg : El p g) (hgl : g.length ≤ 1000) (hfg : ∀ x, Cg p (Alg.pv g x) (Alg.pv f x)) : ∀ (l : List (Int × Bool)) (i : Nat) (acc : List Int), ((i + l.length : Nat) : Int) < p → acc.length + l.length ≤ 1000 → El p ((kn l i).map (·.2)) →
    X2n p g l i acc = some (acc ++ ((kn l i).filter (Alg.bad p f)).map (·.1))
  | [], i, acc, _, _, _ => by simp [X2n, kn]
  | c :: l, i, acc, h1, h2, h3 => by
    simp only [List.length_cons] at h1 h2
    have ih := fun acc => Xii hp hg hgl hfg l (i + 1) acc (by rw [show i + 1 + l.length = i + (l.length + 1) by omega]; exact h1)
    rw [X2n]
    unfold X6u
    unfold kn at h3 ⊢
    by_cases hk : c.2 = true
    · rw [if_pos hk] at h3 ⊢
      obtain ⟨hy, h3⟩ := El.cons.1 h3
      dsimp only at hy
      rw [if_pos hk, w64_id (by omega) (by omega)]
      obtain ⟨v, v1, v2, v3⟩ := Xdl hp hg (by omega) (x := (i : Int) + 1) ⟨by omega, by omega⟩
      rw [v1]
      simp only [Option.bind_some]
      have hb : Alg.bad p f ((i : Int) + 1, c.1) = decide (v ≠ c.1) := by
        cases hb : Alg.bad p f ((i : Int) + 1, c.1) with
        | false =>
          have h4 := Alg.Xco hb
          have h5 := (v3.trans (hfg _)).trans h4
          have := h5.eq v2.1 v2.2 hy.1 hy.2
          simp [this]
        | true =>
          have h4 := Alg.Xg7 hb
          have : v ≠ c.1 := fun e => h4 (((hfg _).symm.trans v3.symm).trans (Cg.of e))
          simp [this]
      rw [List.filter_cons, hb]
      by_cases hv : v ≠ c.1
      · rw [if_pos (by simp [hv]), if_pos (by simp [hv]), Xk (by simp; omega), Option.bind_some, ih _ (by simp; omega) h3]
        simp
      · rw [if_neg (by simp [hv]), if_neg (by simp [hv]), ih _ (by omega) h3]
    · rw [if_neg hk] at h3 ⊢
      rw [if_neg hk]
      simp only [Option.bind_some]
      rw [if_neg (by simp), ih _ (by omega) h3]
end Go.Proofs.YtfcicopgdahmcaaGreatDoor
end
